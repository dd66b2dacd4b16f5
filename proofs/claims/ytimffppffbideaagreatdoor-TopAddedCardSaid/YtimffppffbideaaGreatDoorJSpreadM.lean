import Derived.Test.YtimffppffbideaaGreatDoorJUsedM
set_option linter.unusedSimpArgs false
set_option linter.unusedVariables false
set_option maxRecDepth 100000
set_option maxHeartbeats 8000000
namespace Go.Proofs.YtimffppffbideaaGreatDoor
namespace Mat
def posFrom:Nat→List Bool→List Nat
 |_,[]=>[]
 |i,true::l=>i::posFrom (i+1) l
 |i,false::l=>posFrom (i+1) l
theorem posFrom_snoc:∀(l:List Bool) (i:Nat) (b:Bool),posFrom i (l++[b])=posFrom i l++(if b=true then[i+l.length]else[]):=by
 intro l;induction l with
 |nil=>intro i b;cases b<;>rfl
 |cons a l ih=>
  intro i b;have e:i+1+l.length=i+(a::l).length:=by simp;omega
  cases a
  ·show posFrom (i+1) (l++[b])=posFrom (i+1) l++_
   rw[ih,e]
  ·show i::posFrom (i+1) (l++[b])=(i::posFrom (i+1) l)++_
   rw[ih,e];rfl
theorem posFrom_lt:∀(l:List Bool) (i:Nat),∀p∈posFrom i l,i≤p∧p<i+l.length:=by
 intro l;induction l with
 |nil=>intro i p h;simp[posFrom]at h
 |cons a l ih=>
  intro i p h;cases a
  ·have:=ih (i+1) p h
   simp;omega
  ·rcases List.mem_cons.1 h with rfl|h
   ·simp
   ·have:=ih (i+1) p h
    simp;omega
theorem posFrom_len:∀(l:List Bool) (i:Nat),(posFrom i l).length=(l.filter fun b=>b).length:=by
 intro l;induction l with
 |nil=>intro i;rfl
 |cons a l ih=>
  intro i;cases a
  ·simpa[posFrom]using ih (i+1)
  ·simpa[posFrom]using ih (i+1)
def fillAt:List Nat→List Int→List Int→List Int
 |p::at_,j::js,L=>fillAt at_ js (L.set p j)
 |_,_,L=>L
theorem fillAt_snoc:∀(at_:List Nat) (js L:List Int) (p:Nat) (j:Int),at_.length=js.length→fillAt (at_++[p]) (js++[j]) L=(fillAt at_ js L).set p j:=by
 intro at_;induction at_ with
 |nil=>intro js L p j h;cases js with
  |nil=>rfl
  |cons=>simp at h
 |cons a at_ ih=>
  intro js L p j h;cases js with
  |nil=>simp at h
  |cons b js=>exact ih js (L.set a b) p j (by simpa using h)
theorem fillAt_len:∀(at_:List Nat) (js L:List Int),(fillAt at_ js L).length=L.length:=by
 intro at_;induction at_ with
 |nil=>intro js L;rfl
 |cons a at_ ih=>
  intro js L;cases js with
  |nil=>rfl
  |cons b js=>show(fillAt at_ js (L.set a b)).length=_;rw[ih,List.length_set]
theorem spread_nil:∀l:List Bool,spread l []=List.replicate l.length (-1):=by
 intro l;induction l with
 |nil=>rfl
 |cons a l ih=>cases a<;>(show-1::spread l []=_;rw[ih];rfl)
theorem fillAt_nil (at_:List Nat)(L:List Int):fillAt at_ [] L=L:=by cases at_<;>rfl
theorem fillAt_spread:∀(l:List Bool) (js pre:List Int),fillAt (posFrom pre.length l) js (pre++List.replicate l.length (-1))=pre++spread l js:=by
 intro l;induction l with
 |nil=>intro js pre;cases js<;>simp[posFrom,fillAt,spread]
 |cons a l ih=>
  intro js pre;have e1:(pre++[-1]).length=pre.length+1:=by simp
  cases a
  ·have h:=ih js (pre++[-1]);rw[e1]at h;show fillAt (posFrom (pre.length+1) l) js (pre++List.replicate (l.length+1) (-1))=pre++(-1::spread l js)
   rw[List.replicate_succ];simpa using h
  ·cases js with
   |nil=>
    rw[fillAt_nil,spread_nil]
   |cons j js=>
    have h:=ih js (pre++[j]);have e2:(pre++[j]).length=pre.length+1:=by simp
    rw[e2]at h;show fillAt (posFrom (pre.length+1) l) js ((pre++List.replicate (l.length+1) (-1)).set pre.length j)=pre++(j::spread l js)
    rw[List.replicate_succ,List.set_append_right _ _ (Nat.le_refl _),Nat.sub_self,List.set_cons_zero];simpa using h
theorem fillAt_all (l:List Bool)(js:List Int):fillAt (posFrom 0 l) js (List.replicate l.length (-1))=spread l js:=fillAt_spread l js []
end Mat
section
open Go.RowKit Go.Lib Go.Sort
open Mat
def idB (x:Vh):Bool:=identB x.v
def pgOf (x:Vh):Pg:=⟨⟨x.id,x.v.pt,x.v.t,x.v.tag,x.v.pl,1,x.v.sc,x.src⟩,x.sA,x.sc⟩
def lnOf (x:Vh):Int:=x.v.lane
def psL (vs:List Vh)(i:Nat):List Pg:=((vs.take i).filter idB).map pgOf
def lnL (vs:List Vh)(i:Nat):List Int:=((vs.take i).filter idB).map lnOf
def atL (vs:List Vh)(i:Nat):List Int:=(posFrom 0 ((vs.take i).map idB)).map Int.ofNat
theorem psL_yes {vs:List Vh}{i:Nat}{x:Vh}(h:vs[i]? =some x)(hx:idB x=true):psL vs (i+1)=psL vs i++[pgOf x]:=by
 unfold psL;rw[filt_snoc idB h,if_pos hx,List.map_append];rfl
theorem psL_no {vs:List Vh}{i:Nat}{x:Vh}(h:vs[i]? =some x)(hx:idB x=false):psL vs (i+1)=psL vs i:=by
 unfold psL;rw[filt_snoc idB h,if_neg (by rw[hx];simp),List.append_nil]
theorem lnL_yes {vs:List Vh}{i:Nat}{x:Vh}(h:vs[i]? =some x)(hx:idB x=true):lnL vs (i+1)=lnL vs i++[lnOf x]:=by
 unfold lnL;rw[filt_snoc idB h,if_pos hx,List.map_append];rfl
theorem lnL_no {vs:List Vh}{i:Nat}{x:Vh}(h:vs[i]? =some x)(hx:idB x=false):lnL vs (i+1)=lnL vs i:=by
 unfold lnL;rw[filt_snoc idB h,if_neg (by rw[hx];simp),List.append_nil]
theorem atL_step {vs:List Vh}{i:Nat}{x:Vh}(h:vs[i]? =some x):atL vs (i+1)=atL vs i++if idB x=true then[(i:Int)]else[]:=by
 have hl:((vs.take i).map idB).length=i:=by
  rw[List.length_map,List.length_take];have:=(List.getElem?_eq_some_iff.1 h).1
  omega
 unfold atL;rw[List.take_add_one,h,Option.toList_some,List.map_append];show(posFrom 0 ((vs.take i).map idB++[idB x])).map Int.ofNat=_
 rw[posFrom_snoc,List.map_append,hl,Nat.zero_add];congr 1;split<;>rfl
theorem atL_yes {vs:List Vh}{i:Nat}{x:Vh}(h:vs[i]? =some x)(hx:idB x=true):atL vs (i+1)=atL vs i++[(i:Int)]:=by rw[atL_step h,if_pos hx]
theorem atL_no {vs:List Vh}{i:Nat}{x:Vh}(h:vs[i]? =some x)(hx:idB x=false):atL vs (i+1)=atL vs i:=by rw[atL_step h,if_neg (by rw[hx];simp),List.append_nil]
theorem filt_idB (vs:List Vh):(vs.map Vh.v).filter identB=(vs.filter idB).map Vh.v:=by rw[List.filter_map];rfl
theorem psL_full (vs:List Vh):psL vs vs.length=(vs.filter idB).map pgOf:=by unfold psL;rw[List.take_length]
theorem lnL_full (vs:List Vh):lnL vs vs.length=(vs.filter idB).map lnOf:=by unfold lnL;rw[List.take_length]
theorem atL_full (vs:List Vh):atL vs vs.length=(posFrom 0 (vs.map idB)).map Int.ofNat:=by unfold atL;rw[List.take_length]
theorem psL_len (vs:List Vh)(i:Nat):(psL vs i).length≤vs.length:=by unfold psL;rw[List.length_map];exact filt_len idB vs i
theorem lnL_len (vs:List Vh)(i:Nat):(lnL vs i).length=(psL vs i).length:=by unfold lnL psL;rw[List.length_map,List.length_map]
theorem map_idB (vs:List Vh):(vs.map Vh.v).map identB=vs.map idB:=by rw[List.map_map];rfl
theorem filt_map_len (vs:List Vh):((vs.map idB).filter fun b=>b).length=(vs.filter idB).length:=by
 rw[List.filter_map,List.length_map];rfl
theorem at_len (vs:List Vh):(posFrom 0 (vs.map idB)).length=(vs.filter idB).length:=by rw[posFrom_len,filt_map_len]
def ptlL (vs:List Vh):List (ByteArray×Int×Int):=((vs.map Vh.v).filter identB).map ptl
theorem ptl_R (vs:List Vh):PtlR (psL vs vs.length) (lnL vs vs.length) (ptlL vs):=by
 unfold ptlL;rw[psL_full,lnL_full,filt_idB];refine⟨by simp,by simp,fun i p l hp hl=> ?_⟩;rw[List.getElem?_map]at hp hl ⊢;rw[List.getElem?_map];cases h:(vs.filter idB)[i]? with
 |none=>rw[h]at hp;simp at hp
 |some x=>
  rw[h]at hp hl;simp only[Option.map_some,Option.some.injEq]at hp hl ⊢;rw[←hp,←hl];rfl
theorem loopAt_big {vs:List Vh}{ls:List Sn}(h:8<(psL vs vs.length).length):loopAt (vs.map Vh.v) ls=List.replicate vs.length (-1):=by
 unfold loopAt;rw[psL_full,List.length_map]at h;rw[if_pos (by rw[filt_idB,List.length_map];exact h),List.length_map]
theorem loopAt_small {vs:List Vh}{ls:List Sn}(h:¬8<(psL vs vs.length).length):loopAt (vs.map Vh.v) ls=fillAt (posFrom 0 (vs.map idB)) (best (loopsV (ptlL vs) ls)) (List.replicate vs.length (-1)):=by
 unfold loopAt;rw[psL_full,List.length_map]at h;rw[if_neg (by rw[filt_idB,List.length_map];exact h),map_idB];have:=fillAt_all (vs.map idB) (best (loopsV (ptlL vs) ls))
 rw[List.length_map]at this;rw[this];rfl
theorem prt_neg (n:Nat):prt (fun _=> -1) n n=List.replicate n (-1):=by
 rw[prt_full];exact List.map_const' ..▸by simp
end
section
open Go.RowKit Go.Lib Go.Sort
open Mat
theorem pne1:76≠3:=by decide
theorem assignLoops_any (x0 x1 x2 x3 x4 x5 y0 y2 y3:Value){vA lA:Option Addr}(vc lc:Nat){vs:List Vh}{ls:List Sn}{xb:Nat}{w:World}(hB:Blk w xb #[x0,x1,x2,x3,x4,x5,y0,.slice lA ls.length lc,y2,y3,.slice vA vs.length vc] 137)(hV:Rd encVh 10 w w.heap.size vA vs)(hL:Rd encSn 11 w w.heap.size lA ls)(hok:∀x∈ls,SnOk x)
  (hvt:∀x∈vs,0≤x.v.t∧x.v.t≤1000000000000) (hvl:vs.length≤50) (hll:ls.length≤8):
  Calls Tryz.prog 51 #[.pointer (some ⟨xb,0,none⟩)] w fun e w'=>∃(jA:Option Addr) (jc:Nat) (cost:Int),e=.returned (.tuple #[.slice jA vs.length jc,.int .i64 cost])∧Own 3 encI 1 w' w.heap.size jA jc (loopAt (vs.map Vh.v) ls)∧Below w.heap.size w w':=by
 have HV:=Lib.hid hV;have HL:=Lib.hid hL;have HOK:=Lib.hid hok;have HVT:=Lib.hid hvt;have HBX:=Lib.hid hB;have y10:=hB.cell 10 (v:=.slice vA vs.length vc) rfl;obtain⟨n,hn⟩:∃n,vs.length=n:=⟨_,rfl⟩;have HN:=Lib.hid hn;rw[hn]at y10 hvl ⊢;have hws:w.heap.size≤w.heap.size:=Nat.le_refl _;clear hV hL hok hvt hB hn;go_enter Tryz.func51,Tryz.ntmps51;go_wp2_with(refine wpList_makeZ rfl (.tmp 19) (.tmp 19) tyI encI_ok rfl w.heap.size 0 (.int .i64 0) (by kernel_rfl) rfl .i64 .i64 n rfl rfl (by omega) (by omega) hws ?_;intro w1 hu1 hb1 hs1;have z10:w1.cell? ⟨xb,10,none⟩=some (.slice vA n vc):=(by have:=(HBX.out.below hb1 HBX.out.lt).cell 10 (v:=.slice vA vs.length vc) rfl;rwa [HN.out]at this))
 obtain⟨lb,hlb⟩:∃b,w.heap.size=b:=⟨_,rfl⟩;have HLB:=Lib.hid hlb;rw[hlb]at hu1 hb1 hs1;rw[hlb];have HB1:=Lib.hid hb1;have HS1:=Lib.hid hs1;have HU1:Hid (Own 3 encI 1 w1 lb (some ⟨lb,0,none⟩) n (prt (fun _=> -1) n 0)):=Lib.hid (by rw[←prt_zero];exact hu1);clear hu1 hb1 hs1 y10 z10 hws hlb;go_loopw [4,5,6,26] (fun s4 s5 s6 si wx=>∃(i:Nat) (pA:Option Addr) (pc:Nat) (ps:List Pg) (nA:Option Addr) (nc:Nat) (ns:List Int) (aA:Option Addr) (ac:Nat) (ats:List Int),i≤n∧si=.int .i64 i∧s4=.slice pA ps.length pc∧s5=.slice nA ns.length nc∧s6=.slice aA ats.length ac∧Hid (ps=psL vs i)∧Hid (ns=lnL vs i)∧Hid (ats=atL vs i)∧Hid (Own 76 encPg 8 wx w1.heap.size pA pc ps)∧Hid (Own 3 encI 1 wx w1.heap.size nA nc ns)∧Hid (Own 3 encI 1 wx w1.heap.size aA ac ats)∧Hid (Ap nA aA)∧Hid (Own 3 encI 1 wx lb (some ⟨lb,0,none⟩) n (prt (fun _=> -1) n i))∧Hid (BelX lb w1.heap.size w1 wx)) (fun _ _ _ si _=>n-(RowKit.intOf si).toNat)
 case atStart=>exact⟨0,none,0,[],none,0,[],none,0,[],Nat.zero_le _,rfl,rfl,rfl,rfl,rfl,rfl,rfl,Own.nil _ _,Own.nil _ _,Own.nil _ _,(fun g h=>by cases h),HU1,BelX.refl _ _ _⟩
 case round=>
  clear HU1;obtain⟨i,pA,pc,ps,nA,nc,ns,aA,ac,ats,hi,rfl,rfl,rfl,rfl,HPV,HNV,HAV,HP,HNS,HA,HAP,HU,HX⟩:=hrel;have i0:(0:Int)≤(i:Int):=by omega
  by_cases hin:i<n
  ·have HBW:=Lib.hid (HB1.out.trans HX.out.b);have hRV:Rd encVh 10 wr wr.heap.size vA vs:=HV.out.st (by rw[HLB.out];exact HBW.out);obtain⟨b,off,x,hA,hbl,hx,hc⟩:=hRV.at_ (i:=i) (by rw[HN.out];exact hin);subst hA;have HI:=Lib.hid hin;have HXI:=Lib.hid hx;have HPY:=Lib.hid (psL_yes hx);have HPN:=Lib.hid (psL_no hx);have HNY:=Lib.hid (lnL_yes hx);have HNN:=Lib.hid (lnL_no hx);have HAY:=Lib.hid (atL_yes hx);have HAN:=Lib.hid (atL_no hx);have hpl:ps.length≤100:=by rw[HPV.out];have:=psL_len vs i;have:=HN.out;omega
   have hnl:ns.length≤100:=by rw[HNV.out,lnL_len,←HPV.out];exact hpl
   have hal:ats.length≤100:=by
    rw[HAV.out];unfold atL;rw[List.length_map,posFrom_len];refine Nat.le_trans (List.length_filter_le _ _) ?_;rw[List.length_map,List.length_take];omega
   have i1:(i:Int)<(n:Int):=by omega
   have i2:decide (i<n)=true:=decide_eq_true hin;have HIDV:=Lib.hid (show idB x=(!(emp x.v.tag)|| !(emp x.v.pl))from rfl);obtain⟨⟨vrr,vpt,vt,vtg,vpl,vsc,vln⟩,vrA,vrc,vid,vsr,vsA,vsc2⟩:=x;simp only at HIDV;simp only[pgOf,lnOf]at HPY HNY;obtain⟨nr,hnr⟩:∃k,vrr.length=k:=⟨_,rfl⟩;obtain⟨nsr,hnsr⟩:∃k,vsr.length=k:=⟨_,rfl⟩;simp only[encVh]at hc;rw[hnr,hnsr]at hc;have e0:wr.cell? ⟨b,off+i*10,none⟩=some (.slice vrA nr vrc):=by simpa using hc 0 _ rfl
   have e1:wr.cell? ⟨b,off+i*10+1,none⟩=some (.string vid):=hc 1 _ rfl;have e2:wr.cell? ⟨b,off+i*10+2,none⟩=some (.string vpt):=hc 2 _ rfl;have e3:wr.cell? ⟨b,off+i*10+3,none⟩=some (.int .i64 vt):=hc 3 _ rfl;have e4:wr.cell? ⟨b,off+i*10+4,none⟩=some (.string vtg):=hc 4 _ rfl;have e5:wr.cell? ⟨b,off+i*10+5,none⟩=some (.string vpl):=hc 5 _ rfl;have e6:wr.cell? ⟨b,off+i*10+6,none⟩=some (.int .i64 1):=hc 6 _ rfl;have e7:wr.cell? ⟨b,off+i*10+7,none⟩=some (.int .i64 vsc):=hc 7 _ rfl;have e8:wr.cell? ⟨b,off+i*10+8,none⟩=some (.slice vsA nsr vsc2):=hc 8 _ rfl;have e9:wr.cell? ⟨b,off+i*10+9,none⟩=some (.int .i64 vln):=hc 9 _ rfl;obtain⟨y,hy⟩:∃y,wr.heap.size=y:=⟨_,rfl⟩;obtain⟨Y,hY⟩:∃Y,wr.alloc (.cells #[.slice vrA nr vrc,.string vid,.string vpt,.int .i64 vt,.string vtg,.string vpl,.int .i64 1,.int .i64 vsc,.slice vsA nsr vsc2,.int .i64 vln] 145)=Y:=⟨_,rfl⟩;have BY:Blk Y y #[.slice vrA nr vrc,.string vid,.string vpt,.int .i64 vt,.string vtg,.string vpl,.int .i64 1,.int .i64 vsc,.slice vsA nsr vsc2,.int .i64 vln] 145:=by rw[←hy,←hY];exact Blk.new wr _ _
   have hUY:Own 3 encI 1 Y lb (some ⟨lb,0,none⟩) n (prt (fun _=> -1) n i):=by rw[←hY];exact HU.out.alloc _
   have hui:=prt_at (fun _=>(-1:Int)) (j:=i) hin;rw[if_neg (Nat.lt_irrefl _)]at hui;have u0:=hUY.cells encI_ok rfl hui (j:=0) rfl;rw[Nat.mul_one,Nat.add_zero]at u0;have uz:=hUY.frozen rfl i;obtain⟨X1,hX1⟩:∃X,Y.setCell ⟨lb,i,none⟩ (.int .i64 (-1))=X:=⟨_,rfl⟩;have hly:lb<y:=by have h1:=HS1.out;have h2:=HX.out.size;omega
   have hw1y:w1.heap.size≤y:=by rw[←hy];exact HX.out.size
   have HY1:=Lib.hid hly;have HUX:Hid (Own 3 encI 1 X1 lb (some ⟨lb,0,none⟩) n (prt (fun _=> -1) n (i+1))):=Lib.hid (by
    have:=hUY.stored encI_ok rfl hui (j:=0) (by omega) (y:=(-1:Int)) (u:=.int .i64 (-1)) rfl
    rw[Nat.mul_one,Nat.add_zero,hX1]at this;rwa [prt_set (fun _=>(-1:Int)) hin]at this)
   have hoX:∀k,k≠lb→X1.heap[k]? =Y.heap[k]? :=fun k hk=>by rw[←hX1];exact set_oth _ _ _ _ hk
   have HBS:Hid (Blk X1 y #[.slice vrA nr vrc,.string vid,.string vpt,.int .i64 vt,.string vtg,.string vpl,.int .i64 1,.int .i64 vsc,.slice vsA nsr vsc2,.int .i64 vln] 145):=Lib.hid (BY.same (hoX y (by omega)));have HXX:Hid (BelX lb w1.heap.size w1 X1):=Lib.hid (by rw[←hX1,←hY];exact(HX.out.al HX.out.size (by have h1:=HS1.out;have h2:=HX.out.size;omega) _).set i _);have hal1:∀{g:Nat},w1.heap.size≤g→g≠lb:=fun h=>by have:=HS1.out;omega
   have HPX:Hid (Own 76 encPg 8 X1 w1.heap.size pA pc ps):=Lib.hid ((show Own 76 encPg 8 Y w1.heap.size pA pc ps by rw[←hY];exact HP.out.alloc _).keepB (fun g hg _=>hoX g (hal1 (HP.out.lt2 hg).1)));have HNX:Hid (Own 3 encI 1 X1 w1.heap.size nA nc ns):=Lib.hid ((show Own 3 encI 1 Y w1.heap.size nA nc ns by rw[←hY];exact HNS.out.alloc _).keepB (fun g hg _=>hoX g (hal1 (HNS.out.lt2 hg).1)));have HAX:Hid (Own 3 encI 1 X1 w1.heap.size aA ac ats):=Lib.hid ((show Own 3 encI 1 Y w1.heap.size aA ac ats by rw[←hY];exact HA.out.alloc _).keepB (fun g hg _=>hoX g (hal1 (HA.out.lt2 hg).1)));have CI:=Lib.hid (fun(X:World)=>ident_any vtg vpl (.slice vrA nr vrc) (.string vid) (.string vpt) (.int .i64 vt) (.int .i64 1) (.int .i64 vsc) (.slice vsA nsr vsc2) (.int .i64 vln) X);have HNSR:=Lib.hid hnsr;have HPLT:=Lib.hid (fun g (hg:pA=some ⟨g,0,none⟩)=>show g<y by rw[←hy];exact(HP.out.lt2 hg).2);clear hc hbl hx hi hin BY hUY hui hoX hnr hnsr hRV;go_wp2_with(refine wpList_boxLoad rfl (ty:=145) (x:=.tmp 9) (cs:=#[.slice vrA nr vrc,.string vid,.string vpt,.int .i64 vt,.string vtg,.string vpl,.int .i64 1,.int .i64 vsc,.slice vsA nsr vsc2,.int .i64 vln]) rfl HBS.out rfl ⟨_,Tryz.underlying145,by kernel_rfl⟩ ?_)
   with_reducible refine(CI.out X1).mono ?_
   rintro e W2 ⟨rfl,hb2⟩;have HP2:=Lib.hid (HPX.out.keep hb2 (Nat.le_refl _));have HN2:=Lib.hid (HNX.out.keep hb2 (Nat.le_refl _));have HA2:=Lib.hid (HAX.out.keep hb2 (Nat.le_refl _));have HU2:=Lib.hid (HUX.out.keep hb2 (Nat.le_refl _));have HS2:=Lib.hid (HBS.out.below hb2 HBS.out.lt);have HX2:=Lib.hid (HXX.out.then hb2 HXX.out.size (Nat.le_trans (Nat.le_of_lt HS1.out) HXX.out.size));have hbs2:w1.heap.size≤W2.heap.size:=HX2.out.size;rw[←HIDV.out];clear hb2 HPX HNX HAX HUX HBS HXX CI u0 uz hX1 hY hy hal1 e0 e1 e2 e3 e4 e5 e6 e7 e8 e9;cases hid:idB ⟨⟨vrr,vpt,vt,vtg,vpl,vsc,vln⟩,vrA,vrc,vid,vsr,vsA,vsc2⟩
   ·have HE1:=Lib.hid (HPN.out hid);have HE2:=Lib.hid (HNN.out hid);have HE3:=Lib.hid (HAN.out hid);clear hid;go_wp2_with fail
    go_roundw
    case rel=>exact⟨i+1,pA,pc,ps,nA,nc,ns,aA,ac,ats,HI.out,by go_num,rfl,rfl,rfl,Lib.hid (HPV.out.trans HE1.out.symm),Lib.hid (HNV.out.trans HE2.out.symm),Lib.hid (HAV.out.trans HE3.out.symm),HP2,HN2,HA2,HAP,HU2,HX2⟩
    case measure=>have:=HI.out;simp[RowKit.intOf];omega
   ·have HE1:=Lib.hid (HPY.out hid);have HE2:=Lib.hid (HNY.out hid);have HE3:=Lib.hid (HAY.out hid);have f1:=HS2.out.cell 1 (v:=.string vid) rfl;have f2:=HS2.out.cell 2 (v:=.string vpt) rfl;have f3:=HS2.out.cell 3 (v:=.int .i64 vt) rfl;have f4:=HS2.out.cell 4 (v:=.string vtg) rfl;have f5:=HS2.out.cell 5 (v:=.string vpl) rfl;have f6:=HS2.out.cell 6 (v:=.int .i64 1) rfl;have f7:=HS2.out.cell 7 (v:=.int .i64 vsc) rfl;have f8:=HS2.out.cell 8 (v:=.slice vsA nsr vsc2) rfl;clear hid;obtain⟨vx,hvx⟩:∃p:Pg,p=(⟨⟨vid,vpt,vt,vtg,vpl,1,vsc,vsr⟩,vsA,vsc2⟩:Pg):=⟨_,rfl⟩;have HVX:=Lib.hid hvx;have HEN:Hid ((#[Value.string vid,.string vpt,.int .i64 vt,.string vtg,.string vpl,.int .i64 1,.int .i64 vsc,.slice vsA nsr vsc2]:Array Value).toList=encPg vx):=Lib.hid (by rw[hvx,←HNSR.out];rfl);clear hvx;go_wp2_with(first|(at_builtin;refine wpList_app1a rfl (.tmp 36) (.tmp 39) tyPg encPg_ok rfl vx HEN.out _ rfl (by simp) HP2.out rfl (by first|rfl|assumption|simp) (by first|omega|(simp;omega)) (by first|omega|(simp;omega)) hbs2 ?_;intro A3 c3 w3 hown3 hb3 hs3 hf3 hl3;have HP3:=Lib.hid hown3;have HN3:=Lib.hid (HN2.out.keepB (w':=w3) (fun g hg hl=>hf3 g hl (fun g' hg' e=>HP2.out.apart HN2.out pne1 hg' hg e.symm)));have HA3:=Lib.hid (HA2.out.keepB (w':=w3) (fun g hg hl=>hf3 g hl (fun g' hg' e=>HP2.out.apart HA2.out pne1 hg' hg e.symm)));have HU3:=Lib.hid (HU2.out.keepB (w':=w3) (fun g hg hl=>hf3 g hl (fun g' hg' e=>HP2.out.apart HU2.out pne1 hg' hg e.symm)));have BS3:Blk w3 y #[.slice vrA nr vrc,.string vid,.string vpt,.int .i64 vt,.string vtg,.string vpl,.int .i64 1,.int .i64 vsc,.slice vsA nsr vsc2,.int .i64 vln] 145:=HS2.out.same (hf3 y HS2.out.lt (fun g hg=>Nat.ne_of_gt (HPLT.out g hg)));have f9:=BS3.cell 9 (v:=.int .i64 vln) rfl;have HX3:=Lib.hid (HX2.out.then hb3 (Nat.le_refl _) (Nat.le_of_lt HS1.out));have hbs3:w1.heap.size≤w3.heap.size:=HX3.out.size)|((at_builtin;refine wpList_app1a rfl (.tmp 41) (.tmp 44) tyI encI_ok rfl vln rfl _ rfl (by simp) HN3.out rfl (by first|rfl|assumption|simp) (by first|omega|(simp;omega)) (by first|omega|(simp;omega)) hbs3 ?_;intro A4 c4 w4 hown4 hb4 hs4 hf4 hl4;have hbel4:=((Below.refl w1.heap.size w3)).trans hb4);have HN4:=Lib.hid hown4;have HP4:=Lib.hid (HP3.out.keepB (w':=w4) (fun g hg hl=>hf4 g hl (fun g' hg' e=>HP3.out.apart HN3.out pne1 hg hg' e)));have HA4:=Lib.hid (HA3.out.keepB (w':=w4) (fun g hg hl=>hf4 g hl (fun g' hg' e=>HAP.out g' hg' (by rw[←e];exact hg))));have HU4:=Lib.hid (HU3.out.keepB (w':=w4) (fun g hg hl=>hf4 g hl (fun g' hg' e=>by injection hg with hg;injection hg with hg;have h1:=(HN3.out.lt2 hg').1;have h2:=HS1.out;omega)));have HAP4:=Lib.hid (HAP.out.moved HA3.out hl4);have HX4:=Lib.hid (HX3.out.then hb4 (Nat.le_refl _) (Nat.le_of_lt HS1.out));have hbs4:w1.heap.size≤w4.heap.size:=HX4.out.size)|((at_builtin;refine wpList_app1a rfl (.tmp 46) (.tmp 48) tyI encI_ok rfl (i:Int) rfl _ rfl (by simp) HA4.out rfl (by first|rfl|assumption|simp) (by first|omega|(simp;omega)) (by first|omega|(simp;omega)) hbs4 ?_;intro A5 c5 w5 hown5 hb5 hs5 hf5 hl5;have hbel5:=((Below.refl w1.heap.size w4)).trans hb5);have HA5:=Lib.hid hown5;have HP5:=Lib.hid (HP4.out.keepB (w':=w5) (fun g hg hl=>hf5 g hl (fun g' hg' e=>HP4.out.apart HA4.out pne1 hg hg' e)));have HN5:=Lib.hid (HN4.out.keepB (w':=w5) (fun g hg hl=>hf5 g hl (fun g' hg' e=>HAP4.out g hg (by rw[e];exact hg'))));have HU5:=Lib.hid (HU4.out.keepB (w':=w5) (fun g hg hl=>hf5 g hl (fun g' hg' e=>by injection hg with hg;injection hg with hg;have h1:=(HA4.out.lt2 hg').1;have h2:=HS1.out;omega)));have HAP5:=Lib.hid ((HAP4.out.symm.moved HN4.out hl5).symm);have HX5:=Lib.hid (HX4.out.then hb5 (Nat.le_refl _) (Nat.le_of_lt HS1.out))))
    rw[←HVX.out]at HE1;clear hown3 hb3 hs3 hf3 hl3 hown4 hb4 hs4 hf4 hl4 hown5 hb5 hs5 hf5 hl5 HP3 HN3 HA3 HU3 BS3 f9 HX3 HP4 HN4 HA4 HU4 HX4 HAP4 hbel4 hbel5;go_roundw
    case rel=>exact⟨i+1,A3,c3,_,A4,c4,_,A5,c5,_,HI.out,by go_num,by rw[List.length_append];rfl,by rw[List.length_append];rfl,by rw[List.length_append];rfl,Lib.hid (by rw[HE1.out,←HPV.out]),Lib.hid (by rw[HE2.out,←HNV.out]),Lib.hid (by rw[HE3.out,←HAV.out]),HP5,HN5,HA5,HAP5,HU5,HX5⟩
    case measure=>have:=HI.out;simp[RowKit.intOf];omega
  ·obtain rfl:n=i:=by omega
   obtain⟨w6,rfl⟩:∃x,x=wr:=⟨_,rfl⟩;have HBW:=Lib.hid (HB1.out.trans HX.out.b);have HBXL:=Lib.hid (show xb<lb by rw[←HLB.out];exact HBX.out.lt);have HB6:=Lib.hid (HBX.out.below HBW.out HBXL.out);have y7:=HB6.out.cell 7 (v:=.slice lA ls.length lc) rfl;have hpv:ps=psL vs vs.length:=by rw[HPV.out,HN.out]
   have hnv:ns=lnL vs vs.length:=by rw[HNV.out,HN.out]
   have hav:ats=(posFrom 0 (vs.map idB)).map Int.ofNat:=by rw[HAV.out,←HN.out,atL_full]
   have hU:Own 3 encI 1 w6 lb (some ⟨lb,0,none⟩) n (List.replicate n (-1)):=by have:=HU.out;rwa [prt_neg]at this
   have HUN:=Lib.hid hU;have hpl:ps.length≤n:=by rw[hpv,←HN.out];exact psL_len _ _
   clear hi hin hU;by_cases h8:8<ps.length
   ·have h8i:(8:Int)<(ps.length:Int):=by omega
    have HE:=Lib.hid (loopAt_big (vs:=vs) (ls:=ls) (by rw[←hpv];exact h8));clear h8 hpv hnv hav;go_wp2_with fail
    go_quiet(fail)
    generalize hY3:w6.drewN _=Y3;have HY3:Hid (∀k:Nat,Y3.heap[k]? =w6.heap[k]?):=Lib.hid (fun k=>by rw[←hY3];rfl);have HW3:Hid (Below lb w Y3):=Lib.hid (by rw[←hY3];exact below_drewN HBW.out _);clear hY3;go_wp2_with fail
    go_ret2;exact⟨some ⟨lb,0,none⟩,n,_,rfl,by rw[HE.out,HN.out,HLB.out];exact HUN.out.keepB (fun g hg _=>HY3.out g),by rw[HLB.out];exact HW3.out⟩
   ·have h8i:¬(8:Int)<(ps.length:Int):=by omega
    have HE:=Lib.hid (loopAt_small (vs:=vs) (ls:=ls) (by rw[←hpv];exact h8));have hR:=ptl_R vs;rw[←hpv,←hnv]at hR;have hpt:∀p∈ps,0≤p.v.t∧p.v.t≤1000000000000:=by
     rw[hpv,psL_full];intro p hp;obtain⟨x,hx,rfl⟩:=List.mem_map.1 hp;exact HVT.out x (List.mem_filter.1 hx).1
    have CL:=loops_any pc nc lc (HP.out.rd encPg_ok) (HNS.out.rd encI_ok) (HL.out.st (by rw[HLB.out];exact HBW.out)) hR hpt HOK.out (by omega) (by omega);have CL:=Lib.hid CL;have hmz:Sz (loopsV (ptlL vs) ls):=loopsV_sz (by rw[hR.1];omega) hll (fun v hv=>by
     unfold ptlL at hv;rw[filt_idB,List.map_map]at hv;obtain⟨x,hx,rfl⟩:=List.mem_map.1 hv;exact HVT.out x (List.mem_filter.1 hx).1) HOK.out
    have HMZ:=Lib.hid hmz;have hvl2:(ptlL vs).length=ps.length:=hR.1;have hc1:(loopsV (ptlL vs) ls).cost.length=ps.length:=by rw[←hvl2];exact List.length_map _
    have hc2:(loopsV (ptlL vs) ls).row.length=ps.length:=by rw[←hvl2];exact List.length_replicate
    have hc3:(loopsV (ptlL vs) ls).col.length=ls.length:=List.length_replicate;have hbl:(best (loopsV (ptlL vs) ls)).length=ps.length:=by rw[(best_asg hmz.b.ok).1];exact hc2
    have hal:(posFrom 0 (vs.map idB)).length=ps.length:=by rw[at_len,hpv,psL_full,List.length_map]
    have CB:=Lib.hid (fun(cA rA mA:Option Addr) (cc rc mc:Nat) (gs:List (Gp Int)) (X:World) (hX:MRd (loopsV (ptlL vs) ls) X cA gs rA mA)=>best_any cc rc mc hmz hX);rw[hc1,hc2,hc3,hbl]at CB;have hposlt:∀p∈posFrom 0 (vs.map idB),p<n:=fun p hp=>by have:=(posFrom_lt _ _ p hp).2;rw[List.length_map,HN.out]at this;omega
    have HPLT:=Lib.hid hposlt;have HBLN:=Lib.hid hbl;have HALN:=Lib.hid hal;have HAE:=Lib.hid hav;obtain⟨np,hnp⟩:∃k,ps.length=k:=⟨_,rfl⟩;have HNP:=Lib.hid hnp;rw[hnp]at h8i hpl CB;have hnl:ns.length=np:=by rw[hnv,lnL_len,←hpv,hnp]
    have hatl:ats.length=np:=by rw[hav,List.length_map,hal,hnp]
    rw[hnl]at CL;rw[hnp]at CL;rw[hnl,hatl];rw[hnp];clear h8 hpv hnv hav hR hpt hmz hvl2 hc1 hc2 hc3 hbl hal hposlt hnp hnl hatl;go_wp2_with fail
    with_reducible refine CL.out.mono ?_
    rintro e w8 ⟨cA,cc,gs,rA,rc,mA,mc,rfl,hm,hb8⟩;have CB:=Lib.hid (CB.out cA rA mA cc rc mc gs w8 hm.rd);go_wp2_with fail
    with_reducible refine CB.out.mono ?_
    rintro e w9 ⟨jA,jc,rfl,hj,hb9⟩;have hb69:=hb8.trans (hb9.mono hb8.size);have HU9:Hid (Own 3 encI 1 w9 lb (some ⟨lb,0,none⟩) n (fillAt ((posFrom 0 (vs.map idB)).take 0) ((best (loopsV (ptlL vs) ls)).take 0) (List.replicate n (-1)))):=Lib.hid (by rw[List.take_zero,List.take_zero,fillAt_nil];exact HUN.out.keep hb69 (Nat.le_refl _));have HA9:=Lib.hid (HA.out.keep hb69 (Nat.le_refl _));have HJ9:=Lib.hid hj;have HW9:=Lib.hid (HBW.out.trans (hb69.mono (show lb≤w6.heap.size from Nat.le_trans (Nat.le_of_lt HS1.out) HX.out.size)));have HS9:=Lib.hid (show lb<w8.heap.size from Nat.lt_of_lt_of_le HS1.out (Nat.le_trans HX.out.size hb8.size));have hnp9:np≤50:=by omega
    clear hm hj hb8 hb9 hb69 CL CB y7 HP HNS HA HU HX HAP HPV HNV HAV;go_wp2_with fail
    go_loopw [77] (fun sk wx=>∃k:Nat,k≤np∧sk=.int .i64 k∧Hid (Own 3 encI 1 wx lb (some ⟨lb,0,none⟩) n (fillAt ((posFrom 0 (vs.map idB)).take k) ((best (loopsV (ptlL vs) ls)).take k) (List.replicate n (-1))))∧Hid (BelX lb w9.heap.size w9 wx)) (fun sk _=>np-(RowKit.intOf sk).toNat)
    case atStart=>exact⟨0,Nat.zero_le _,rfl,HU9,BelX.refl _ _ _⟩
    case round=>
     clear HU9;obtain⟨k,hk,rfl,HU,HX⟩:=hrel;have k0:(0:Int)≤(k:Int):=by omega
     by_cases hkn:k<np
     ·have HI:=Lib.hid hkn;obtain⟨p,hp⟩:∃p,(posFrom 0 (vs.map idB))[k]? =some p:=⟨_,List.getElem?_eq_getElem (by rw[HALN.out,HNP.out];exact hkn)⟩;obtain⟨j,hj⟩:∃j,(best (loopsV (ptlL vs) ls))[k]? =some j:=⟨_,List.getElem?_eq_getElem (by rw[HBLN.out,HNP.out];exact hkn)⟩;have hpn:=HPLT.out p (List.mem_of_getElem? hp);have hap:ats[k]? =some (p:Int):=by rw[HAE.out,List.getElem?_map,hp];rfl
      obtain⟨ab,ao,pv,hA,hab,hpv,hac⟩:=((HA9.out.keepX HX.out HS1.out (Nat.le_refl _)).rd encI_ok).i (i:=k) (List.getElem?_eq_some_iff.1 hap).1;rw[hap]at hpv;injection hpv with hpv;subst hpv hA;obtain⟨jb,jo,jv,hJ,hjb,hjv,hjc⟩:=((HJ9.out.keepX HX.out HS9.out (Nat.le_refl _)).rd encI_ok).i (i:=k) (by rw[HBLN.out,HNP.out];exact hkn);rw[hj]at hjv;injection hjv with hjv;subst hjv hJ;have hfl:(fillAt ((posFrom 0 (vs.map idB)).take k) ((best (loopsV (ptlL vs) ls)).take k) (List.replicate n (-1))).length=n:=by rw[fillAt_len,List.length_replicate]
      obtain⟨ov,hov⟩:∃v,(fillAt ((posFrom 0 (vs.map idB)).take k) ((best (loopsV (ptlL vs) ls)).take k) (List.replicate n (-1)))[p]? =some v:=⟨_,List.getElem?_eq_getElem (by rw[hfl];exact hpn)⟩;have u0:=HU.out.cells encI_ok rfl hov (j:=0) rfl;rw[Nat.mul_one,Nat.add_zero]at u0;have uz:=HU.out.frozen rfl p;obtain⟨X1,hX1⟩:∃X,wr.setCell ⟨lb,p,none⟩ (.int .i64 j)=X:=⟨_,rfl⟩;have HU1:Hid (Own 3 encI 1 X1 lb (some ⟨lb,0,none⟩) n (fillAt ((posFrom 0 (vs.map idB)).take (k+1)) ((best (loopsV (ptlL vs) ls)).take (k+1)) (List.replicate n (-1)))):=Lib.hid (by
       have h1:=HU.out.stored encI_ok rfl hov (j:=0) (by omega) (y:=j) (u:=.int .i64 j) rfl;rw[Nat.mul_one,Nat.add_zero,hX1]at h1;rw[List.take_add_one,List.take_add_one,hp,hj];show Own 3 encI 1 X1 lb (some ⟨lb,0,none⟩) n (fillAt (List.take k (posFrom 0 (vs.map idB))++[p]) (List.take k (best (loopsV (ptlL vs) ls))++[j]) _)
       rw[fillAt_snoc _ _ _ _ _ (by rw[List.length_take,List.length_take,HALN.out,HBLN.out])];exact h1)
      have HX1:Hid (BelX lb w9.heap.size w9 X1):=Lib.hid (by rw[←hX1];exact HX.out.set p _);have k1:(k:Int)<(np:Int):=by omega
      have k2:decide (k<np)=true:=decide_eq_true hkn;have p0:(0:Int)≤(p:Int):=by omega
      have p1:(p:Int)<(n:Int):=by omega
      have p2:decide (p<n)=true:=decide_eq_true hpn;clear hp hj hap hab hjb hfl hov hk hkn;go_wp2_with fail
      go_roundw
      case rel=>exact⟨k+1,HI.out,by go_num,HU1,HX1⟩
      case measure=>have:=HI.out;simp[RowKit.intOf];omega
     ·obtain rfl:np=k:=by omega
      have hfull1:(posFrom 0 (vs.map idB)).take np=posFrom 0 (vs.map idB):=List.take_of_length_le (by rw[HALN.out,HNP.out];exact Nat.le_refl _);have hfull2:(best (loopsV (ptlL vs) ls)).take np=best (loopsV (ptlL vs) ls):=List.take_of_length_le (by rw[HBLN.out,HNP.out];exact Nat.le_refl _);have hend:Own 3 encI 1 wr lb (some ⟨lb,0,none⟩) n (loopAt (vs.map Vh.v) ls):=by have:=HU.out;rw[hfull1,hfull2]at this;rw[HE.out,HN.out];exact this
      have HEND:=Lib.hid hend;have HWE:=Lib.hid (HW9.out.trans HX.out.b);clear hfull1 hfull2 hend hk hkn;go_wp2_with fail
      go_ret2;exact⟨some ⟨lb,0,none⟩,n,_,rfl,by rw[HLB.out];exact HEND.out,by rw[HLB.out];exact HWE.out⟩
end
end Go.Proofs.YtimffppffbideaaGreatDoor
