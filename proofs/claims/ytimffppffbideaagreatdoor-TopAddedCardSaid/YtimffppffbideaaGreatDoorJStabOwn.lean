import Derived.Test.YtimffppffbideaaGreatDoorJStabSymB
set_option linter.unusedSimpArgs false
set_option linter.unusedVariables false
set_option maxRecDepth 100000
set_option maxHeartbeats 4000000
namespace Go.Proofs.YtimffppffbideaaGreatDoor
section
open Go.RowKit Go.Lib Go.Sort Go.Shelf
def encT {β:Type}(enc:β→List Value)(x:β×Nat):List Value:=enc x.1
theorem encT_ok {β:Type}{enc:β→List Value}{k:Nat}(h:Enc enc k):Enc (encT enc) k:=⟨fun x=>h.1 x.1,fun x=>h.2 x.1⟩
theorem flat_tag {β:Type}(enc:β→List Value)(t:List (β×Nat)):t.flatMap (encT enc)=(t.map Prod.fst).flatMap enc:=by
 induction t with
 |nil=>rfl
 |cons x t ih=>rw[List.flatMap_cons,ih];rfl
theorem Own.tag {β:Type}{enc:β→List Value}{e k:Nat}{w:World}{base:Nat}{A:Option Addr}{c:Nat}{l:List β}(t:List (β×Nat))(ht:t.map Prod.fst=l):Own e (encT enc) k w base A c t↔Own e enc k w base A c l:=by
 subst ht;unfold Own;rw[flat_tag,List.length_map]
theorem sortWorldK_other {β:Type}[Inhabited β](enc:β→List Value)(k:Nat)(w:World)(g n:Nat)(d':Array β)(os:Array Obj)(b:Nat)(hb:b<w.heap.size)(hne:b≠g):(sortWorldK enc k w g 0 n d' os).heap[b]? =w.heap[b]? :=by
 unfold sortWorldK putRowK;rw[heap_grow_old _ _ (by simpa[putRow,mapBlock,Sort.ahead]using hb)];have:g≠b:=Ne.symm hne
 simp[putRow,mapBlock,Sort.ahead,Array.getElem?_modify,this]
theorem stF:StF Tryz.prog 11 where
 mixed:=by kernel_rfl
 t0:=Tryz.underlying0
 a0:=Tryz.isAgg0
 z0:=Tryz.sizeOf0
 v0:=Tryz.zeroValue0
 t3:=Tryz.underlying3
 a3:=Tryz.isAgg3
 z3:=Tryz.sizeOf3
 v3:=Tryz.zeroValue3
 t4:=Tryz.underlying4
 a4:=Tryz.isAgg4
 z4:=Tryz.sizeOf4
 v4:=Tryz.zeroValue4
 t22:=Tryz.underlying51
 a22:=Tryz.isAgg51
 z22:=Tryz.sizeOf51
 v22:=Tryz.zeroValue51
 t78:=Tryz.underlying90
 a78:=Tryz.isAgg90
 z78:=Tryz.sizeOf90
 v78:=Tryz.zeroValue90
 t96:=Tryz.underlying115
 a96:=Tryz.isAgg115
 z96:=Tryz.sizeOf115
 v96:=Tryz.zeroValue115
 aE:=Tryz.isAgg84
 zE:=Tryz.sizeOf84
 fsw:=Tryz.func184
 fro:=Tryz.func173
 fsy:=Tryz.func148
 fst:=Tryz.func124
 fso:=Tryz.func94
theorem ins_none (cap:Nat)(fv:Value)(w:World):Calls Tryz.prog 84 #[.slice none 0 cap,.int .i64 0,.int .i64 0,fv] w fun e w'=>e=.returned (.tuple #[])∧w'=w:=by
 go_enter Tryz.func84,Tryz.ntmps84;go_wp2_with fail
 go_loopg [8] 0 (fun g1 va wr=>va=.int .i64 1∧wr=w)
 case atStart=>exact⟨rfl,rfl⟩
 case round=>
  obtain⟨rfl,rfl⟩:=hrel;go_wp2;go_end0;exact⟨rfl,rfl⟩
theorem stb_none (cap:Nat)(fv:Value)(w:World):Calls Tryz.prog 124 #[.slice none 0 cap,.int .i64 0,fv] w fun e w'=>e=.returned (.tuple #[])∧w'=w:=by
 go_enter Tryz.func124,Tryz.ntmps124;go_wp2_with fail
 go_loopg [7,8] 0 (fun g1 va vb wr=>va=.int .i64 0∧vb=.int .i64 20∧wr=w)
 case atStart=>exact⟨rfl,rfl,rfl⟩
 case round=>
  obtain⟨rfl,rfl,rfl⟩:=hrel;go_wp2_with fail
  refine(ins_none cap fv _).mono ?_;rintro e w' ⟨rfl,rfl⟩;go_wp2_with fail
  go_loopg [6] 0 (fun g1 va wr=>va=.int .i64 20∧wr=w')
  case atStart=>exact⟨rfl,rfl⟩
  case round=>
   obtain⟨rfl,rfl⟩:=hrel;go_wp2;go_end0;exact⟨rfl,rfl⟩
theorem stab_own {β:Type}[Inhabited β]{enc:β→List Value}{w:World}{base:Nat}{A:Option Addr}{c:Nat}{l:List β}(hE:Enc enc 11)(cf:β→β→Int)(hO:SWO (ltOf cf))(g:Nat)(cb:Array Value)
  (eg:∀args w,(callFunc g args).run Tryz.prog w=.ok (.enter g args) w) (hcmp:∀(W:World) (x y:β),Calls Tryz.prog g (#[.agg (enc x).toArray,.agg (enc y).toArray]++cb) W fun e w'=>e=.returned (.int .i64 (cf x y))∧Gr W w')
  (h:Own 84 enc 11 w base A c l) (hb:base≤w.heap.size) (hsz:l.length<1000000000000000000):
  Calls Tryz.prog 94 #[.slice A l.length c,.func (.func g) #[] cb] w fun en w'=>en=.returned (.tuple #[])∧∃l':List β,StabOf (ltOf cf) l l'∧Own 84 enc 11 w' base A c l'∧Below base w w'∧w.heap.size≤w'.heap.size∧∀b,b<w.heap.size→(∀g,A=some ⟨g,0,none⟩→b≠g)→w'.heap[b]? =w.heap[b]? :=by
 rcases h.form with⟨rfl,rfl,rfl⟩|⟨g0,hA,hg1,hg2⟩
 ·have HN:=hid (fun w=>stb_none 0 (.func (.func g) #[] cb) w);have HW:=hid h;go_enter Tryz.func94,Tryz.ntmps94;go_wp2_with fail
  refine(HN.out _).mono ?_;rintro e w' ⟨rfl,rfl⟩;go_wp2;go_end0;exact⟨rfl,[],StabOf.nil,HW.out,Below.refl _ _,Nat.le_refl _,fun _ _ _=>rfl⟩
 ·have hT:Own 84 (encT enc) 11 w base A c l.zipIdx:=(Own.tag l.zipIdx (List.zipIdx_map_fst 0 l)).2 h;have hlz:l.zipIdx.length=l.length:=List.length_zipIdx;have R:RowK (encT enc) 11 w g0 0 l.zipIdx.toArray:=⟨(encT_ok hE).1,(encT_ok hE).2,hT.holds (encT_ok hE) hA,hg2⟩;have hC:CmpLays Tryz.prog g cb (encT enc) 11 (tagC cf) g0 0 l.zipIdx.toArray.size w:=fun _ _ _ _ x y=>hcmp _ x.1 y.1;have hS2:SWO (ltOf (tagC cf)):=⟨fun x=>hO.irrefl x.1,fun x y z=>hO.trans x.1 y.1 z.1,fun x y z=>hO.ntrans x.1 y.1 z.1⟩;have hsz2:l.zipIdx.toArray.size<1000000000000000000:=by simpa[hlz]using hsz
  have hIns:InsOk Tryz.prog (encT enc) 11 w g0 0 c g cb cf l.zipIdx.toArray:=by
   intro a b d W h1 h2 h3 h4;have:=AnyQ.insertionSortCmpFunc_w (P:=Tryz.prog) Tryz.lay_ins_f84 11 Tryz.isAgg84 Tryz.sizeOf84 (encT enc) (tagC cf) g cb g0 0 c a b l.zipIdx.toArray d w W eg hC R h1.symm h4 hS2 h2 h3 (by omega)
   rw[h1]at this;exact this
  have hst:=stable_any stF R hsz2 c g cb cf hC eg hO hIns (enters_of Tryz.func84 (by kernel_rfl) rfl) (by
   intro i hi;have hi':i<l.zipIdx.length:=by simpa using hi
   rw[getElem!_pos _ i hi];simp)
  have HST:=hid hst;have hss:l.zipIdx.toArray.size=l.length:=by simp
  rw[hss]at HST;have HB:=hid (fun n os (d':Array (β×Nat)) (hd:d'.size=l.zipIdx.length)=>hT.sorted (encT_ok hE) (g:=g0) (n:=n) (os:=os) (d':=d') hA hd);clear hC hS2 hIns hst R hT;have HA:=hid hA;subst hA;clear h;go_enter Tryz.func94,Tryz.ntmps94;go_wp2_with fail
  refine(HST.out).mono ?_;rintro e w' ⟨rfl,d',hp,hs,n,os,rfl⟩;have hd:d'.size=l.zipIdx.length:=by rw[hp.1];simp
  have HX:Hid (∃l':List β,StabOf (ltOf cf) l l'∧Own 84 enc 11 (sortWorldK (encT enc) 11 w g0 0 n d' os) base (some ⟨g0,0,none⟩) c l'∧Below base w (sortWorldK (encT enc) 11 w g0 0 n d' os)∧w.heap.size≤(sortWorldK (encT enc) 11 w g0 0 n d' os).heap.size∧∀b,b<w.heap.size→(∀g,some (⟨g0,0,none⟩:Addr)=some ⟨g,0,none⟩→b≠g)→(sortWorldK (encT enc) 11 w g0 0 n d' os).heap[b]? =w.heap[b]?):=by
   obtain⟨h1,h2⟩:=HB.out n os d' hd;refine⟨d'.toList.map Prod.fst,⟨d'.toList,?_,?_,rfl⟩,(Own.tag d'.toList rfl).1 h1,h2,size_sortWorldK_c _ _ _ _ _ _ _ _,fun b hb hne=>sortWorldK_other _ _ _ _ _ _ _ _ hb (hne g0 rfl)⟩
   ·have:=hp.2.2
    have e1:d'.extract 0 l.length=d':=by rw[show l.length=d'.size by rw[hd,hlz]];exact Array.extract_size
    have e2:l.zipIdx.toArray.extract 0 l.length=l.zipIdx.toArray:=by rw[←hss];exact Array.extract_size
    rw[e1,e2]at this;simpa using this
   ·rw[List.pairwise_iff_getElem];intro i j hi hj hij;have hi':i<d'.size:=by simpa using hi
    have hj':j<d'.size:=by simpa using hj
    have:=hs i j (Nat.zero_le _) hij (by omega)
    rw[getElem!_pos d' j hj',getElem!_pos d' i hi']at this;simpa using this
  clear hp hs;go_wp2;go_end0;exact⟨rfl,HX.out⟩
end
section
open Go.RowKit Go.Lib Go.Sort Go.Shelf
open Mat
theorem srtSn_any {A:Option Addr}{c:Nat}{l:List Sn}{w:World}{base:Nat}(h:Own 84 encSn 11 w base A c l)(hb:base≤w.heap.size)(hsz:l.length<1000000000000000000):
  Calls Tryz.prog 94 #[.slice A l.length c,.func (.func 25) #[] #[]] w fun e w'=>e=.returned (.tuple #[])∧Own 84 encSn 11 w' base A c (srtS l)∧Below base w w'∧w.heap.size≤w'.heap.size∧∀b,b<w.heap.size→(∀g,A=some ⟨g,0,none⟩→b≠g)→w'.heap[b]? =w.heap[b]? :=by
 have eg:∀args w,(callFunc 25 args).run Tryz.prog w=.ok (.enter 25 args) w:=enters_of Tryz.func25 (by kernel_rfl) rfl;refine(stab_own (w:=w) encSn_ok cmpSn cmpSn_pre.swo 25 #[] eg (fun W x y=>comp_any x y W) h hb hsz).mono ?_;rintro e w' ⟨rfl,l',hs,ho,hbl,hz,hot⟩;have:=hs.ord cmpSn_pre.swo
 subst this;exact⟨rfl,ho,hbl,hz,hot⟩
theorem cloneSn_any {A:Option Addr}(c:Nat){l:List Sn}{w:World}(h:Rd encSn 11 w w.heap.size A l)(hl:l.length≤1000000):
  Calls Tryz.prog 93 #[.slice A l.length c] w fun e w'=>∃A' c',e=.returned (.slice A' l.length c')∧Own 84 encSn 11 w' w.heap.size A' c' l∧Below w.heap.size w w':=by
 have qn:∀(w:World) (a:Option Addr) (n c n' c':Nat),(binOp .eql 51 (.slice a n c) (.slice none n' c')).run Tryz.prog w=.ok (.bool a.isNone) w:=fun w a n c n' c'=>Lib.run_eql_slice_nil w _ _ a n c n' c' Tryz.underlying51;have H:=hid h;clear h;cases A with
 |none=>
  have hl0:l=[]:=by
   rcases Classical.em (l=[])with q|q
   ·exact q
   ·obtain⟨_,_,hA,_⟩:=H.out q;cases hA
  subst hl0;clear H hl;go_enter Tryz.func93,Tryz.ntmps93;go_wp2;go_ret;exact⟨none,0,rfl,Own.nil _ _,Below.refl _ _⟩
 |some a=>
  have hown:=Own.lit (e:=84) (cs:=#[]) w w.heap.size ([]:List Sn) (g:=w.heap.size) encSn_ok rfl rfl (Nat.le_refl _) (by simp);have hb0:=(Below.refl w.heap.size w).al (.cells #[] 84);have hr:=H.out.st hb0;have hbs:w.heap.size≤(w.alloc (.cells #[] 84)).heap.size:=by simp
  go_enter Tryz.func93,Tryz.ntmps93;go_wp2_with(at_builtin;refine wpList_appS rfl (.tmp 5) (.tmp 6) tySn encSn_ok rfl _ rfl (by first|rfl|simp) hown l rfl (by first|rfl|simp) hr (by first|omega|(simp;done)|(simp;omega)) (by first|omega|(simp;done)|(simp;omega)) hbs ?_;intro A4 c4 w4 hown4 hb4 hs4 hf4)
  go_ret;exact⟨A4,c4,by simp,by simpa using hown4,hb0.trans hb4⟩
def IxR (p:List Sn→Bool)(gs:List (Gp Sn))(r:Int):Prop:=
 (r= -1∧∀g∈gs,p g.l=false)∨∃(i:Nat) (g:Gp Sn),r=(i:Int)∧gs[i]? =some g∧p g.l=true∧∀(j:Nat) (g':Gp Sn),j<i→gs[j]? =some g'→p g'.l=false
theorem idxG_any {A:Option Addr}(cap:Nat){gs:List (Gp Sn)}(p:List Sn→Bool)(g:Nat)(lb:Array Value)(eg:∀args w,(callFunc g args).run Tryz.prog w=.ok (.enter g args) w){w:World}(hcl:gs.length≤1000)(hr:Rd encG 1 w w.heap.size A gs)
  (hp:∀W,Below w.heap.size w W→∀x,x∈gs→Calls Tryz.prog g (#[.slice x.A x.l.length x.c]++lb) W fun e w'=>e=.returned (.bool (p x.l))∧Below W.heap.size W w'):
  Calls Tryz.prog 149 #[.slice A gs.length cap,.func (.func g) #[] lb] w fun e w'=>(∃r:Int,e=.returned (.int .i64 r)∧IxR p gs r)∧Below w.heap.size w w':=by
 have HR:=hid hr;have HP:=hid hp;have EG:=hid eg;clear hr hp eg;go_enter Tryz.func149,Tryz.ntmps149;go_wp2_with fail
 go_loopw [8] (fun j wr=>∃k:Nat,k≤gs.length∧j=.int .i64 k∧Hid (Below w.heap.size w wr)∧Hid (∀(j:Nat) (g':Gp Sn),j<k→gs[j]? =some g'→p g'.l=false)) (fun j _=>gs.length-(RowKit.intOf j).toNat)
 case atStart=>exact⟨0,Nat.zero_le _,rfl,Below.refl _ _,fun j g' h=>absurd h (Nat.not_lt_zero _)⟩
 case round=>
  obtain⟨k,hk,rfl,HB,HNO⟩:=hrel;have k1:(0:Int)≤(k:Int):=by omega
  by_cases hi:k<gs.length
  ·have k2:(k:Int)<(gs.length:Int):=by omega
   obtain⟨b,off,x,hA,hb,hx,hc⟩:=(HR.out.keep HB.out).at_ hi;have d0:wr.cell? ⟨b,off+k,none⟩=some (.slice x.A x.l.length x.c):=by simpa using hc 0 _ rfl
   subst hA;have CP:=hid (HP.out wr HB.out x (List.mem_of_getElem? hx));have HX:=hid hx;have HI:=hid hi;have eg:=EG.out;clear hb hi hx hc;go_wp2_with fail
   cases hb:p x.l
   ·rw[hb]at CP;have HP0:=hid hb;clear hb;refine CP.out.mono ?_;rintro e w' ⟨rfl,hbn⟩;have HB:=hid (HB.out.st hbn);clear hbn;go_wp2_with fail
    go_roundw
    case rel=>exact⟨k+1,HI.out,by go_num,HB.out,fun j g' hj hg=>by
     by_cases e:j=k
     ·subst e;rw[HX.out]at hg;injection hg with hg;subst hg;exact HP0.out
     ·exact HNO.out j g' (by omega) hg⟩
    case measure=>have:=HI.out;simp[RowKit.intOf];omega
   ·rw[hb]at CP;have R:=hid (show IxR p gs (k:Int)from Or.inr ⟨k,x,rfl,HX.out,hb,HNO.out⟩);clear hb;refine CP.out.mono ?_;rintro e w' ⟨rfl,hbn⟩;have HB:=hid (HB.out.st hbn);clear hbn;go_wp2_with fail
    go_ret;exact⟨⟨(k:Int),rfl,R.out⟩,HB.out⟩
  ·obtain rfl:k=gs.length:=by omega
   have R:=hid (show IxR p gs (-1)from Or.inl ⟨rfl,fun g hg=>by
    obtain⟨j,hj⟩:=List.mem_iff_getElem?.1 hg;exact HNO.out j g (List.getElem?_eq_some_iff.1 hj).1 hj⟩)
   clear HNO;go_wp2_with fail
   go_ret;exact⟨⟨-1,rfl,R.out⟩,HB.out⟩
theorem mg1_any {A:Option Addr}(c:Nat){l:List Sn}(s:Sn){sb:Nat}{w:World}(hr:Rd encSn 11 w w.heap.size A l)(hne:l≠[])(hok:∀x∈l,SnOk x)(hs:SnOk s)(hb:Blk w sb (encSn s).toArray 84):
  Calls Tryz.prog 150 #[.slice A l.length c,.pointer (some ⟨sb,0,none⟩)] w fun e w'=>e=.returned (.bool (mgTk l s))∧Below w.heap.size w w':=by
 have hl:0<l.length:=List.length_pos_iff.2 hne;obtain⟨b,off,x,hA,hbl,hx,hc⟩:=hr.at_ hl;have CJ:=hid (joins_any x s (hok x (List.mem_of_getElem? hx)) hs);have R:=hid (show mgTk l s=joinsB x s by unfold mgTk;cases l with|nil=>simp at hl|cons y l=>simp at hx;subst hx;rfl);have hl2:(0:Int)<(l.length:Int):=by omega
 subst hA;obtain⟨⟨a1,a2,a3,a4,a5,a6,a7⟩,a8,a9,a10,a11⟩:=x;obtain⟨⟨s1,s2,s3,s4,s5,s6,s7⟩,s8,s9,s10,s11⟩:=s;have hb':Blk w sb #[.string s1,.int .i64 s2,.int .i64 s3,.string s4,.string s5,.int .i64 s6,.int .i64 s7,.int .i64 s8,.string s9,.int .i64 s10,.int .i64 s11] 84:=hb;have hS:(fun X:World=>X.cell? ⟨b,off,none⟩=some (.string a1)∧X.cell? ⟨b,off+1,none⟩=some (.int .i64 a2)∧X.cell? ⟨b,off+2,none⟩=some (.int .i64 a3)∧X.cell? ⟨b,off+3,none⟩=some (.string a4)∧X.cell? ⟨b,off+4,none⟩=some (.string a5)∧X.cell? ⟨b,off+5,none⟩=some (.int .i64 a6)∧X.cell? ⟨b,off+6,none⟩=some (.int .i64 a7)∧X.cell? ⟨b,off+7,none⟩=some (.int .i64 a8)∧X.cell? ⟨b,off+8,none⟩=some (.string a9)∧X.cell? ⟨b,off+9,none⟩=some (.int .i64 a10)∧X.cell? ⟨b,off+10,none⟩=some (.int .i64 a11)∧Blk X sb #[.string s1,.int .i64 s2,.int .i64 s3,.string s4,.string s5,.int .i64 s6,.int .i64 s7,.int .i64 s8,.string s9,.int .i64 s10,.int .i64 s11] 84) w.drew:=by
  refine⟨?_,?_,?_,?_,?_,?_,?_,?_,?_,?_,?_,hb'.drew⟩
  ·simpa using hc 0 _ rfl
  ·simpa using hc 1 _ rfl
  ·simpa using hc 2 _ rfl
  ·simpa using hc 3 _ rfl
  ·simpa using hc 4 _ rfl
  ·simpa using hc 5 _ rfl
  ·simpa using hc 6 _ rfl
  ·simpa using hc 7 _ rfl
  ·simpa using hc 8 _ rfl
  ·simpa using hc 9 _ rfl
  ·simpa using hc 10 _ rfl
 simp only[SnV]at CJ;generalize joinsB _ _=r at*;have HS:=hid hS;clear hS hc hx hb hb' hok hs hr hne;go_enter Tryz.func150,Tryz.ntmps150;go_upto_region 1 with fail
 refine wp_region_held_drew (S:=(fun X:World=>X.cell? ⟨b,off,none⟩=some (.string a1)∧X.cell? ⟨b,off+1,none⟩=some (.int .i64 a2)∧X.cell? ⟨b,off+2,none⟩=some (.int .i64 a3)∧X.cell? ⟨b,off+3,none⟩=some (.string a4)∧X.cell? ⟨b,off+4,none⟩=some (.string a5)∧X.cell? ⟨b,off+5,none⟩=some (.int .i64 a6)∧X.cell? ⟨b,off+6,none⟩=some (.int .i64 a7)∧X.cell? ⟨b,off+7,none⟩=some (.int .i64 a8)∧X.cell? ⟨b,off+8,none⟩=some (.string a9)∧X.cell? ⟨b,off+9,none⟩=some (.int .i64 a10)∧X.cell? ⟨b,off+10,none⟩=some (.int .i64 a11)∧Blk X sb #[.string s1,.int .i64 s2,.int .i64 s3,.string s4,.string s5,.int .i64 s6,.int .i64 s7,.int .i64 s8,.string s9,.int .i64 s10,.int .i64 s11] 84)) (by kernel_rfl) HS.out (fun hHeld=> ?_);have hSS:=HS.out;have bD:Below w.heap.size w w.drew:=(Below.refl w.heap.size w).drew;have hbB:∀X,Below w.heap.size w X→(fun X:World=>X.cell? ⟨b,off,none⟩=some (.string a1)∧X.cell? ⟨b,off+1,none⟩=some (.int .i64 a2)∧X.cell? ⟨b,off+2,none⟩=some (.int .i64 a3)∧X.cell? ⟨b,off+3,none⟩=some (.string a4)∧X.cell? ⟨b,off+4,none⟩=some (.string a5)∧X.cell? ⟨b,off+5,none⟩=some (.int .i64 a6)∧X.cell? ⟨b,off+6,none⟩=some (.int .i64 a7)∧X.cell? ⟨b,off+7,none⟩=some (.int .i64 a8)∧X.cell? ⟨b,off+8,none⟩=some (.string a9)∧X.cell? ⟨b,off+9,none⟩=some (.int .i64 a10)∧X.cell? ⟨b,off+10,none⟩=some (.int .i64 a11)∧Blk X sb #[.string s1,.int .i64 s2,.int .i64 s3,.string s4,.string s5,.int .i64 s6,.int .i64 s7,.int .i64 s8,.string s9,.int .i64 s10,.int .i64 s11] 84) X:=fun X hX=>by
  obtain⟨e1,e2,e3,e4,e5,e6,e7,e8,e9,e10,e11,e12⟩:=HS.out;have tr:∀j (v:Value),w.drew.cell? ⟨b,j,none⟩=some v→X.cell? ⟨b,j,none⟩=some v:=fun j v hv=>(hX.cell (p:=⟨b,j,none⟩) hbl).trans hv;exact⟨tr _ _ e1,tr _ _ e2,tr _ _ e3,tr _ _ e4,tr _ _ e5,tr _ _ e6,tr _ _ e7,tr _ _ e8,tr _ _ e9,tr _ _ e10,tr _ _ e11,(show Blk w sb #[.string s1,.int .i64 s2,.int .i64 s3,.string s4,.string s5,.int .i64 s6,.int .i64 s7,.int .i64 s8,.string s9,.int .i64 s10,.int .i64 s11] 84 from e12).below hX (show Blk w sb #[.string s1,.int .i64 s2,.int .i64 s3,.string s4,.string s5,.int .i64 s6,.int .i64 s7,.int .i64 s8,.string s9,.int .i64 s10,.int .i64 s11] 84 from e12).lt⟩
 obtain⟨V0,hV0⟩:∃V,w.drew=V:=⟨_,rfl⟩;rw[hV0]at hHeld hSS bD ⊢;have HBB:=hid hbB;clear hV0 HS hbB;change wpAnyH _ _ _ _ _ 6 _ _ _;refine tk 0 (h:= ?_);refine tk 1 (h:= ?_);refine tk 2 (h:= ?_);refine wpAnyH_take (i:=3) (v:=.agg #[.string s1,.int .i64 s2,.int .i64 s3,.string s4,.string s5,.int .i64 s6,.int .i64 s7,.int .i64 s8,.string s9,.int .i64 s10,.int .i64 s11]) (by simp only[List.getElem?_toArray,List.getElem?_cons_zero,List.getElem?_cons_succ];rfl) (by kernel_rfl) (by kernel_rfl) (by kernel_rfl) (by intro _ _ _ h;exact h) (yieldsIf_boxLoad (by rfl) rfl rfl (fun _ hw=>hw.2.2.2.2.2.2.2.2.2.2.2) ⟨_,Tryz.underlying84,by kernel_rfl⟩) (by assumption) ?_;refine td (h:= ?_);refine rd1 4 (h:=fun K hK=> ?_);rw[if_pos (by rfl)];go_wp2_with fail
 refine(CJ.out V0).mono ?_;rintro e W6 ⟨rfl,hbn⟩;have bD:=bD.st hbn;clear hbn;go_wp2_with fail
 refine hK.out _ _ (HBB.out _ bD) (fun hHeld=> ?_);have hSS:=HBB.out _ bD;clear hK K;refine td (h:= ?_);refine tk 5 (h:= ?_);refine wpAnyH_done (by kernel_rfl) ?_ _;have HB:=hid bD;clear hHeld hSS bD;go_wp2_with fail
 go_ret;rw[R.out];exact⟨rfl,HB.out⟩
end
section
open Go.RowKit Go.Lib
section
variable {α:Type}{enc:α→List Value}{k:Nat}{A:Option Addr}{c:Nat}{l:List α}{P:Program}{t e bytes:Nat}
theorem wp_appL {w:World}{o:Oper}{a:Act}{K:Act→World→Prop}{Q:Exit→Act→World→Prop}(s y:Operand)
  (T:TyS P t e k bytes) (hE:Enc enc k)
  (ho:o.op=.call {callee:=.builtin .append,args:=#[s,y],argTypes:=#[t,t]})
  {cs:Array Value} (x:α) (hcs:cs.toList=enc x)
  (base:Nat) {n:Nat} (hs:a.eval s=.slice A n c) (hn:n=l.length) (hown:Own e enc k w base A c l)
  {g0:Nat} (hx:a.eval y=.slice (some ⟨g0,0,none⟩) 1 1) (hblk:w.heap[g0]? =some (.cells cs e (0,0)))
  (hbytes:(l.length+1)*bytes≤140737488355328) (hmax:l.length≤8000000000000000000) (hbase:base≤w.heap.size)
  (
   h:∀A' c' w',Own e enc k w' base A' c' (l++[x])→Below base w w'→w.heap.size≤w'.heap.size→(∀b,b<w.heap.size→(∀g,A=some ⟨g,0,none⟩→b≠g)→w'.heap[b]? =w.heap[b]?)→
   (∀g,A'=some ⟨g,0,none⟩→A=some ⟨g,0,none⟩∨w.heap.size≤g)→K (a.put o.dst (.slice A' (n+1) c')) w'):o.wp P a w K Q:=by
 subst hn;obtain⟨i,z,hi,hz,hsz,hby,hzs⟩:=T.info;have hnews:∀j u,(enc x)[j]? =some u→w.cell? ((⟨g0,0,none⟩:Addr).add j)=some u:=by
  intro j u hu;have hadd:(⟨g0,0,none⟩:Addr).add j=⟨g0,j,none⟩:=by unfold Addr.add;split<;>simp_all
  rw[hadd,cell_of_row _ _ _ cs e (0,0) hblk];rw[←hcs]at hu;simpa using hu
 obtain⟨v',w',hr,hown',hg,h4,hloc⟩:=run_append_own_at (P:=P) w base t o.type e i z k bytes T.under hi hz hsz hby hzs T.pos (.slice A l.length c) l.length (l.flatMap enc) hown ⟨g0,0,none⟩ 1 1 (enc x) (by rw[hE.1];omega) hnews (hE.2 x) (by unfold maxLen;omega) hbytes hbase;have hlen:(l++[x]).length=l.length+1:=by simp
 obtain⟨A',c'',hv⟩:∃A' c'',v'=.slice A' (l.length+1) c'':=by
  rcases hown'.2 with⟨hv,h0⟩|⟨g,cap,cur,hv,_⟩
  ·omega
  ·exact⟨_,_,hv⟩
 subst hv;have hblk2:∀b,b<w.heap.size→(∀g,A=some ⟨g,0,none⟩→b≠g)→w'.heap[b]? =w.heap[b]? :=fun b hb hne=>by
  refine hg.block b hb fun hh=> ?_;cases A with
  |none=>simp[Value.ownBlock]at hh
  |some q=>
   rcases hown.form with⟨hA,_⟩|⟨g,hA,_⟩
   ·cases hA
   ·injection hA with hA;subst hA;simp[Value.ownBlock]at hh;exact hne g rfl hh
 unfold Oper.wp execOp;simp only[ho,resolve,invoke,builtin,Sem.run_bind,Sem.run_pure,Result.andThen_ok,List.map_toArray,List.map_cons,List.map_nil,hs,hx,hr];refine h A' c'' w' ?_ ?_ hg.size hblk2 ?_
 ·unfold Own;rw[show l.flatMap enc++enc x=(l++[x]).flatMap enc by simp]at hown';rw[hlen];exact hown'
 ·refine(Below.refl base w).grown hg hbase fun g hgo=> ?_;exact(World.ownsRow.lt hown g (by rw[hgo])).1
 ·intro g hA;subst hA;simp only[Value.ownBlock]at hloc;cases A with
  |none=>right;simp at hloc;omega
  |some q=>
   rcases hown.form with⟨hA,_⟩|⟨g',hA,_⟩
   ·cases hA
   ·injection hA with hA;subst hA;simp at hloc;rcases hloc with q|q
    ·left;rw[q]
    ·right;omega
end
end
end Go.Proofs.YtimffppffbideaaGreatDoor
