import Derived.Test.YtimffppffbideaaGreatDoorJSnProb
import Derived.Test.YtimffppffbideaaGreatDoorJSnDist
set_option linter.unusedSimpArgs false
set_option linter.unusedVariables false
set_option maxRecDepth 100000
set_option maxHeartbeats 8000000
namespace Go.Proofs.YtimffppffbideaaGreatDoor
section
open Go.RowKit Go.Lib
open Mat
theorem ofInt_i64n (a:Nat)(h:a<18446744073709551616):(BitVec.ofInt 64 (a:Int)).toNat=a:=by
 rw[BitVec.ofInt_natCast,BitVec.toNat_ofNat];exact Nat.mod_eq_of_lt (by omega)
theorem i64_and1 (a:Nat)(ha:a<4611686018427387904):bits .and .i64 (a:Int) 1=((a%2:Nat):Int):=by
 show IntKind.i64.wrap ((BitVec.ofInt 64 (a:Int)&&&BitVec.ofInt 64 ((1:Nat):Int)).toNat:Int)=_
 rw[BitVec.toNat_and,ofInt_i64n a (by omega),ofInt_i64n 1 (by omega),Nat.and_one_is_mod,IntKind.wrap_i64];omega
theorem i64_orN (a b:Nat)(ha:a<4611686018427387904)(hb:b<4611686018427387904):bits .or .i64 (a:Int) (b:Int)=((a|||b:Nat):Int):=by
 have hx:a|||b<2^62:=Nat.or_lt_two_pow (by omega) (by omega);show IntKind.i64.wrap ((BitVec.ofInt 64 (a:Int)|||BitVec.ofInt 64 (b:Int)).toNat:Int)=_
 rw[BitVec.toNat_or,ofInt_i64n a (by omega),ofInt_i64n b (by omega),IntKind.wrap_i64];omega
def bitN (mask j:Nat):Int:=if mask.testBit j=true then 1 else 0
theorem bit_at (mask j:Nat)(hm:mask<1000):bits .and .i64 ((mask:Int)/2^j) 1=bitN mask j:=by
 have e:((mask:Int)/2^j)=((mask/2^j:Nat):Int):=by rw[Int.natCast_ediv,Int.natCast_pow];rfl
 have hl:mask/2^j≤mask:=Nat.div_le_self _ _;rw[e,i64_and1 _ (by omega)];unfold bitN;rw[Nat.testBit_eq_decide_div_mod_eq];by_cases h:mask/2^j%2=1
 ·rw[if_pos (by simpa using h),h];rfl
 ·rw[if_neg (by simpa using h)];omega
theorem pow_le8 {j:Nat}(hj:j≤8):2^j≤256:=by
 have:=Nat.pow_le_pow_right (show 0<2 by omega) hj
 simpa using this
theorem or_at (mask j:Nat)(hm:mask<1000)(hj:j≤8):bits .or .i64 (mask:Int) (2^j)=((mask|||2^j:Nat):Int):=by
 have e:((2:Int)^j)=((2^j:Nat):Int):=by rw[Int.natCast_pow];rfl
 have:=pow_le8 hj
 rw[e,i64_orN _ _ (by omega) (by omega)]
theorem or_lt {mask j k:Nat}(hm:mask<2^k)(hj:j<k):mask|||2^j<2^k:=Nat.or_lt_two_pow hm (Nat.pow_lt_pow_right (by omega) hj)
theorem step_lt {mask k:Nat}{j:Int}(hm:mask<2^k)(hj:j<(k:Int)):stepM j mask<2^k:=by
 unfold stepM;split
 ·exact hm
 ·exact or_lt hm (by omega)
def atV (ls:List (Gp Int))(i mask:Nat):Int:=(ls.getD i default).l.getD mask 0
def putT (ls:List (Gp Int))(i mask:Nat)(v:Int):List (Gp Int):=ls.set i ⟨(ls.getD i default).A,(ls.getD i default).c,(ls.getD i default).l.set mask v⟩
def ShT (ls:List (Gp Int))(n all:Nat):Prop:=ls.length=n∧∀g∈ls,g.l.length=all
theorem ShT.at_ {ls:List (Gp Int)}{n all i:Nat}(h:ShT ls n all)(hi:i<n):∃g,ls[i]? =some g∧ls.getD i default=g∧g∈ls∧g.l.length=all:=by
 have hl:i<ls.length:=by rw[h.1];exact hi
 refine⟨ls[i],List.getElem?_eq_getElem hl,?_,List.getElem_mem hl,h.2 _ (List.getElem_mem hl)⟩;rw[List.getD_eq_getElem?_getD,List.getElem?_eq_getElem hl];rfl
theorem atV_is {ls:List (Gp Int)}{n all i mask:Nat}(h:ShT ls n all)(hi:i<n)(hm:mask<all){g:Gp Int}(hg:ls[i]? =some g):g.l[mask]? =some (atV ls i mask):=by
 have hl:=h.2 g (List.mem_of_getElem? hg);unfold atV;rw[List.getD_eq_getElem?_getD (l:=ls),hg];show g.l[mask]? =some (g.l.getD mask 0)
 rw[List.getD_eq_getElem?_getD,List.getElem?_eq_getElem (by omega)];rfl
theorem ShT.put {ls:List (Gp Int)}{n all i:Nat}(h:ShT ls n all)(hi:i<n)(mask:Nat)(v:Int):ShT (putT ls i mask v) n all:=by
 obtain⟨g,hg,hd,hm,hl⟩:=h.at_ hi;unfold putT;refine⟨by rw[List.length_set];exact h.1,fun x hx=> ?_⟩;rcases List.mem_or_eq_of_mem_set hx with q|q
 ·exact h.2 x q
 ·rw[q,hd,List.length_set];exact hl
theorem putT_same {ls:List (Gp Int)}{i mask:Nat}(hi:i<ls.length)(a b:Int):putT (putT ls i mask a) i mask b=putT ls i mask b:=by
 unfold putT;have e:(ls.set i ⟨(ls.getD i default).A,(ls.getD i default).c,(ls.getD i default).l.set mask a⟩).getD i default=⟨(ls.getD i default).A,(ls.getD i default).c,(ls.getD i default).l.set mask a⟩:=by
  rw[List.getD_eq_getElem?_getD (l:=ls.set i _),List.getElem?_set_self hi];rfl
 rw[e,List.set_set,List.set_set]
theorem atV_put {ls:List (Gp Int)}{n all i mask:Nat}(h:ShT ls n all)(hi:i<n)(hm:mask<all)(v:Int)(i2 m2:Nat):atV (putT ls i mask v) i2 m2=if i2=i∧m2=mask then v else atV ls i2 m2:=by
 obtain⟨g,hg,hd,hmm,hl⟩:=h.at_ hi;unfold atV putT;rw[hd];have hil:i<ls.length:=by rw[h.1];exact hi
 by_cases e:i2=i
 ·subst e;rw[List.getD_eq_getElem?_getD (l:=ls.set i2 _),List.getElem?_set_self hil];show(g.l.set mask v).getD m2 0=_
  rw[List.getD_eq_getElem?_getD,List.getElem?_set];by_cases e2:mask=m2
  ·subst e2;rw[if_pos rfl,if_pos (by omega),if_pos ⟨rfl,rfl⟩];rfl
  ·rw[if_neg e2,if_neg (by omega),hd,List.getD_eq_getElem?_getD]
 ·rw[if_neg (by omega),List.getD_eq_getElem?_getD (l:=ls.set i _),List.getElem?_set_ne (Ne.symm e),←List.getD_eq_getElem?_getD]
structure Sz (m:M):Prop where
 n:m.n≤8
 k:m.col.length≤8
 cost:m.cost.length=m.n
 row:∀r∈m.cost,r.length=m.col.length
 b:Bnd m 450
 lo:∀i j,-1≤m.c i j
def Fx (m:M)(fixed:List Int):Prop:=fixed.length=m.n
structure TS (m:M)(fixed:List Int)(w:World)(tb:Nat)(cA:Option Addr)(cc:Nat)(gs:List (Gp Int))(rA:Option Addr)(rc:Nat)(lA:Option Addr)(lc:Nat)(fA:Option Addr)(fc:Nat):Prop where
 lt:tb<w.heap.size
 c0:w.cell? ⟨tb,0,none⟩=some (.slice cA gs.length cc)
 c1:w.cell? ⟨tb,1,none⟩=some (.slice rA m.row.length rc)
 c2:w.cell? ⟨tb,2,none⟩=some (.slice lA m.col.length lc)
 c3:w.cell? ⟨tb,3,none⟩=some (.slice fA fixed.length fc)
 cost:vals gs=m.cost
 rows:RdG encI 1 w tb cA gs
 row:Rd encI 1 w tb rA m.row
 col:Rd encI 1 w tb lA m.col
 fix:Rd encI 1 w tb fA fixed
section
variable {m:M}{fixed:List Int}{w w':World}{tb cc rc lc fc:Nat}{cA rA lA fA:Option Addr}{gs:List (Gp Int)}
theorem TS.keep (h:TS m fixed w tb cA cc gs rA rc lA lc fA fc)(hb:Below (tb+1) w w'):TS m fixed w' tb cA cc gs rA rc lA lc fA fc:=by
 have tr:∀j v,w.cell? ⟨tb,j,none⟩=some v→w'.cell? ⟨tb,j,none⟩=some v:=fun j v hv=>(hb.cell (p:=⟨tb,j,none⟩) (Nat.lt_succ_self tb)).trans hv;have hb':Below tb w w':=hb.mono (Nat.le_succ tb);exact⟨Nat.lt_of_lt_of_le h.lt hb.size,tr _ _ h.c0,tr _ _ h.c1,tr _ _ h.c2,tr _ _ h.c3,h.cost,h.rows.keep hb',h.row.keep hb',h.col.keep hb',h.fix.keep hb'⟩
theorem TS.st (h:TS m fixed w tb cA cc gs rA rc lA lc fA fc)(hb:Below w.heap.size w w'):TS m fixed w' tb cA cc gs rA rc lA lc fA fc:=h.keep (hb.mono h.lt)
theorem TS.glen (h:TS m fixed w tb cA cc gs rA rc lA lc fA fc)(hz:Sz m):gs.length=m.n:=by rw[←hz.cost,←h.cost,vals_len]
theorem TS.costAt (h:TS m fixed w tb cA cc gs rA rc lA lc fA fc)(hz:Sz m){i j:Nat}(hi:i<m.n)(hj:j<m.col.length):
  ∃b off g q qo,cA=some ⟨b,off,none⟩∧w.cell? ⟨b,off+i,none⟩=some (.slice (some ⟨q,qo,none⟩) m.col.length g)∧w.cell? ⟨q,qo+j,none⟩=some (.int .i64 (m.c i j)):=by
 obtain⟨b,off,g,hA,hb,hg,hc,hr⟩:=h.rows.at_ (i:=i) (by rw[h.glen hz];exact hi);have hrow:m.cost[i]? =some g.l:=by rw[←h.cost];exact vals_at hg
 have hgl:g.l.length=m.col.length:=hz.row _ (List.mem_of_getElem? hrow);obtain⟨q,qo,x,hq,_,hx,hcx⟩:=hr.i (i:=j) (by omega);refine⟨b,off,g.c,q,qo,hA,by rw[hc,hq,hgl],?_⟩;rw[hcx];unfold M.c;rw[List.getD_eq_getElem?_getD (l:=m.cost),hrow];show some (Value.int .i64 x)=some (.int .i64 (g.l.getD j 0))
 rw[List.getD_eq_getElem?_getD,hx];rfl
end
structure TD (w:World)(tb n all:Nat)(LA:Option Addr)(Lc:Nat)(ls:List (Gp Int))(WA:Option Addr)(Wc:Nat)(ws:List (Gp Int)):Prop where
 c4:w.cell? ⟨tb,4,none⟩=some (.slice LA n Lc)
 c5:w.cell? ⟨tb,5,none⟩=some (.slice WA n Wc)
 sl:ShT ls n all
 sw:ShT ws n all
 l:OwnG 33 3 encI 1 w (tb+1) LA Lc ls
 w:OwnG 33 3 encI 1 w (tb+1) WA Wc ws
 oo:Ap LA WA
 ii:∀g∈ls,∀h∈ws,Ap g.A h.A
section
variable {w w':World}{tb n all Lc Wc:Nat}{LA WA:Option Addr}{ls ws:List (Gp Int)}
theorem TD.lt (h:TD w tb n all LA Lc ls WA Wc ws)(hn:0<n):tb+1<w.heap.size:=by
 obtain⟨g,_,h1,h2⟩:=h.l.out.exB (by intro e;have:=h.sl.1;rw[e]at this;simp at this;omega);omega
theorem TD.keep (h:TD w tb n all LA Lc ls WA Wc ws)(ht:tb<w.heap.size)(hb:Below w.heap.size w w'):TD w' tb n all LA Lc ls WA Wc ws:=by
 have tr:∀j v,w.cell? ⟨tb,j,none⟩=some v→w'.cell? ⟨tb,j,none⟩=some v:=fun j v hv=>(hb.cell (p:=⟨tb,j,none⟩) ht).trans hv;exact⟨tr _ _ h.c4,tr _ _ h.c5,h.sl,h.sw,h.l.keep hb (Nat.le_refl _),h.w.keep hb (Nat.le_refl _),h.oo,h.ii⟩
theorem TD.drewN (h:TD w tb n all LA Lc ls WA Wc ws)(k:Nat):TD (w.drewN k) tb n all LA Lc ls WA Wc ws:=⟨h.c4,h.c5,h.sl,h.sw,h.l.drewN k,h.w.drewN k,h.oo,h.ii⟩
theorem TD.lAt (h:TD w tb n all LA Lc ls WA Wc ws){i:Nat}(hi:i<n)(hall:0<all):
  ∃o b c,LA=some ⟨o,0,none⟩∧w.cell? ⟨o,i,none⟩=some (.slice (some ⟨b,0,none⟩) all c)∧tb+1≤b∧(ls.getD i default).A=some ⟨b,0,none⟩∧(∀mask,mask<all→w.cell? ⟨b,mask,none⟩=some (.int .i64 (atV ls i mask)))∧(∀mask,w.frozen? ⟨b,mask,none⟩=false):=by
 obtain⟨g,hg,hd,hm,hl⟩:=h.sl.at_ hi;obtain⟨o,hO,_,_⟩:=h.l.out.exB (by intro e;rw[e]at hm;simp at hm);obtain⟨b,hB,hb1,_⟩:=(h.l.ins g hm).exB (by intro e;rw[e]at hl;simp at hl;omega);refine⟨o,b,g.c,hO,?_,hb1,by rw[hd,hB],fun mask hmm=> ?_,fun mask=>(h.l.ins g hm).frozen hB mask⟩
 ·have:=h.l.out.cells encG_ok hO hg (j:=0) (u:=.slice g.A g.l.length g.c) rfl
  rw[hB,hl]at this;simpa using this
 ·have:=(h.l.ins g hm).cells encI_ok hB (atV_is h.sl hi hmm hg) (j:=0) (u:=.int .i64 (atV ls i mask)) rfl
  simpa using this
theorem TD.wAt (h:TD w tb n all LA Lc ls WA Wc ws){i:Nat}(hi:i<n)(hall:0<all):
  ∃o b c,WA=some ⟨o,0,none⟩∧w.cell? ⟨o,i,none⟩=some (.slice (some ⟨b,0,none⟩) all c)∧tb+1≤b∧(ws.getD i default).A=some ⟨b,0,none⟩∧(∀mask,mask<all→w.cell? ⟨b,mask,none⟩=some (.int .i64 (atV ws i mask)))∧(∀mask,w.frozen? ⟨b,mask,none⟩=false):=by
 obtain⟨g,hg,hd,hm,hl⟩:=h.sw.at_ hi;obtain⟨o,hO,_,_⟩:=h.w.out.exB (by intro e;rw[e]at hm;simp at hm);obtain⟨b,hB,hb1,_⟩:=(h.w.ins g hm).exB (by intro e;rw[e]at hl;simp at hl;omega);refine⟨o,b,g.c,hO,?_,hb1,by rw[hd,hB],fun mask hmm=> ?_,fun mask=>(h.w.ins g hm).frozen hB mask⟩
 ·have:=h.w.out.cells encG_ok hO hg (j:=0) (u:=.slice g.A g.l.length g.c) rfl
  rw[hB,hl]at this;simpa using this
 ·have:=(h.w.ins g hm).cells encI_ok hB (atV_is h.sw hi hmm hg) (j:=0) (u:=.int .i64 (atV ws i mask)) rfl
  simpa using this
theorem cell_other (w:World)(p:Addr)(v:Value){b j:Nat}(h:b≠p.block):(w.setCell p v).cell? ⟨b,j,none⟩=w.cell? ⟨b,j,none⟩:=World.cell?_of_block (a:=⟨b,j,none⟩) (Below.heap_setCell w p v b h)
theorem putT_A (ls:List (Gp Int))(i mask:Nat)(v:Int){g:Gp Int}(hg:g∈putT ls i mask v)(hi:i<ls.length):∃g'∈ls,g'.A=g.A:=by
 unfold putT at hg;rcases List.mem_or_eq_of_mem_set hg with q|q
 ·exact⟨g,q,rfl⟩
 ·refine⟨ls.getD i default,?_,by rw[q]⟩;rw[List.getD_eq_getElem?_getD,List.getElem?_eq_getElem hi];exact List.getElem_mem hi
theorem TD.setL (h:TD w tb n all LA Lc ls WA Wc ws){i mask b:Nat}(hi:i<n)(hm:mask<all)(hb:(ls.getD i default).A=some ⟨b,0,none⟩)(v:Int):TD (w.setCell ⟨b,mask,none⟩ (.int .i64 v)) tb n all LA Lc (putT ls i mask v) WA Wc ws:=by
 obtain⟨g,hg,hd,hmm,hl⟩:=h.sl.at_ hi;have hgb:g.A=some ⟨b,0,none⟩:=by rw[←hd,hb]
 have hb1:=((h.l.ins g hmm).lt2 hgb).1;have hst:=h.l.stored ine encI_ok hg hgb (j:=mask) (m:=0) (x:=atV ls i mask) (y:=v) (u:=.int .i64 v) (atV_is h.sl hi hm hg) (by omega) rfl;rw[Nat.mul_one,Nat.add_zero]at hst;have hil:i<ls.length:=by rw[h.sl.1];exact hi
 have hp:putT ls i mask v=ls.set i ⟨g.A,g.c,g.l.set mask v⟩:=by unfold putT;rw[hd]
 refine⟨(cell_other w ⟨b,mask,none⟩ _ (by show tb≠b;omega)).trans h.c4,(cell_other w ⟨b,mask,none⟩ _ (by show tb≠b;omega)).trans h.c5,h.sl.put hi _ _,h.sw,by rw[hp];exact hst,?_,h.oo,fun x hx y hy=> ?_⟩
 ·refine⟨h.w.out.keepB fun x hx _=>setCell_other _ _ _ ?_,fun y hy=>(h.w.ins y hy).keepB fun x hx _=>setCell_other _ _ _ ?_,h.w.ap⟩
  ·exact((h.l.ins g hmm).apart h.w.out ine hgb hx).symm
  ·exact fun e=>h.ii g hmm y hy b hgb (by rw[hx,e])
 ·obtain⟨x',hx',e⟩:=putT_A ls i mask v hx hil;rw[←e];exact h.ii x' hx' y hy
theorem TD.setW (h:TD w tb n all LA Lc ls WA Wc ws){i mask b:Nat}(hi:i<n)(hm:mask<all)(hb:(ws.getD i default).A=some ⟨b,0,none⟩)(v:Int):TD (w.setCell ⟨b,mask,none⟩ (.int .i64 v)) tb n all LA Lc ls WA Wc (putT ws i mask v):=by
 obtain⟨g,hg,hd,hmm,hl⟩:=h.sw.at_ hi;have hgb:g.A=some ⟨b,0,none⟩:=by rw[←hd,hb]
 have hb1:=((h.w.ins g hmm).lt2 hgb).1;have hst:=h.w.stored ine encI_ok hg hgb (j:=mask) (m:=0) (x:=atV ws i mask) (y:=v) (u:=.int .i64 v) (atV_is h.sw hi hm hg) (by omega) rfl;rw[Nat.mul_one,Nat.add_zero]at hst;have hil:i<ws.length:=by rw[h.sw.1];exact hi
 have hp:putT ws i mask v=ws.set i ⟨g.A,g.c,g.l.set mask v⟩:=by unfold putT;rw[hd]
 refine⟨(cell_other w ⟨b,mask,none⟩ _ (by show tb≠b;omega)).trans h.c4,(cell_other w ⟨b,mask,none⟩ _ (by show tb≠b;omega)).trans h.c5,h.sl,h.sw.put hi _ _,?_,by rw[hp];exact hst,h.oo,fun x hx y hy=> ?_⟩
 ·refine⟨h.l.out.keepB fun x hx _=>setCell_other _ _ _ ?_,fun y hy=>(h.l.ins y hy).keepB fun x hx _=>setCell_other _ _ _ ?_,h.l.ap⟩
  ·exact((h.w.ins g hmm).apart h.l.out ine hgb hx).symm
  ·exact fun e=>h.ii y hy g hmm x hx (by rw[hgb,e])
 ·obtain⟨y',hy',e⟩:=putT_A ws i mask v hy hil;rw[←e];exact h.ii x hx y' hy'
end
end
section
open Go.RowKit Go.Lib
open Mat
theorem pairV_no {a b:Sn}(h:¬(a.kind=1∧b.kind=2∧eqS a.pt b.pt=true∧distI a.t b.t≤20)):pairV a b= -1:=by unfold pairV;rw[if_neg h]
theorem distI_rng {a b:Int}(ha:0≤a∧a≤1000000000000)(hb:0≤b∧b≤1000000000000):0≤distI a b∧distI a b≤1000000000000:=by unfold distI;omega
theorem lacks_rng {s:Sn}(h:SnOk s):0≤lacksV s∧lacksV s≤100:=by
 have h0:=h.c0;have h1:=h.c1;unfold lacksV;omega
theorem pairV_rng {a b:Sn}(ha:SnOk a)(hb:SnOk b): -1≤pairV a b∧pairV a b≤450:=by
 unfold pairV;split
 ·rename_i h;have h1:=lacks_rng ha;have h2:=lacks_rng hb;have h3:=h.2.2.2;have h4:0≤distI a.t b.t:=by unfold distI;omega
  split<;>omega
 ·omega
theorem axlV_rng {t:Int}{pt:ByteArray}{lane:Int}{s:Sn}: -1≤axlV t pt lane s∧axlV t pt lane s≤90:=by
 unfold axlV;split
 ·rename_i h;have h3:=h.2.2;have h4:0≤distI t s.t:=by unfold distI;omega
  split<;>omega
 ·omega
theorem pair_any (a b:Sn)(ha:SnOk a)(hb:SnOk b)(w:World):Calls Tryz.prog 153 #[SnV a,SnV b] w fun e w'=>e=.returned (.int .i64 (pairV a b))∧Below w.heap.size w w':=by
 have qa:0≤a.t∧a.t≤1000000000000:=⟨ha.t0,by have:=ha.t1;omega⟩;have qb:0≤b.t∧b.t≤1000000000000:=⟨hb.t0,by have:=hb.t1;omega⟩;have CD:=hid (fun(X:World)=>distance_any a.t b.t qa qb X);have CA:=hid (fun(X:World)=>lacks_any a ha X);have CB:=hid (fun(X:World)=>lacks_any b hb X);have hdr:=distI_rng qa qb;have hla:=lacks_rng ha;have hlb:=lacks_rng hb;have RN:=hid (fun q=>pairV_no (a:=a) (b:=b) q);have RY:=hid (fun q=>show pairV a b=_ from if_pos q);generalize pairV a b=r at*;generalize lacksV a=la at*;generalize lacksV b=lb at*;generalize distI a.t b.t=d at*;obtain⟨⟨a1,a2,a3,a4,a5,a6,a7⟩,at_,ap,al,ak⟩:=a;obtain⟨⟨b1,b2,b3,b4,b5,b6,b7⟩,bt_,bp,bl,bk⟩:=b;simp only[SnV]at RN RY CD CA CB ⊢;obtain⟨Y1,hY1⟩:∃Y,w.alloc (.cells #[.string a1,.int .i64 a2,.int .i64 a3,.string a4,.string a5,.int .i64 a6,.int .i64 a7,.int .i64 at_,.string ap,.int .i64 al,.int .i64 ak] 84)=Y:=⟨_,rfl⟩;obtain⟨Y2,hY2⟩:∃Y,Y1.alloc (.cells #[.string b1,.int .i64 b2,.int .i64 b3,.string b4,.string b5,.int .i64 b6,.int .i64 b7,.int .i64 bt_,.string bp,.int .i64 bl,.int .i64 bk] 84)=Y:=⟨_,rfl⟩;have s1:Y1.heap.size=w.heap.size+1:=(by rw[←hY1];simp);have bY:Below w.heap.size w Y2:=(by rw[←hY2,←hY1];exact((Below.refl _ w).al _).al _);have BA:Blk Y2 w.heap.size #[.string a1,.int .i64 a2,.int .i64 a3,.string a4,.string a5,.int .i64 a6,.int .i64 a7,.int .i64 at_,.string ap,.int .i64 al,.int .i64 ak] 84:=(by rw[←hY2,←hY1];exact(Blk.new w _ _).alloc _);have BB:Blk Y2 (w.heap.size+1) #[.string b1,.int .i64 b2,.int .i64 b3,.string b4,.string b5,.int .i64 b6,.int .i64 b7,.int .i64 bt_,.string bp,.int .i64 bl,.int .i64 bk] 84:=(by rw[←s1,←hY2];exact Blk.new Y1 _ _);have a0:=BA.cell 7 (v:=.int .i64 at_) rfl;have a1':=BA.cell 8 (v:=.string ap) rfl;have a2':=BA.cell 9 (v:=.int .i64 al) rfl;have a3':=BA.cell 10 (v:=.int .i64 ak) rfl;have b0:=BB.cell 7 (v:=.int .i64 bt_) rfl;have b1':=BB.cell 8 (v:=.string bp) rfl;have b2':=BB.cell 9 (v:=.int .i64 bl) rfl;have b3':=BB.cell 10 (v:=.int .i64 bk) rfl;have HB:=hid bY;have HBA:=hid BA;have HBB:=hid BB;have te:(ap.toList==bp.toList)=eqS ap bp:=rfl;clear ha hb qa qb BA BB bY;have d0:¬d<0:=by omega
 by_cases k1:ak=1
 ·have f1:(ak !=1)=false:=by simp[k1]
  by_cases k2:bk=2
  ·have f2:(bk !=2)=false:=by simp[k2]
   cases hq:eqS ap bp
   ·have R:=hid (RN.out (by rw[hq];simp));rw[hq]at te;clear RN RY hq CA CB hdr hla hlb k1 k2;go_enter Tryz.func153,Tryz.ntmps153;go_wp2_with fail
    refine(CD.out _).mono ?_;rintro e w' ⟨rfl,hw'⟩;rw[hw'];clear hw' w';go_wp2_with fail
    go_ret;rw[R.out];exact⟨rfl,HB.out⟩
   ·rw[hq]at te;by_cases k4:d≤20
    ·have k5:¬20<d:=by omega
     have R:=hid (RY.out ⟨k1,k2,hq,k4⟩);have w1:IntKind.i64.wrap (10*d)=10*d:=IntWalk.i64_in _ (by omega);have w2:IntKind.i64.wrap (10*d+la)=10*d+la:=IntWalk.i64_in _ (by omega);have w3:IntKind.i64.wrap (10*d+la+lb)=10*d+la+lb:=IntWalk.i64_in _ (by omega);have w4:IntKind.i64.wrap (10*d+la+lb+50)=10*d+la+lb+50:=IntWalk.i64_in _ (by omega);clear RN RY hq hdr hla hlb k1 k2;go_enter Tryz.func153,Tryz.ntmps153;go_upto_region 4 with(go_at_call 160;refine(CD.out _).mono ?_;rintro e w' ⟨rfl,hw'⟩;rw[hw'];clear hw' w')
     refine wp_region_held_drew (S:=(fun X:World=>Blk X w.heap.size #[.string a1,.int .i64 a2,.int .i64 a3,.string a4,.string a5,.int .i64 a6,.int .i64 a7,.int .i64 at_,.string ap,.int .i64 al,.int .i64 ak] 84∧Blk X (w.heap.size+1) #[.string b1,.int .i64 b2,.int .i64 b3,.string b4,.string b5,.int .i64 b6,.int .i64 b7,.int .i64 bt_,.string bp,.int .i64 bl,.int .i64 bk] 84)) (by kernel_rfl) ⟨HBA.out.drew,HBB.out.drew⟩ (fun hHeld=> ?_);have hSS:(fun X:World=>Blk X w.heap.size #[.string a1,.int .i64 a2,.int .i64 a3,.string a4,.string a5,.int .i64 a6,.int .i64 a7,.int .i64 at_,.string ap,.int .i64 al,.int .i64 ak] 84∧Blk X (w.heap.size+1) #[.string b1,.int .i64 b2,.int .i64 b3,.string b4,.string b5,.int .i64 b6,.int .i64 b7,.int .i64 bt_,.string bp,.int .i64 bl,.int .i64 bk] 84) Y2.drew:=⟨HBA.out.drew,HBB.out.drew⟩;have bD:Below w.heap.size w Y2.drew:=HB.out.drew;clear HB HBA HBB a0 a1' a2' a3' b0 b1' b2' b3' hY1 hY2 s1 d0 k5 te f1 f2;obtain⟨V0,hV0⟩:∃V,Y2.drew=V:=⟨_,rfl⟩;rw[hV0]at hHeld hSS bD ⊢;clear hV0;change wpAnyH _ _ _ _ _ 9 _ _ _;refine tk 0 (h:= ?_);refine tk 1 (h:= ?_);refine wpAnyH_take (i:=2) (v:=.agg #[.string a1,.int .i64 a2,.int .i64 a3,.string a4,.string a5,.int .i64 a6,.int .i64 a7,.int .i64 at_,.string ap,.int .i64 al,.int .i64 ak]) (by simp only[List.getElem?_toArray,List.getElem?_cons_zero,List.getElem?_cons_succ];rfl) (by kernel_rfl) (by kernel_rfl) (by kernel_rfl) (by intro _ _ _ h;exact h) (yieldsIf_boxLoad (by rfl) rfl rfl (fun _ hw=>hw.1) ⟨_,Tryz.underlying84,by kernel_rfl⟩) (by assumption) ?_;refine td (h:= ?_);refine wpAnyH_take (i:=5) (v:=.agg #[.string b1,.int .i64 b2,.int .i64 b3,.string b4,.string b5,.int .i64 b6,.int .i64 b7,.int .i64 bt_,.string bp,.int .i64 bl,.int .i64 bk]) (by simp only[List.getElem?_toArray,List.getElem?_cons_zero,List.getElem?_cons_succ];rfl) (by kernel_rfl) (by kernel_rfl) (by kernel_rfl) (by intro _ _ _ h;exact h) (yieldsIf_boxLoad (by rfl) rfl rfl (fun _ hw=>hw.2) ⟨_,Tryz.underlying84,by kernel_rfl⟩) (by assumption) ?_;refine td (h:= ?_);refine rd1 3 (h:=fun K hK=> ?_);rw[if_pos (by rfl)];go_wp2_with fail
     refine(CA.out V0).mono ?_;rintro e W6 ⟨rfl,hbn⟩;have bD:=bD.st hbn;have hSS:(fun X:World=>Blk X w.heap.size #[.string a1,.int .i64 a2,.int .i64 a3,.string a4,.string a5,.int .i64 a6,.int .i64 a7,.int .i64 at_,.string ap,.int .i64 al,.int .i64 ak] 84∧Blk X (w.heap.size+1) #[.string b1,.int .i64 b2,.int .i64 b3,.string b4,.string b5,.int .i64 b6,.int .i64 b7,.int .i64 bt_,.string bp,.int .i64 bl,.int .i64 bk] 84) W6:=⟨hSS.1.below hbn hSS.1.lt,hSS.2.below hbn hSS.2.lt⟩;clear hbn;go_wp2_with fail
     refine hK.out _ _ hSS (fun hHeld=> ?_);clear hK K;refine td (h:= ?_);refine tk 4 (h:= ?_);refine rd1 6 (h:=fun K hK=> ?_);rw[if_pos (by rfl)];go_wp2_with fail
     refine(CB.out W6).mono ?_;rintro e W7 ⟨rfl,hbn⟩;have bD:=bD.st hbn;have hSS:(fun X:World=>Blk X w.heap.size #[.string a1,.int .i64 a2,.int .i64 a3,.string a4,.string a5,.int .i64 a6,.int .i64 a7,.int .i64 at_,.string ap,.int .i64 al,.int .i64 ak] 84∧Blk X (w.heap.size+1) #[.string b1,.int .i64 b2,.int .i64 b3,.string b4,.string b5,.int .i64 b6,.int .i64 b7,.int .i64 bt_,.string bp,.int .i64 bl,.int .i64 bk] 84) W7:=⟨hSS.1.below hbn hSS.1.lt,hSS.2.below hbn hSS.2.lt⟩;clear hbn;go_wp2_with fail
     refine hK.out _ _ hSS (fun hHeld=> ?_);clear hK K;refine td (h:= ?_);refine tk 7 (h:= ?_);refine tk 8 (h:= ?_);refine wpAnyH_done (by kernel_rfl) ?_ _;have HB:=hid bD;have a2':=hSS.1.cell 9 (v:=.int .i64 al) rfl;have b2':=hSS.2.cell 9 (v:=.int .i64 bl) rfl;clear hHeld hSS bD;by_cases k3:al=bl
     ·have f3:(al !=bl)=false:=by simp[k3]
      rw[if_pos k3]at R;clear k3;go_wp2_with fail
      go_ret;rw[R.out];exact⟨by simp,HB.out⟩
     ·have f3:(al !=bl)=true:=by simp[k3]
      rw[if_neg k3]at R;clear k3;go_wp2_with fail
      go_ret;rw[R.out];exact⟨by simp,HB.out⟩
    ·have R:=hid (RN.out (fun q=>k4 q.2.2.2));have k5:20<d:=by omega
     clear RN RY hq CA CB hdr hla hlb k1 k2 k4;go_enter Tryz.func153,Tryz.ntmps153;go_wp2_with fail
     refine(CD.out _).mono ?_;rintro e w' ⟨rfl,hw'⟩;rw[hw'];clear hw' w';go_wp2_with fail
     go_ret;rw[R.out];exact⟨rfl,HB.out⟩
  ·have f2:(bk !=2)=true:=by simp[k2]
   have R:=hid (RN.out (fun q=>k2 q.2.1));clear RN RY CA CB hdr hla hlb k1 k2;go_enter Tryz.func153,Tryz.ntmps153;go_wp2_with fail
   refine(CD.out _).mono ?_;rintro e w' ⟨rfl,hw'⟩;rw[hw'];clear hw' w';go_wp2_with fail
   go_ret;rw[R.out];exact⟨rfl,HB.out⟩
 ·have f1:(ak !=1)=true:=by simp[k1]
  have R:=hid (RN.out (fun q=>k1 q.1));clear RN RY CA CB hdr hla hlb k1;go_enter Tryz.func153,Tryz.ntmps153;go_wp2_with fail
  refine(CD.out _).mono ?_;rintro e w' ⟨rfl,hw'⟩;rw[hw'];clear hw' w';go_wp2_with fail
  go_ret;rw[R.out];exact⟨rfl,HB.out⟩
theorem axles_any (p0 p1 p3 p4:ByteArray)(p2 p5 p6:Int)(p7:Value)(lane:Int)(s:Sn)(h2:0≤p2∧p2≤1000000000000)(hs:SnOk s)(h7:p7.oneCell'=true)(w:World):Calls Tryz.prog 137 #[.agg #[.string p0,.string p1,.int .i64 p2,.string p3,.string p4,.int .i64 p5,.int .i64 p6,p7],.int .i64 lane,SnV s] w fun e w'=>e=.returned (.int .i64 (axlV p2 p1 lane s))∧Below w.heap.size w w':=by
 have qb:0≤s.t∧s.t≤1000000000000:=⟨hs.t0,by have:=hs.t1;omega⟩;have CD:=hid (fun(X:World)=>distance_any p2 s.t h2 qb X);have hdr:=distI_rng h2 qb;have RN:=hid (fun(q:¬(s.kind=3∧eqS p1 s.pt=true∧distI p2 s.t≤10))=>show axlV p2 p1 lane s= -1 by unfold axlV;rw[if_neg q]);have RY:=hid (fun q=>show axlV p2 p1 lane s=_ from if_pos q);generalize axlV p2 p1 lane s=r at*;generalize distI p2 s.t=d at*;obtain⟨⟨b1,b2,b3,b4,b5,b6,b7⟩,bt_,bp,bl,bk⟩:=s;simp only[SnV]at RN RY CD ⊢;obtain⟨Y1,hY1⟩:∃Y,w.alloc (.cells #[.string p0,.string p1,.int .i64 p2,.string p3,.string p4,.int .i64 p5,.int .i64 p6,p7] 76)=Y:=⟨_,rfl⟩;obtain⟨Y2,hY2⟩:∃Y,Y1.alloc (.cells #[.string b1,.int .i64 b2,.int .i64 b3,.string b4,.string b5,.int .i64 b6,.int .i64 b7,.int .i64 bt_,.string bp,.int .i64 bl,.int .i64 bk] 84)=Y:=⟨_,rfl⟩;have s1:Y1.heap.size=w.heap.size+1:=by rw[←hY1];simp
 have bY:Below w.heap.size w Y2:=by rw[←hY2,←hY1];exact((Below.refl _ w).al _).al _
 have BA:Blk Y2 w.heap.size #[.string p0,.string p1,.int .i64 p2,.string p3,.string p4,.int .i64 p5,.int .i64 p6,p7] 76:=by rw[←hY2,←hY1];exact(Blk.new w _ _).alloc _
 have BB:Blk Y2 (w.heap.size+1) #[.string b1,.int .i64 b2,.int .i64 b3,.string b4,.string b5,.int .i64 b6,.int .i64 b7,.int .i64 bt_,.string bp,.int .i64 bl,.int .i64 bk] 84:=by rw[←s1,←hY2];exact Blk.new Y1 _ _
 have a0:=BA.cell 2 (v:=.int .i64 p2) rfl;have a1':=BA.cell 1 (v:=.string p1) rfl;have b0:=BB.cell 7 (v:=.int .i64 bt_) rfl;have b1':=BB.cell 8 (v:=.string bp) rfl;have b2':=BB.cell 9 (v:=.int .i64 bl) rfl;have b3':=BB.cell 10 (v:=.int .i64 bk) rfl;have HB:=hid bY;have te:(p1.toList==bp.toList)=eqS p1 bp:=rfl;clear hs h2 qb BA BB bY;have d0:¬d<0:=by omega
 by_cases k1:bk=3
 ·have f1:(bk !=3)=false:=by simp[k1]
  cases hq:eqS p1 bp
  ·have R:=hid (RN.out (by rw[hq];simp));rw[hq]at te;clear RN RY hq hdr k1;go_enter Tryz.func137,Tryz.ntmps137;go_wp2_with fail
   refine(CD.out _).mono ?_;rintro e w' ⟨rfl,hw'⟩;rw[hw'];clear hw' w';go_wp2_with fail
   go_ret;rw[R.out];exact⟨rfl,HB.out⟩
  ·rw[hq]at te;by_cases k4:d≤10
   ·have k5:¬10<d:=by omega
    have R:=hid (RY.out ⟨k1,hq,k4⟩);have w1:IntKind.i64.wrap (5*d)=5*d:=IntWalk.i64_in _ (by omega);have w2:IntKind.i64.wrap (5*d+40)=5*d+40:=IntWalk.i64_in _ (by omega);clear RN RY hq hdr k1;by_cases k3:bl=lane
    ·have f3:(bl !=lane)=false:=by simp[k3]
     rw[if_pos k3]at R;clear k3;go_enter Tryz.func137,Tryz.ntmps137;go_wp2_with fail
     refine(CD.out _).mono ?_;rintro e w' ⟨rfl,hw'⟩;rw[hw'];clear hw' w';go_wp2_with fail
     go_ret;rw[R.out];exact⟨by simp,HB.out⟩
    ·have f3:(bl !=lane)=true:=by simp[k3]
     rw[if_neg k3]at R;clear k3;go_enter Tryz.func137,Tryz.ntmps137;go_wp2_with fail
     refine(CD.out _).mono ?_;rintro e w' ⟨rfl,hw'⟩;rw[hw'];clear hw' w';go_wp2_with fail
     go_ret;rw[R.out];exact⟨by simp,HB.out⟩
   ·have R:=hid (RN.out (fun q=>k4 q.2.2));have k5:10<d:=by omega
    clear RN RY hq hdr k1 k4;go_enter Tryz.func137,Tryz.ntmps137;go_wp2_with fail
    refine(CD.out _).mono ?_;rintro e w' ⟨rfl,hw'⟩;rw[hw'];clear hw' w';go_wp2_with fail
    go_ret;rw[R.out];exact⟨rfl,HB.out⟩
 ·have f1:(bk !=3)=true:=by simp[k1]
  have R:=hid (RN.out (fun q=>k1 q.1));clear RN RY hdr k1;go_enter Tryz.func137,Tryz.ntmps137;go_wp2_with fail
  refine(CD.out _).mono ?_;rintro e w' ⟨rfl,hw'⟩;rw[hw'];clear hw' w';go_wp2_with fail
  go_ret;rw[R.out];exact⟨rfl,HB.out⟩
end
section
open Go.RowKit Go.Lib
open Mat
theorem least_rng {a:Sn}{l:List Sn}(ha:SnOk a)(hl:∀b∈l,SnOk b):∀m:Int,-1≤m∧m≤450→ -1≤l.foldl (leastStep a) m∧l.foldl (leastStep a) m≤450:=by
 induction l with
 |nil=>intro m h;exact h
 |cons b l ih=>
  intro m h;rw[List.foldl_cons];refine ih (fun x hx=>hl x (List.mem_cons_of_mem _ hx)) _ ?_;have:=pairV_rng ha (hl b List.mem_cons_self)
  unfold leastStep;split<;>omega
theorem leastV_rng {ga gb:List Sn}(ha:∀a∈ga,SnOk a)(hb:∀b∈gb,SnOk b): -1≤leastV ga gb∧leastV ga gb≤450:=by
 unfold leastV;have:∀m:Int,-1≤m∧m≤450→ -1≤ga.foldl (fun m a=>gb.foldl (leastStep a) m) m∧ga.foldl (fun m a=>gb.foldl (leastStep a) m) m≤450:=by
  induction ga with
  |nil=>intro m h;exact h
  |cons a l ih=>
   intro m h;rw[List.foldl_cons];exact ih (fun x hx=>ha x (List.mem_cons_of_mem _ hx)) _ (least_rng (ha a List.mem_cons_self) hb m h)
 exact this (-1) (by omega)
theorem fold_snoc {α β:Type}(f:β→α→β)(b:β){l:List α}{k:Nat}{x:α}(h:l[k]? =some x):(l.take (k+1)).foldl f b=f ((l.take k).foldl f b) x:=by rw[take_snoc h,List.foldl_append];rfl
theorem mat1_any {tA pA:Option Addr}(tc pc:Nat){ts ps:List (Gp Sn)}{tb pb i j:Nat}{gt gp:Gp Sn}{w:World}(htb:tb<w.heap.size)(hpb:pb<w.heap.size)(hT:w.cell? ⟨tb,0,none⟩=some (.slice tA ts.length tc))(hP:w.cell? ⟨pb,0,none⟩=some (.slice pA ps.length pc))
  (rT:RdG encSn 11 w w.heap.size tA ts) (rP:RdG encSn 11 w w.heap.size pA ps) (hi:ts[i]? =some gt) (hj:ps[j]? =some gp) (oT:∀x∈gt.l,SnOk x) (oP:∀x∈gp.l,SnOk x) (lT:gt.l.length≤1000) (lP:gp.l.length≤1000) (lT2:ts.length≤1000) (lP2:ps.length≤1000):
  Calls Tryz.prog 152 #[.int .i64 i,.int .i64 j,.pointer (some ⟨tb,0,none⟩),.pointer (some ⟨pb,0,none⟩)] w fun e w'=>e=.returned (.int .i64 (leastV gt.l gp.l))∧Below w.heap.size w w':=by
 obtain⟨b1,o1,g1,rfl,hb1,hg1,d1,r1⟩:=rT.at_ (List.getElem?_eq_some_iff.1 hi).1;rw[hi]at hg1;injection hg1 with hg1;subst hg1;obtain⟨b2,o2,g2,rfl,hb2,hg2,d2,r2⟩:=rP.at_ (List.getElem?_eq_some_iff.1 hj).1;rw[hj]at hg2;injection hg2 with hg2;subst hg2;obtain⟨gA,gc,gl⟩:=gt;obtain⟨hA,hc,hl⟩:=gp;simp only at*;have i1:(0:Int)≤(i:Int):=by omega
 have i2:(i:Int)<(ts.length:Int):=by have:=(List.getElem?_eq_some_iff.1 hi).1;omega
 have j1:(0:Int)≤(j:Int):=by omega
 have j2:(j:Int)<(ps.length:Int):=by have:=(List.getElem?_eq_some_iff.1 hj).1;omega
 have i3:decide (i<ts.length)=true:=decide_eq_true (List.getElem?_eq_some_iff.1 hi).1;have j3:decide (j<ps.length)=true:=decide_eq_true (List.getElem?_eq_some_iff.1 hj).1;have R1:=hid r1;have R2:=hid r2;have HD2:=hid d2;have HPB:=hid hP;have HLT:=hid (show pb<w.heap.size∧b2<w.heap.size from⟨hpb,hb2⟩);have OT:=hid oT;have OP:=hid oP;have CP:=hid (fun(a b:Sn) (ha:SnOk a) (hb:SnOk b) (X:World)=>pair_any a b ha hb X);have HV:=hid (show leastV gl hl=gl.foldl (fun m a=>hl.foldl (leastStep a) m) (-1)from rfl);have HRG:=hid (fun k=>leastV_rng (ga:=gl.take k) (gb:=hl) (fun a ha=>oT a (List.mem_of_mem_take ha)) oP);obtain⟨r,hr⟩:∃r,leastV gl hl=r:=⟨_,rfl⟩;rw[hr]at HV ⊢;obtain⟨n1,hn1⟩:∃n,gl.length=n:=⟨_,rfl⟩;obtain⟨n2,hn2⟩:∃n,hl.length=n:=⟨_,rfl⟩;rw[hn1]at d1 lT;rw[hn2]at HD2 lP;have HN1:=hid hn1;have HN2:=hid hn2;clear rT rP hi hj oT oP r1 r2 hr hn1 hn2 d2 hP hpb hb2;go_enter Tryz.func152,Tryz.ntmps152;go_wp2_with fail
 go_loopw [18,7] (fun si sm wx=>∃k:Nat,k≤n1∧si=.int .i64 k∧sm=.int .i64 (leastV (gl.take k) hl)∧Hid (Below w.heap.size w wx)) (fun si _ _=>n1-(RowKit.intOf si).toNat)
 case atStart=>exact⟨0,Nat.zero_le _,rfl,rfl,Below.refl _ _⟩
 case round=>
  obtain⟨k,hk,rfl,rfl,HB⟩:=hrel;have k1:(0:Int)≤(k:Int):=by omega
  by_cases hkn:k<n1
  ·have HK:=hid hkn;have k2:(k:Int)<(n1:Int):=by omega
   obtain⟨x1,y1,a,hAa,hb,hx,hca⟩:=(R1.out.keep HB.out).at_ (i:=k) (by rw[HN1.out];exact hkn);have HA:=hid (OT.out a (List.mem_of_getElem? hx));have HST:=hid (show leastV (gl.take (k+1)) hl=hl.foldl (leastStep a) (leastV (gl.take k) hl)from fold_snoc _ _ hx);have hrg:=HRG.out k;have HLR:=hid (fun m=>least_rng (l:=hl.take m) HA.out (fun b hb=>OP.out b (List.mem_of_mem_take hb)) (leastV (gl.take k) hl) hrg);obtain⟨m0,hm0⟩:∃m,leastV (gl.take k) hl=m:=⟨_,rfl⟩;rw[hm0]at HST HLR hrg ⊢;have CPA:=hid (fun(b:Sn) (hb:SnOk b) (X:World)=>CP.out a b HA.out hb X);have HPV:=hid (fun(b:Sn) (hb:SnOk b)=>pairV_rng HA.out hb);have HSA:=hid (show encSn a=encSn a from rfl);obtain⟨sa,hsa⟩:∃sa,sa=a:=⟨_,rfl⟩;have HSAV:=hid hsa;rw[←hsa]at HST HLR CPA HPV;obtain⟨⟨a1,a2,a3,a4,a5,a6,a7⟩,a8,a9,a10,a11⟩:=a;have c0:wr.cell? ⟨x1,y1+k*11,none⟩=some (.string a1):=by simpa using hca 0 _ rfl
   have c1:wr.cell? ⟨x1,y1+k*11+1,none⟩=some (.int .i64 a2):=hca 1 _ rfl;have c2:wr.cell? ⟨x1,y1+k*11+2,none⟩=some (.int .i64 a3):=hca 2 _ rfl;have c3:wr.cell? ⟨x1,y1+k*11+3,none⟩=some (.string a4):=hca 3 _ rfl;have c4:wr.cell? ⟨x1,y1+k*11+4,none⟩=some (.string a5):=hca 4 _ rfl;have c5:wr.cell? ⟨x1,y1+k*11+5,none⟩=some (.int .i64 a6):=hca 5 _ rfl;have c6:wr.cell? ⟨x1,y1+k*11+6,none⟩=some (.int .i64 a7):=hca 6 _ rfl;have c7:wr.cell? ⟨x1,y1+k*11+7,none⟩=some (.int .i64 a8):=hca 7 _ rfl;have c8:wr.cell? ⟨x1,y1+k*11+8,none⟩=some (.string a9):=hca 8 _ rfl;have c9:wr.cell? ⟨x1,y1+k*11+9,none⟩=some (.int .i64 a10):=hca 9 _ rfl;have c10:wr.cell? ⟨x1,y1+k*11+10,none⟩=some (.int .i64 a11):=hca 10 _ rfl;obtain⟨Y,hY⟩:∃Y,wr.alloc (.cells #[.string a1,.int .i64 a2,.int .i64 a3,.string a4,.string a5,.int .i64 a6,.int .i64 a7,.int .i64 a8,.string a9,.int .i64 a10,.int .i64 a11] 84)=Y:=⟨_,rfl⟩;have HBS:Hid (Blk Y wr.heap.size #[.string a1,.int .i64 a2,.int .i64 a3,.string a4,.string a5,.int .i64 a6,.int .i64 a7,.int .i64 a8,.string a9,.int .i64 a10,.int .i64 a11] 84):=hid (by rw[←hY];exact Blk.new wr _ _);have HBY:Hid (Below w.heap.size w Y):=hid (by rw[←hY];exact HB.out.alloc HB.out.size _);have p0:Y.cell? ⟨pb,0,none⟩=some (.slice (some ⟨b2,o2,none⟩) ps.length pc):=(HBY.out.cell (p:=⟨pb,0,none⟩) HLT.out.1).trans HPB.out;have p1:Y.cell? ⟨b2,o2+j,none⟩=some (.slice hA n2 hc):=(HBY.out.cell (p:=⟨b2,_,none⟩) HLT.out.2).trans HD2.out;subst hAa;obtain⟨sb,hsb⟩:∃s,wr.heap.size=s:=⟨_,rfl⟩;rw[hsb]at HBS;clear hca hb hx hm0 hk hsa;go_wp2_with fail
   go_loopw [27,7] (fun si sm wx=>∃m:Nat,m≤n2∧si=.int .i64 m∧sm=.int .i64 ((hl.take m).foldl (leastStep sa) m0)∧Hid (Below Y.heap.size Y wx)) (fun si _ _=>n2-(RowKit.intOf si).toNat)
   case atStart=>exact⟨0,Nat.zero_le _,rfl,rfl,Below.refl _ _⟩
   case round=>
    obtain⟨m,hm,rfl,rfl,HBX⟩:=hrel;have m1:(0:Int)≤(m:Int):=by omega
    have HBZ:=hid (HBY.out.st HBX.out);by_cases hmn:m<n2
    ·have HM:=hid hmn;have m2:(m:Int)<(n2:Int):=by omega
     obtain⟨x2,y2,bb,hAb,hbb,hxb,hcb⟩:=(R2.out.keep HBZ.out).at_ (i:=m) (by rw[HN2.out];exact hmn);have HBO:=OP.out bb (List.mem_of_getElem? hxb);have CPB:=hid (fun(X:World)=>CPA.out bb HBO X);have hpv:=HPV.out bb HBO;have HS2:=hid (show(hl.take (m+1)).foldl (leastStep sa) m0=leastStep sa ((hl.take m).foldl (leastStep sa) m0) bb from fold_snoc _ _ hxb);have hvr:=HLR.out m;obtain⟨v,hv⟩:∃v,(hl.take m).foldl (leastStep sa) m0=v:=⟨_,rfl⟩;obtain⟨pc_,hpc⟩:∃c,pairV sa bb=c:=⟨_,rfl⟩;rw[hv]at HS2 hvr ⊢;have HST2:=hid (show(hl.take (m+1)).foldl (leastStep sa) m0=if 0≤pc_∧(v<0∨pc_<v)then pc_ else v by rw[HS2.out];unfold leastStep;rw[hpc]);rw[hpc]at CPB hpv;have HSB:=HBS.out.below HBX.out HBS.out.lt;rw[HSAV.out]at CPB;obtain⟨⟨b1,b2',b3,b4,b5,b6,b7⟩,b8,b9,b10,b11⟩:=bb;have e0:wr.cell? ⟨x2,y2+m*11,none⟩=some (.string b1):=by simpa using hcb 0 _ rfl
     have e1:wr.cell? ⟨x2,y2+m*11+1,none⟩=some (.int .i64 b2'):=hcb 1 _ rfl;have e2:wr.cell? ⟨x2,y2+m*11+2,none⟩=some (.int .i64 b3):=hcb 2 _ rfl;have e3:wr.cell? ⟨x2,y2+m*11+3,none⟩=some (.string b4):=hcb 3 _ rfl;have e4:wr.cell? ⟨x2,y2+m*11+4,none⟩=some (.string b5):=hcb 4 _ rfl;have e5:wr.cell? ⟨x2,y2+m*11+5,none⟩=some (.int .i64 b6):=hcb 5 _ rfl;have e6:wr.cell? ⟨x2,y2+m*11+6,none⟩=some (.int .i64 b7):=hcb 6 _ rfl;have e7:wr.cell? ⟨x2,y2+m*11+7,none⟩=some (.int .i64 b8):=hcb 7 _ rfl;have e8:wr.cell? ⟨x2,y2+m*11+8,none⟩=some (.string b9):=hcb 8 _ rfl;have e9:wr.cell? ⟨x2,y2+m*11+9,none⟩=some (.int .i64 b10):=hcb 9 _ rfl;have e10:wr.cell? ⟨x2,y2+m*11+10,none⟩=some (.int .i64 b11):=hcb 10 _ rfl;obtain⟨Z,hZ⟩:∃Z,wr.alloc (.cells #[.string b1,.int .i64 b2',.int .i64 b3,.string b4,.string b5,.int .i64 b6,.int .i64 b7,.int .i64 b8,.string b9,.int .i64 b10,.int .i64 b11] 84)=Z:=⟨_,rfl⟩;have HZB:Hid (Blk Z wr.heap.size #[.string b1,.int .i64 b2',.int .i64 b3,.string b4,.string b5,.int .i64 b6,.int .i64 b7,.int .i64 b8,.string b9,.int .i64 b10,.int .i64 b11] 84):=hid (by rw[←hZ];exact Blk.new wr _ _);have HZA:Hid (Blk Z sb #[.string a1,.int .i64 a2,.int .i64 a3,.string a4,.string a5,.int .i64 a6,.int .i64 a7,.int .i64 a8,.string a9,.int .i64 a10,.int .i64 a11] 84):=hid (by rw[←hZ];exact HSB.alloc _);have HZX:Hid (Below Y.heap.size Y Z):=hid (by rw[←hZ];exact HBX.out.alloc HBX.out.size _);simp only[SnV]at CPB;subst hAb;clear hcb hbb hxb hv hpc hm HSB HBO HS2;go_wp2_with(first|(refine wpList_boxLoad rfl (ty:=84) (x:=.tmp 9) (cs:=#[.string a1,.int .i64 a2,.int .i64 a3,.string a4,.string a5,.int .i64 a6,.int .i64 a7,.int .i64 a8,.string a9,.int .i64 a10,.int .i64 a11]) rfl HZA.out rfl ⟨_,Tryz.underlying84,by kernel_rfl⟩ ?_)|(refine wpList_boxLoad rfl (ty:=84) (x:=.tmp 11) rfl HZB.out rfl ⟨_,Tryz.underlying84,by kernel_rfl⟩ ?_))
     refine(CPB.out _).mono ?_;rintro e W9 ⟨rfl,hb9⟩;have HBN:=hid (HZX.out.st hb9);clear hb9 CPB e0 e1 e2 e3 e4 e5 e6 e7 e8 e9 e10 hZ;by_cases q0:0≤pc_
     ·by_cases q1:v<0
      ·have R:=hid (HST2.out.trans (if_pos ⟨q0,Or.inl q1⟩));clear HST2;go_wp2_with fail
       go_roundw
       case rel=>exact⟨m+1,HM.out,by go_num,by rw[R.out],HBN.out⟩
       case measure=>have:=HM.out;simp[RowKit.intOf];omega
      ·by_cases q2:pc_<v
       ·have R:=hid (HST2.out.trans (if_pos ⟨q0,Or.inr q2⟩));clear HST2;go_wp2_with fail
        go_roundw
        case rel=>exact⟨m+1,HM.out,by go_num,by rw[R.out],HBN.out⟩
        case measure=>have:=HM.out;simp[RowKit.intOf];omega
       ·have R:=hid (HST2.out.trans (if_neg (fun h=>h.2.elim q1 q2)));clear HST2;go_wp2_with fail
        go_roundw
        case rel=>exact⟨m+1,HM.out,by go_num,by rw[R.out],HBN.out⟩
        case measure=>have:=HM.out;simp[RowKit.intOf];omega
     ·have R:=hid (HST2.out.trans (if_neg (fun h=>q0 h.1)));clear HST2;go_wp2_with fail
      go_roundw
      case rel=>exact⟨m+1,HM.out,by go_num,by rw[R.out],HBN.out⟩
      case measure=>have:=HM.out;simp[RowKit.intOf];omega
    ·obtain rfl:m=n2:=by omega
     rw[show hl.take m=hl by rw[←HN2.out,List.take_length],←HST.out];clear hm hmn;go_wp2_with fail
     go_roundw
     case rel=>exact⟨k+1,HK.out,by go_num,rfl,HBZ.out⟩
     case measure=>have:=HK.out;simp[RowKit.intOf];omega
  ·obtain rfl:k=n1:=by omega
   rw[show gl.take k=gl by rw[←HN1.out,List.take_length],show leastV gl hl=r from HV.out.symm];clear hk hkn;go_wp2_with fail
   go_ret;exact⟨rfl,HB.out⟩
end
end Go.Proofs.YtimffppffbideaaGreatDoor
