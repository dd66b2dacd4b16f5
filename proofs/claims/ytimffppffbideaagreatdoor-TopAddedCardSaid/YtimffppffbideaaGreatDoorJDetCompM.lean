import Derived.Lib.SlicesCompact
import Derived.Test.YtimffppffbideaaGreatDoorJDetCmp
set_option linter.unusedSimpArgs false
set_option linter.unusedVariables false
set_option maxRecDepth 100000
set_option maxHeartbeats 16000000
namespace Go.Proofs.YtimffppffbideaaGreatDoor
section
open Go.RowKit Go.Lib
instance : DecidableEq Dt := fun a b => if h : cmpDt a b = 0 then .isTrue (cmpDt_zero.1 h) else .isFalse fun e => h (cmpDt_zero.2 e)
def HoldD (W:World)(g:Nat)(dk:Array Dt):Prop:=∀i,i<dk.size→∀j u,(encDt dk[i]!)[j]? =some u→W.cell? ⟨g,i*7+j,none⟩=some u∧W.frozen? ⟨g,i*7+j,none⟩=false
theorem encDt_len (d:Dt):(encDt d).length=7:=rfl
theorem HoldD.set {W:World}{g:Nat}{dk:Array Dt}(h:HoldD W g dk){i:Nat}(hi:i<dk.size)(y:Dt):HoldD (W.setCells g (i*7) (encDt y)) g (dk.setIfInBounds i y):=by
 intro i' hi' j u hu;simp only[Array.size_setIfInBounds]at hi';have hj:j<7:=by have:=(List.getElem?_eq_some_iff.1 hu).1;rwa [encDt_len]at this
 rw[World.frozen?_setCells];by_cases e:i'=i
 ·subst e;have hu2:(encDt y)[j]? =some u:=by rwa [Go.Sort.getElem!_set_same dk i' y hi]at hu
  have hin:=World.cell?_setCells_in g (encDt y) (i'*7) W (fun j' hj'=>by
   have:j'<(encDt dk[i']!).length:=by rw[encDt_len]at*;exact hj'
   rw[(h i' hi j' _ (List.getElem?_eq_getElem this)).1];rfl) j (by rw[encDt_len];exact hj)
  refine⟨hin.trans ?_,(h i' hi j _ (List.getElem?_eq_getElem (by rw[encDt_len];exact hj))).2⟩;rw[←hu2,List.getElem?_eq_getElem]
 ·rw[Go.Sort.getElem!_set_other dk i i' y e]at hu;obtain⟨h1,h2⟩:=h i' hi' j u hu;refine⟨?_,h2⟩;rw[World.cell?_setCells_out g _ _ _ _ (fun _ _=>by simp only[encDt_len];omega)];exact h1
theorem Below_setCells {B g:Nat}{w W:World}(h:Below B w W)(hg:B≤g)(o:Nat)(vs:List Value):Below B w (W.setCells g o vs):=by
 induction vs generalizing o W with
 |nil=>exact h
 |cons v vs ih=>exact ih (h.setCell (p:=⟨g,o,none⟩) hg v) _
theorem HoldD.drew {W:World}{g:Nat}{dk:Array Dt}(h:HoldD W g dk):HoldD W.drew g dk:=h
theorem HoldD.drewN {W:World}{g:Nat}{dk:Array Dt}(h:HoldD W g dk)(n:Nat):HoldD (W.drewN n) g dk:=h
theorem HoldD.store {P:Program}{W:World}{g:Nat}{dk:Array Dt}(h:HoldD W g dk){i:Nat}(hi:i<dk.size)(y:Dt):
  (storeCells ⟨g,i*7,none⟩ (encDt y) 0).run P W=.ok () (W.setCells g (i*7) (encDt y)):=by
 have hc:∀j,j<(encDt y).length→(W.cell? ⟨g,i*7+0+j,none⟩).isSome=true∧W.frozen? ⟨g,i*7+0+j,none⟩=false:=fun j hj=>by
  have hj2:j<(encDt dk[i]!).length:=by rw[encDt_len]at*;exact hj
  obtain⟨h1,h2⟩:=h i hi j _ (List.getElem?_eq_getElem hj2);rw[Nat.add_zero,h1];exact⟨rfl,h2⟩
 have:=run_storeCells_cells (P:=P) g (i*7) (encDt y) 0 W (fun j hj=>(hc j hj).1) (fun j hj=>(hc j hj).2) (fun v hv=>by simp[encDt]at hv;rcases hv with rfl|rfl|rfl|rfl|rfl|rfl|rfl<;>rfl)
 rwa [Nat.add_zero]at this
theorem wpList_elemStore {P:Program}{ops:Array Oper}{rest:List Oper}{o:Oper}{a:Act}{w w2:World}{Q:Exit→Act→World→Prop}(hgd:o.guard=none){ty:TypeId}{x y:Operand}(ho:o.op=.store ty x y)
  {p:Addr} {cells:Array Value} (hx:a.eval x=.pointer (some p)) (hy:a.eval y=.agg cells) (hi:(P.info? ty).map (·.size)=some cells.size)
  (hst:(storeCells p cells.toList 0).run P w=.ok () w2) (h:wpList P ops Q rest (a.put o.dst undef) w2):wpList P ops Q (o::rest) a w:=by
 refine wpList_plain hgd fun K hK=> ?_;unfold Oper.wp execOp;have hsv:(storeVar ty p (.agg cells)).run P w=.ok () w2:=by
  cases hq:P.info? ty with
  |none=>simp[hq]at hi
  |some i=>
   have hs:cells.size=i.size:=by simp[hq]at hi;omega
   simp[storeVar,sizeOf,typeInfo,hq,Value.cells,hs,hst]
 simp only[ho,hx,hy,Instr.storeAt,Instr.sureAddr,Sem.run_bind,Sem.run_pure,Result.andThen_ok,hsv];exact hK _ _ h
theorem run_clear_many {P:Program}(w:World)(t e ty:TypeId)(z:Value)(ht:P.underlying t=some (.slice e))(hv:∀w,(zeroValue e).run P w=.ok z w)(b o n c:Nat)(hn:0<n)(h1:∀v∈(Builtin.zeroCells z.cells n).toList,v.oneCell'=true)
  (hc:∀j,j<(Builtin.zeroCells z.cells n).toList.length→(w.cell? ⟨b,o+j,none⟩).isSome=true) (hf:∀j,j<(Builtin.zeroCells z.cells n).toList.length→w.frozen? ⟨b,o+j,none⟩=false):
  (Builtin.clear_ #[t] ty #[.slice (some ⟨b,o,none⟩) n c]).run P w=.ok (.tuple #[]) (w.setCells b o (Builtin.zeroCells z.cells n).toList):=by
 have hst:=run_storeCells_cells (P:=P) b o (Builtin.zeroCells z.cells n).toList 0 w (by simpa using hc) (by simpa using hf) h1;simp only[Nat.add_zero]at hst;obtain⟨m,rfl⟩:∃m,n=m+1:=⟨n-1,by omega⟩;simp[Builtin.clear_,run_underlying ht,hv,hst]
def eqDt (x y:Dt):Bool:=eqS x.dev y.dev&&(x.seq==y.seq&&(x.time==y.time&&(eqS x.tag y.tag&&(eqS x.pl y.pl&&(x.ax==y.ax&&x.sc==y.sc)))))
theorem eqDt_iff (x y:Dt):eqDt x y=true↔x=y:=by
 unfold eqDt;simp only[Bool.and_eq_true,eqS_iff,beq_iff_eq];constructor
 ·rintro⟨h1,h2,h3,h4,h5,h6,h7⟩;cases x;cases y;simp_all
 ·rintro rfl;simp
theorem eqDt_run (x1 y1 x4 y4 x5 y5:ByteArray)(x2 x3 x6 x7 y2 y3 y6 y7:Int)(w:World):(binOp .eql 61 (.agg #[.string x1,.int .i64 x2,.int .i64 x3,.string x4,.string x5,.int .i64 x6,.int .i64 x7]) (.agg #[.string y1,.int .i64 y2,.int .i64 y3,.string y4,.string y5,.int .i64 y6,.int .i64 y7])).run Tryz.prog w=.ok (.bool (eqDt ⟨x1,x2,x3,x4,x5,x6,x7⟩ ⟨y1,y2,y3,y4,y5,y6,y7⟩)) w:=by
 unfold eqDt eqS;go_simp
 repeat' split
 all_goals simp_all
theorem neDt_run (x1 y1 x4 y4 x5 y5:ByteArray)(x2 x3 x6 x7 y2 y3 y6 y7:Int)(w:World):(binOp .neq 61 (.agg #[.string x1,.int .i64 x2,.int .i64 x3,.string x4,.string x5,.int .i64 x6,.int .i64 x7]) (.agg #[.string y1,.int .i64 y2,.int .i64 y3,.string y4,.string y5,.int .i64 y6,.int .i64 y7])).run Tryz.prog w=.ok (.bool (!eqDt ⟨x1,x2,x3,x4,x5,x6,x7⟩ ⟨y1,y2,y3,y4,y5,y6,y7⟩)) w:=by
 unfold eqDt eqS;go_simp
 repeat' split
 all_goals simp_all
theorem compact_mem (d:Array Dt)(m:Nat)(hm:m≤d.size)(z:Dt):z∈compactUpTo d m↔∃j,j<m∧d[j]! =z:=by
 induction m with
 |zero=>simp[compactUpTo]
 |succ m ih=>
  rw[compactUpTo_succ,List.mem_append,ih (by omega)];constructor
  ·rintro(⟨j,hj,e⟩|h)
   ·exact⟨j,by omega,e⟩
   ·split at h
    ·exact⟨m,by omega,(List.mem_singleton.1 h).symm⟩
    ·simp at h
  ·rintro⟨j,hj,e⟩;by_cases q:j=m
   ·subst q;by_cases hk:keeps d j=true
    ·right;rw[if_pos hk,←e];simp
    ·left;have hj0:j≠0:=fun h0=>hk (by simp[keeps,h0]);have e2:d[j]! =d[j-1]! :=by
      rcases Classical.em (d[j]! =d[j-1]!)with q|q
      ·exact q
      ·exact absurd (by simp[keeps,q]) hk
     exact⟨j-1,by omega,by rw[←e2,e]⟩
   ·exact Or.inl ⟨j,by omega,e⟩
theorem compact_asc (d:Array Dt)(hs:∀i j,i<j→j<d.size→cmpDt d[i]! d[j]!≤0):∀(m:Nat),m≤d.size→AscC cmpDt (compactUpTo d m)
 |0,_=>by simp[compactUpTo,AscC]
 |m+1,hm=>by
  rw[compactUpTo_succ];refine List.pairwise_append.2 ⟨compact_asc d hs m (by omega),by split<;>simp,fun x hx y hy=> ?_⟩;split at hy
  ·rename_i hk;rw[List.mem_singleton]at hy;subst hy;obtain⟨j,hj,rfl⟩:=(compact_mem d m (by omega) x).1 hx;have hm0:m≠0:=by omega
   have hne:d[m]!≠d[m-1]! :=by
    intro e;simp[keeps,hm0,e]at hk
   have h1:cmpDt d[m-1]! d[m]!≤0:=hs _ _ (by omega) (by omega);have h2:cmpDt d[m-1]! d[m]! <0:=by
    have:cmpDt d[m-1]! d[m]!≠0:=fun e=>hne (cmpDt_zero.1 e).symm
    omega
   by_cases e:j=m-1
   ·subst e;exact h2
   ·have h3:cmpDt d[j]! d[m-1]!≤0:=hs _ _ (by omega) (by omega);rcases(by omega:cmpDt d[j]! d[m-1]! <0∨cmpDt d[j]! d[m-1]! =0)with h4|h4
    ·exact cmpDt_pre.t _ _ _ h4 h2
    ·rw[cmpDt_zero.1 h4];exact h2
  ·simp at hy
end
section
open Go.RowKit Go.Lib
theorem HoldD.raw {W:World}{g:Nat}{dk:Array Dt}(h:HoldD W g dk){t:Nat}(ht:t<dk.size*7):(W.cell? ⟨g,t,none⟩).isSome=true∧W.frozen? ⟨g,t,none⟩=false:=by
 have hi:t/7<dk.size:=by omega
 have hj:t%7<(encDt dk[t/7]!).length:=by rw[encDt_len];omega
 obtain⟨h1,h2⟩:=h (t/7) hi (t%7) _ (List.getElem?_eq_getElem hj);rw[show t/7*7+t%7=t by omega]at h1 h2;rw[h1];exact⟨rfl,h2⟩
theorem HoldD.rd {W W2:World}{g:Nat}{dk:Array Dt}(h:HoldD W g dk){l:List Dt}(hl:l.length≤dk.size)(he:∀j,j<l.length→l[j]? =some dk[j]!)(hg:g<W2.heap.size)(hk:∀t,t<l.length*7→W2.cell? ⟨g,t,none⟩=W.cell? ⟨g,t,none⟩):Rd encDt 7 W2 W2.heap.size (some ⟨g,0,none⟩) l:=by
 intro _;refine⟨g,0,rfl,hg,fun i x hx j u hu=> ?_⟩;have hi:i<l.length:=(List.getElem?_eq_some_iff.1 hx).1;have hj:j<7:=by have:=(List.getElem?_eq_some_iff.1 hu).1;rwa [encDt_len]at this
 have e:x=dk[i]! :=Option.some.inj (hx.symm.trans (he i hi));subst e;rw[Nat.zero_add,hk _ (by omega)];exact(h i (by omega) j u hu).1
theorem zc_one {n:Nat}{v:Value}(h:v∈(Builtin.zeroCells #[.string ⟨#[]⟩,.int .i64 0,.int .i64 0,.string ⟨#[]⟩,.string ⟨#[]⟩,.int .i64 0,.int .i64 0] n).toList):v.oneCell'=true:=by
 simp only[Builtin.zeroCells,Array.toList_map,List.mem_map]at h;obtain⟨i,_,rfl⟩:=h;have:i%7=0∨i%7=1∨i%7=2∨i%7=3∨i%7=4∨i%7=5∨i%7=6:=by omega
 show Value.oneCell' (#[Value.string ⟨#[]⟩,Value.int .i64 0,Value.int .i64 0,Value.string ⟨#[]⟩,Value.string ⟨#[]⟩,Value.int .i64 0,Value.int .i64 0][i%7]!)=true
 rcases this with e|e|e|e|e|e|e<;>rw[e]<;>rfl
theorem zc_len (n:Nat):(Builtin.zeroCells #[.string ⟨#[]⟩,.int .i64 0,.int .i64 0,.string ⟨#[]⟩,.string ⟨#[]⟩,.int .i64 0,.int .i64 0] n).toList.length=n*7:=by
 simp[Builtin.zeroCells]
theorem setCells_size (b:Nat)(vs:List Value)(o:Nat)(w:World):(w.setCells b o vs).heap.size=w.heap.size:=by
 induction vs generalizing o w with
 |nil=>rfl
 |cons v vs ih=>exact(ih _ _).trans (by simp)
theorem wpList_dtStore {P:Program}{ops:Array Oper}{rest:List Oper}{o:Oper}{a:Act}{w:World}{Q:Exit→Act→World→Prop}(hgd:o.guard=none){ty:TypeId}{x y:Operand}(ho:o.op=.store ty x y)
  {g i:Nat} {dk:Array Dt} (v:Dt) (hx:a.eval x=.pointer (some ⟨g,i*7,none⟩)) (hy:a.eval y=.agg (encDt v).toArray) (hi:(P.info? ty).map (·.size)=some 7) (hW:HoldD w g dk) (hd:i<dk.size)
  (h:∀w',HoldD w' g (dk.setIfInBounds i v)→(∀B w0,B≤g→Below B w0 w→Below B w0 w')→w'.heap.size=w.heap.size→wpList P ops Q rest (a.put o.dst undef) w'):wpList P ops Q (o::rest) a w:=
 wpList_elemStore hgd ho hx hy (by rw[hi];rfl) (by simpa using hW.store hd v) (h _ (hW.set hd v) (fun B w0 hB hb=>Below_setCells hb hB _ _) (setCells_size _ _ _ _))
theorem compactDt_any {g:Nat}(cap:Nat)(d:Array Dt){w:World}{base:Nat}(hH:HoldD w g d)(hg:g<w.heap.size)(hb:base≤g)(hsz:d.size≤100000)(hcap:d.size≤cap):
  Calls Tryz.prog 22 #[.slice (some ⟨g,0,none⟩) d.size cap] w fun e w'=>e=.returned (.slice (some ⟨g,0,none⟩) (compactUpTo d d.size).length cap)∧Rd encDt 7 w' w'.heap.size (some ⟨g,0,none⟩) (compactUpTo d d.size)∧Below base w w':=by
 have HALL:=hid (show(∀j,j<d.size→keeps d j=true)→compactUpTo d d.size=d.toList from fun h=>by rw[compactUpTo_all d _ h,range_map_get]);have HTL:Hid (∀(W:World),HoldD W g d→g<W.heap.size→Rd encDt 7 W W.heap.size (some ⟨g,0,none⟩) d.toList):=fun W h hg=>h.rd (l:=d.toList) (by simp) (fun j hj=>by
  have hj2:j<d.size:=by simpa using hj
  rw[getElem!_pos d j hj2,List.getElem?_eq_getElem hj];simp) hg (fun _ _=>rfl)
 obtain⟨N,hN⟩:∃N,d.size=N:=⟨_,rfl⟩;have HN:=hid hN;rw[hN]at hsz hcap HALL ⊢;clear hN;have HH:=hid hH;have HG:=hid hg;clear hH hg;by_cases h2:N<2
 ·have R:=hid (HALL.out (fun j hj=>keeps_lt_one d j (by omega)));have h2b:(N:Int)<2:=by omega
  go_enter Tryz.func22,Tryz.ntmps22;go_wp2_with fail
  go_ret;exact⟨by rw[R.out,Array.length_toList,HN.out];rfl,by rw[R.out];exact HTL.out _ HH.out HG.out,Below.refl _ _⟩
 ·have h2b:¬(N:Int)<2:=by omega
  go_enter Tryz.func22,Tryz.ntmps22;go_wp2_with fail
  go_loopw [3] (fun s3 wr=>∃k:Nat,1≤k∧k≤N∧s3=.int .i64 k∧Hid (∀j,j<k→keeps d j=true)∧Hid (HoldD wr g d)∧Below base w wr∧w.heap.size=wr.heap.size) (fun i _=>N-(RowKit.intOf i).toNat)
  case atStart=>exact⟨1,Nat.le_refl _,by omega,rfl,keeps_lt_one d,HH,Below.refl _ _,rfl⟩
  case round=>
   obtain⟨k,hk1,hk,rfl,HK,HW,bW,hws⟩:=hrel;have HWS:=hid hws;clear hws;by_cases hi:k<N
   ·obtain⟨m,hm⟩:∃m,k=m+1:=⟨k-1,by omega⟩;have HM:=hid hm;obtain⟨xe,hxe⟩:∃xe,d[k]! =xe:=⟨_,rfl⟩;obtain⟨ye,hye⟩:∃ye,d[m]! =ye:=⟨_,rfl⟩;have HX:=hid hxe;have HY:=hid hye;obtain⟨x1,x2,x3,x4,x5,x6,x7⟩:=xe;obtain⟨y1,y2,y3,y4,y5,y6,y7⟩:=ye;have hA:=HW.out k (by rw[HN.out];exact hi);have hB:=HW.out m (by rw[HN.out];omega);have e0:World.cell? wr ⟨g,k*7,none⟩=some (.string x1):=(by have:=(hA 0 (.string x1) (by rw[hxe];rfl)).1;rw[show k*7+0=k*7 by omega]at this;exact this);have e1:World.cell? wr ⟨g,k*7+1,none⟩=some (.int .i64 x2):=(by have:=(hA 1 (.int .i64 x2) (by rw[hxe];rfl)).1;rw[show k*7+1=k*7+1 by omega]at this;exact this);have e2:World.cell? wr ⟨g,k*7+2,none⟩=some (.int .i64 x3):=(by have:=(hA 2 (.int .i64 x3) (by rw[hxe];rfl)).1;rw[show k*7+2=k*7+2 by omega]at this;exact this);have e3:World.cell? wr ⟨g,k*7+3,none⟩=some (.string x4):=(by have:=(hA 3 (.string x4) (by rw[hxe];rfl)).1;rw[show k*7+3=k*7+3 by omega]at this;exact this);have e4:World.cell? wr ⟨g,k*7+4,none⟩=some (.string x5):=(by have:=(hA 4 (.string x5) (by rw[hxe];rfl)).1;rw[show k*7+4=k*7+4 by omega]at this;exact this);have e5:World.cell? wr ⟨g,k*7+5,none⟩=some (.int .i64 x6):=(by have:=(hA 5 (.int .i64 x6) (by rw[hxe];rfl)).1;rw[show k*7+5=k*7+5 by omega]at this;exact this);have e6:World.cell? wr ⟨g,k*7+6,none⟩=some (.int .i64 x7):=(by have:=(hA 6 (.int .i64 x7) (by rw[hxe];rfl)).1;rw[show k*7+6=k*7+6 by omega]at this;exact this);have f0:World.cell? wr ⟨g,m*7,none⟩=some (.string y1):=(by have:=(hB 0 (.string y1) (by rw[hye];rfl)).1;rw[show m*7+0=m*7 by omega]at this;exact this);have f1:World.cell? wr ⟨g,m*7+1,none⟩=some (.int .i64 y2):=(by have:=(hB 1 (.int .i64 y2) (by rw[hye];rfl)).1;rw[show m*7+1=m*7+1 by omega]at this;exact this);have f2:World.cell? wr ⟨g,m*7+2,none⟩=some (.int .i64 y3):=(by have:=(hB 2 (.int .i64 y3) (by rw[hye];rfl)).1;rw[show m*7+2=m*7+2 by omega]at this;exact this);have f3:World.cell? wr ⟨g,m*7+3,none⟩=some (.string y4):=(by have:=(hB 3 (.string y4) (by rw[hye];rfl)).1;rw[show m*7+3=m*7+3 by omega]at this;exact this);have f4:World.cell? wr ⟨g,m*7+4,none⟩=some (.string y5):=(by have:=(hB 4 (.string y5) (by rw[hye];rfl)).1;rw[show m*7+4=m*7+4 by omega]at this;exact this);have f5:World.cell? wr ⟨g,m*7+5,none⟩=some (.int .i64 y6):=(by have:=(hB 5 (.int .i64 y6) (by rw[hye];rfl)).1;rw[show m*7+5=m*7+5 by omega]at this;exact this);have f6:World.cell? wr ⟨g,m*7+6,none⟩=some (.int .i64 y7):=(by have:=(hB 6 (.int .i64 y7) (by rw[hye];rfl)).1;rw[show m*7+6=m*7+6 by omega]at this;exact this);have hi1:(0:Int)≤(k:Int):=by omega
    have hi2:(k:Int)<(N:Int):=by omega
    have hm1:(0:Int)≤(m:Int):=by omega
    have hm2:(m:Int)<(N:Int):=by omega
    have hw1:IntKind.i64.wrap ((k:Int)-1)=(m:Int):=(IntWalk.i64_in _ (by omega)).trans (by omega);have HL:=hid hi;have HK1:=hid hk1;clear hxe hye hA hB hm hi;have qe:=hid (fun w1=>eqDt_run x1 y1 x4 y4 x5 y5 x2 x3 x6 x7 y2 y3 y6 y7 w1);generalize hq:eqDt ⟨x1,x2,x3,x4,x5,x6,x7⟩ ⟨y1,y2,y3,y4,y5,y6,y7⟩=q at*;have HQ:=hid hq;clear hq;go_upto_region 6 with fail
    refine wp_region_held_drew (S:=(fun w':World=>w'.cell? ⟨g,k*7,none⟩=some (.string x1)∧w'.cell? ⟨g,k*7+1,none⟩=some (.int .i64 x2)∧w'.cell? ⟨g,k*7+2,none⟩=some (.int .i64 x3)∧w'.cell? ⟨g,k*7+3,none⟩=some (.string x4)∧w'.cell? ⟨g,k*7+4,none⟩=some (.string x5)∧w'.cell? ⟨g,k*7+5,none⟩=some (.int .i64 x6)∧w'.cell? ⟨g,k*7+6,none⟩=some (.int .i64 x7)∧w'.cell? ⟨g,m*7,none⟩=some (.string y1)∧w'.cell? ⟨g,m*7+1,none⟩=some (.int .i64 y2)∧w'.cell? ⟨g,m*7+2,none⟩=some (.int .i64 y3)∧w'.cell? ⟨g,m*7+3,none⟩=some (.string y4)∧w'.cell? ⟨g,m*7+4,none⟩=some (.string y5)∧w'.cell? ⟨g,m*7+5,none⟩=some (.int .i64 y6)∧w'.cell? ⟨g,m*7+6,none⟩=some (.int .i64 y7))) (by kernel_rfl) ?_ (fun hHeld=> ?_);focus exact⟨e0,e1,e2,e3,e4,e5,e6,f0,f1,f2,f3,f4,f5,f6⟩
    clear e0 e1 e2 e3 e4 e5 e6 f0 f1 f2 f3 f4 f5 f6;have HW:=hid HW.out.drew;have bW:=bW.drew;have qe:=qe.out;change wpAnyH _ _ _ _ _ 10 _ _ _;refine tk 0 (h:= ?_);refine tk 1 (h:= ?_);refine tk 2 (h:= ?_);refine tk 3 (h:= ?_);refine tk 4 (h:= ?_);refine tk 5 (h:= ?_);refine tk 6 (h:= ?_);refine tk 7 (h:= ?_);refine tk 8 (h:= ?_);refine tk 9 (h:= ?_);refine wpAnyH_done (by kernel_rfl) ?_ _;clear hHeld;cases q
    ·have HK2:=hid (show∀j,j<k+1→keeps d j=true from fun j hj=>by
      by_cases e:j=k
      ·subst e;refine keeps_pos (fun h=> ?_);have h3:d[j-1]! =d[m]! :=by rw[HM.out];rfl
       rw[h3,HX.out,HY.out]at h;rw[h,(eqDt_iff _ _).2 rfl]at HQ;exact absurd HQ.out (by simp)
      ·exact HK.out j (by omega))
     clear qe;go_wp2_with fail
     go_roundw
     case rel=>exact⟨k+1,Nat.le_add_left 1 k,HL.out,by go_num,HK2,HW,bW,by have:=HWS.out;simpa using this⟩
     case measure=>have:=HL.out;simp[RowKit.intOf];omega
    ·have HCI:=hid (show CompInv d (k+1) k d from CompInv.start HK.out (keeps_neg (by have:=HK1.out;omega) (by rw[show k-1=m by have:=HM.out;omega,HX.out,HY.out];exact(eqDt_iff _ _).1 HQ.out)));clear qe;obtain⟨n,hn⟩:∃n,N=k+n:=⟨N-k,by have:=HL.out;omega⟩;subst hn;obtain⟨cn,hcn⟩:∃cn,cap=k+cn:=⟨cap-k,by have:=HL.out;omega⟩;subst hcn;have hcn0:¬cn=0:=by have:=HL.out;omega
     have hn0:0<n:=by have:=HL.out;omega
     have hs1:k+n-k=n:=by omega
     have hs2:k+cn-k=cn:=by omega
     have hwz:=HWS.out;obtain⟨wo,hwo⟩:∃wo,wo=wr:=⟨_,rfl⟩;rw[←hwo]at HW bW hwz ⊢;clear hwo;go_upto_region 9 with fail
     go_loopw [3,5] (fun s3 s5 wx=>∃(kk k2:Nat) (dk:Array Dt),s3=.int .i64 kk∧s5=.int .i64 k2∧1≤k2∧k2≤n∧Hid (CompInv d (k+k2) kk dk)∧Hid (HoldD wx g dk)∧Below base w wx∧Hid (w.heap.size=wx.heap.size)) (fun _ i _=>n-(RowKit.intOf i).toNat)
     case atStart=>exact⟨k,1,d,rfl,rfl,Nat.le_refl _,hn0,HCI,HW,bW,by unfold Hid;simpa using hwz⟩
     case round=>
      clear bW HW HWS hwz HCI;obtain⟨kk,k2,dk,rfl,rfl,hk1,hk2,HCI,HW,bW,HWS⟩:=hrel;by_cases hi:k2<n
      ·obtain⟨m2,hm⟩:∃m2,k2=m2+1:=⟨k2-1,by omega⟩;have HM2:=hid hm;have hlt:=HCI.out.lt;have hsz2:=HCI.out.size;obtain⟨xe,hxe⟩:∃xe,d[k+k2]! =xe:=⟨_,rfl⟩;obtain⟨ye,hye⟩:∃ye,d[k+m2]! =ye:=⟨_,rfl⟩;have HX2:=hid hxe;have HY2:=hid hye;have hxd:=(HCI.out.high (k+k2) (by omega)).trans hxe;have hyd:=(HCI.out.high (k+m2) (by omega)).trans hye;obtain⟨p1,p2,p3,p4,p5,p6,p7⟩:=xe;obtain⟨q1,q2,q3,q4,q5,q6,q7⟩:=ye;have hA:=HW.out (k+k2) (by rw[hsz2,HN.out];omega);have hB:=HW.out (k+m2) (by rw[hsz2,HN.out];omega);have e0:World.cell? wr ⟨g,k*7+k2*7,none⟩=some (.string p1):=(by have:=(hA 0 (.string p1) (by rw[hxd];rfl)).1;rw[show(k+k2)*7+0=k*7+k2*7 by omega]at this;exact this);have e1:World.cell? wr ⟨g,k*7+k2*7+1,none⟩=some (.int .i64 p2):=(by have:=(hA 1 (.int .i64 p2) (by rw[hxd];rfl)).1;rw[show(k+k2)*7+1=k*7+k2*7+1 by omega]at this;exact this);have e2:World.cell? wr ⟨g,k*7+k2*7+2,none⟩=some (.int .i64 p3):=(by have:=(hA 2 (.int .i64 p3) (by rw[hxd];rfl)).1;rw[show(k+k2)*7+2=k*7+k2*7+2 by omega]at this;exact this);have e3:World.cell? wr ⟨g,k*7+k2*7+3,none⟩=some (.string p4):=(by have:=(hA 3 (.string p4) (by rw[hxd];rfl)).1;rw[show(k+k2)*7+3=k*7+k2*7+3 by omega]at this;exact this);have e4:World.cell? wr ⟨g,k*7+k2*7+4,none⟩=some (.string p5):=(by have:=(hA 4 (.string p5) (by rw[hxd];rfl)).1;rw[show(k+k2)*7+4=k*7+k2*7+4 by omega]at this;exact this);have e5:World.cell? wr ⟨g,k*7+k2*7+5,none⟩=some (.int .i64 p6):=(by have:=(hA 5 (.int .i64 p6) (by rw[hxd];rfl)).1;rw[show(k+k2)*7+5=k*7+k2*7+5 by omega]at this;exact this);have e6:World.cell? wr ⟨g,k*7+k2*7+6,none⟩=some (.int .i64 p7):=(by have:=(hA 6 (.int .i64 p7) (by rw[hxd];rfl)).1;rw[show(k+k2)*7+6=k*7+k2*7+6 by omega]at this;exact this);have f0:World.cell? wr ⟨g,k*7+m2*7,none⟩=some (.string q1):=(by have:=(hB 0 (.string q1) (by rw[hyd];rfl)).1;rw[show(k+m2)*7+0=k*7+m2*7 by omega]at this;exact this);have f1:World.cell? wr ⟨g,k*7+m2*7+1,none⟩=some (.int .i64 q2):=(by have:=(hB 1 (.int .i64 q2) (by rw[hyd];rfl)).1;rw[show(k+m2)*7+1=k*7+m2*7+1 by omega]at this;exact this);have f2:World.cell? wr ⟨g,k*7+m2*7+2,none⟩=some (.int .i64 q3):=(by have:=(hB 2 (.int .i64 q3) (by rw[hyd];rfl)).1;rw[show(k+m2)*7+2=k*7+m2*7+2 by omega]at this;exact this);have f3:World.cell? wr ⟨g,k*7+m2*7+3,none⟩=some (.string q4):=(by have:=(hB 3 (.string q4) (by rw[hyd];rfl)).1;rw[show(k+m2)*7+3=k*7+m2*7+3 by omega]at this;exact this);have f4:World.cell? wr ⟨g,k*7+m2*7+4,none⟩=some (.string q5):=(by have:=(hB 4 (.string q5) (by rw[hyd];rfl)).1;rw[show(k+m2)*7+4=k*7+m2*7+4 by omega]at this;exact this);have f5:World.cell? wr ⟨g,k*7+m2*7+5,none⟩=some (.int .i64 q6):=(by have:=(hB 5 (.int .i64 q6) (by rw[hyd];rfl)).1;rw[show(k+m2)*7+5=k*7+m2*7+5 by omega]at this;exact this);have f6:World.cell? wr ⟨g,k*7+m2*7+6,none⟩=some (.int .i64 q7):=(by have:=(hB 6 (.int .i64 q7) (by rw[hyd];rfl)).1;rw[show(k+m2)*7+6=k*7+m2*7+6 by omega]at this;exact this);have hi1:(0:Int)≤(k2:Int):=by omega
       have hi2:(k2:Int)<(n:Int):=by omega
       have hm1:(0:Int)≤(m2:Int):=by omega
       have hm2:(m2:Int)<(n:Int):=by omega
       have hw1:IntKind.i64.wrap ((k2:Int)-1)=(m2:Int):=(IntWalk.i64_in _ (by omega)).trans (by omega);have hkk1:(0:Int)≤(kk:Int):=by omega
       have hkk2:(kk:Int)<((k+n:Nat):Int):=by omega
       have hkk3:(kk:Int)<(k:Int)+(n:Int):=by omega
       have hkk4:kk<k+n:=by omega
       have HL2:=hid hi;have HKK:=hid (show kk<dk.size by rw[hsz2,HN.out];omega);clear hxe hye hA hB hm hi hxd hyd hsz2;have qe:=hid (fun w1=>neDt_run p1 q1 p4 q4 p5 q5 p2 p3 p6 p7 q2 q3 q6 q7 w1);generalize hq:eqDt ⟨p1,p2,p3,p4,p5,p6,p7⟩ ⟨q1,q2,q3,q4,q5,q6,q7⟩=q at*;have HQ2:=hid hq;clear hq;go_upto_region 11 with fail
       refine wp_region_held_drew (S:=(fun w':World=>w'.cell? ⟨g,k*7+k2*7,none⟩=some (.string p1)∧w'.cell? ⟨g,k*7+k2*7+1,none⟩=some (.int .i64 p2)∧w'.cell? ⟨g,k*7+k2*7+2,none⟩=some (.int .i64 p3)∧w'.cell? ⟨g,k*7+k2*7+3,none⟩=some (.string p4)∧w'.cell? ⟨g,k*7+k2*7+4,none⟩=some (.string p5)∧w'.cell? ⟨g,k*7+k2*7+5,none⟩=some (.int .i64 p6)∧w'.cell? ⟨g,k*7+k2*7+6,none⟩=some (.int .i64 p7)∧w'.cell? ⟨g,k*7+m2*7,none⟩=some (.string q1)∧w'.cell? ⟨g,k*7+m2*7+1,none⟩=some (.int .i64 q2)∧w'.cell? ⟨g,k*7+m2*7+2,none⟩=some (.int .i64 q3)∧w'.cell? ⟨g,k*7+m2*7+3,none⟩=some (.string q4)∧w'.cell? ⟨g,k*7+m2*7+4,none⟩=some (.string q5)∧w'.cell? ⟨g,k*7+m2*7+5,none⟩=some (.int .i64 q6)∧w'.cell? ⟨g,k*7+m2*7+6,none⟩=some (.int .i64 q7))) (by kernel_rfl) ?_ (fun hHeld=> ?_);focus exact⟨e0,e1,e2,e3,e4,e5,e6,f0,f1,f2,f3,f4,f5,f6⟩
       have HW:=hid HW.out.drew;have bW:=bW.drew;have qe:=qe.out;have E0:=hid (show(fun w':World=>w'.cell? ⟨g,k*7+k2*7,none⟩=some (.string p1)∧w'.cell? ⟨g,k*7+k2*7+1,none⟩=some (.int .i64 p2)∧w'.cell? ⟨g,k*7+k2*7+2,none⟩=some (.int .i64 p3)∧w'.cell? ⟨g,k*7+k2*7+3,none⟩=some (.string p4)∧w'.cell? ⟨g,k*7+k2*7+4,none⟩=some (.string p5)∧w'.cell? ⟨g,k*7+k2*7+5,none⟩=some (.int .i64 p6)∧w'.cell? ⟨g,k*7+k2*7+6,none⟩=some (.int .i64 p7)∧w'.cell? ⟨g,k*7+m2*7,none⟩=some (.string q1)∧w'.cell? ⟨g,k*7+m2*7+1,none⟩=some (.int .i64 q2)∧w'.cell? ⟨g,k*7+m2*7+2,none⟩=some (.int .i64 q3)∧w'.cell? ⟨g,k*7+m2*7+3,none⟩=some (.string q4)∧w'.cell? ⟨g,k*7+m2*7+4,none⟩=some (.string q5)∧w'.cell? ⟨g,k*7+m2*7+5,none⟩=some (.int .i64 q6)∧w'.cell? ⟨g,k*7+m2*7+6,none⟩=some (.int .i64 q7)) wr.drew from⟨e0,e1,e2,e3,e4,e5,e6,f0,f1,f2,f3,f4,f5,f6⟩);clear e0 e1 e2 e3 e4 e5 e6 f0 f1 f2 f3 f4 f5 f6;change wpAnyH _ _ _ _ _ 10 _ _ _;refine tk 0 (h:= ?_);refine tk 1 (h:= ?_);refine tk 2 (h:= ?_);refine tk 3 (h:= ?_);refine tk 4 (h:= ?_);refine tk 5 (h:= ?_);refine tk 6 (h:= ?_);refine tk 7 (h:= ?_);refine tk 8 (h:= ?_);refine tk 9 (h:= ?_);refine wpAnyH_done (by kernel_rfl) ?_ _;clear hHeld;cases q
       ·have HCI2:=hid (show CompInv d (k+(k2+1)) (kk+1) (dk.setIfInBounds kk ⟨p1,p2,p3,p4,p5,p6,p7⟩)from by
         have:=HCI.out.keep (by rw[HN.out];have:=HL2.out;omega) (keeps_pos (fun h=>by
          rw[HX2.out,show k+k2-1=k+m2 by have:=HM2.out;omega,HY2.out]at h;rw[h,(eqDt_iff _ _).2 rfl]at HQ2;exact absurd HQ2.out (by simp)))
         rw[HX2.out]at this;exact this)
        clear qe;obtain⟨e0,e1,e2,e3,e4,e5,e6,f0,f1,f2,f3,f4,f5,f6⟩:=E0.out;go_wp2_with(first|(refine wpList_dtStore rfl (ty:=61) (x:=.tmp 51) (y:=.tmp 50) rfl (i:=kk) ⟨p1,p2,p3,p4,p5,p6,p7⟩ rfl rfl (by kernel_rfl) HW.out HKK.out ?_;intro wz HWz hbz hsz3;have HW2:=hid HWz;have bW2:=hbz _ _ hb bW;have HSZ:=hid hsz3;clear HWz hbz hsz3 e0 e1 e2 e3 e4 e5 e6 f0 f1 f2 f3 f4 f5 f6))
        go_roundw
        case rel=>
         have h5:Hid (w.heap.size=wz.heap.size):=by have:=HWS.out;have h4:=HSZ.out;unfold Hid;rw[h4];simpa using this
         first|exact⟨kk+1,by go_num,k2+1,by go_num,Nat.le_add_left 1 k2,HL2.out,_,HCI2,HW2,h5⟩|exact⟨kk+1,by omega,k2+1,by omega,Nat.le_add_left 1 k2,HL2.out,_,HCI2,HW2,h5⟩|exact⟨kk+1,by omega,k2+1,by omega,Nat.le_add_left 1 k2,HL2.out,_,HCI2,HW2,bW2,h5⟩
        case measure=>have:=HL2.out;simp[RowKit.intOf];omega
       ·have HCI2:=hid (show CompInv d (k+(k2+1)) kk dk from HCI.out.skip (keeps_neg (by have:=HM2.out;omega) (by rw[HX2.out,show k+k2-1=k+m2 by have:=HM2.out;omega,HY2.out];exact(eqDt_iff _ _).1 HQ2.out)));clear qe;go_wp2_with fail
        go_roundw
        case rel=>exact⟨kk,k2+1,dk,rfl,by go_num,Nat.le_add_left 1 k2,HL2.out,HCI2,HW,bW,by unfold Hid;have:=HWS.out;simpa using this⟩
        case measure=>have:=HL2.out;simp[RowKit.intOf];omega
      ·obtain rfl:k2=n:=by omega
       have hlt:=HCI.out.lt;have hsz2:=HCI.out.size;have hlen:=HCI.out.len;obtain⟨r,hr⟩:∃r,k+k2=kk+r:=⟨k+k2-kk,by omega⟩;obtain⟨rc,hrc⟩:∃rc,k+cn=kk+rc:=⟨k+cn-kk,by omega⟩;have hs3:kk+r-kk=r:=by omega
       have hs4:kk+rc-kk=rc:=by omega
       have hr0:0<r:=by omega
       have hrc0:¬rc=0:=by omega
       have hraw:∀j,j<r*7→(World.cell? wr ⟨g,kk*7+j,none⟩).isSome=true∧World.frozen? wr ⟨g,kk*7+j,none⟩=false:=fun j hj=>HW.out.raw (t:=kk*7+j) (by rw[hsz2,HN.out];omega);have hzl:=zc_len r;have hcl:∀ty,(Builtin.clear_ #[47] ty #[.slice (some ⟨g,kk*7,none⟩) r rc]).run Tryz.prog wr=.ok (.tuple #[]) (wr.setCells g (kk*7) (Builtin.zeroCells #[.string ⟨#[]⟩,.int .i64 0,.int .i64 0,.string ⟨#[]⟩,.string ⟨#[]⟩,.int .i64 0,.int .i64 0] r).toList):=
        fun ty=>run_clear_many wr 47 61 ty (.agg #[.string ⟨#[]⟩,.int .i64 0,.int .i64 0,.string ⟨#[]⟩,.string ⟨#[]⟩,.int .i64 0,.int .i64 0]) Tryz.underlying47 Tryz.zeroValue61 g (kk*7) r rc hr0 (fun v hv=>zc_one hv) (fun j hj=>(hraw j (hzl▸hj)).1) (fun j hj=>(hraw j (hzl▸hj)).2)
       obtain⟨Z,hZ⟩:∃Z,(Builtin.zeroCells #[.string ⟨#[]⟩,.int .i64 0,.int .i64 0,.string ⟨#[]⟩,.string ⟨#[]⟩,.int .i64 0,.int .i64 0] r).toList=Z:=⟨_,rfl⟩;rw[hZ]at hcl;obtain⟨wz,hwz⟩:∃wz,wr.setCells g (kk*7) Z=wz:=⟨_,rfl⟩;rw[hwz]at hcl;have bZ:Below base w wz:=by rw[←hwz];exact Below_setCells bW hb _ _
       have R1:=hid hlen;have R2:=hid (show Rd encDt 7 wz wz.heap.size (some ⟨g,0,none⟩) (compactUpTo d (k+k2))from
        HW.out.rd (by rw[hlen,hsz2,HN.out];omega) (fun j hj=>HCI.out.low j (by rw[←hlen];exact hj)) (by rw[←hwz,setCells_size,←HWS.out];exact HG.out) (fun t ht=>by
         rw[←hwz];exact World.cell?_setCells_out g Z (kk*7) wr ⟨g,t,none⟩ (fun _ _=>by show t<kk*7∨_;rw[hlen]at ht;exact .inl ht)))
       have i1:(0:Int)≤(kk:Int):=by omega
       have i2:¬(k2:Int)<(k2:Int):=by omega
       have i3:(kk:Int)≤(kk:Int)+(r:Int):=by omega
       rw[hr]at R1 R2;clear hlen hsz2 hraw hzl hZ hwz HCI HW HTL HALL HN HL hk2 hi bW HWS;go_wp2_with fail
       go_ret;exact⟨by rw[R1.out];rfl,R2.out,bZ⟩
   ·obtain rfl:k=N:=by omega
    have R:=hid (HALL.out HK.out);have hi2:¬(k:Int)<(k:Int):=by omega
    go_wp2_with fail
    go_ret;exact⟨by rw[R.out,Array.length_toList,HN.out];rfl,by rw[R.out];exact HTL.out _ HW.out (by rw[←HWS.out];exact HG.out),bW⟩
end
end Go.Proofs.YtimffppffbideaaGreatDoor
