import Derived.Test.YtimffppffbideaaGreatDoorSnMat
import Derived.Deep.CutBlock
set_option linter.unusedSimpArgs false
set_option linter.unusedVariables false
set_option maxRecDepth 100000
set_option maxHeartbeats 8000000
namespace Go.Proofs.YtimffppffbideaaGreatDoor
section
open Go.RowKit Go.Lib
open Mat
theorem c_range {m:Mat.M}{lo hi:Int}(h0:lo≤0)(h1:0≤hi)(h:∀r∈m.cost,∀c∈r,lo≤c∧c≤hi)(i j:Nat):lo≤m.c i j∧m.c i j≤hi:=by
 unfold Mat.M.c;rw[List.getD_eq_getElem?_getD (l:=m.cost)];cases hr:m.cost[i]? with
 |none=>exact⟨by simpa using h0,by simpa using h1⟩
 |some r=>
  show lo≤r.getD j 0∧r.getD j 0≤hi
  rw[List.getD_eq_getElem?_getD];cases hc:r[j]? with
  |none=>exact⟨by simpa using h0,by simpa using h1⟩
  |some c=>exact h r (List.mem_of_getElem? hr) c (List.mem_of_getElem? hc)
theorem rep_mem {n:Nat}{v c:Int}(h:c∈List.replicate n v):c=v:=(List.mem_replicate.1 h).2
theorem matV_sz {ts ps:List (List Sn)}(ht:ts.length≤8)(hp:ps.length≤8)(oT:∀g∈ts,∀x∈g,SnOk x)(oP:∀g∈ps,∀x∈g,SnOk x):Sz (matV ts ps):=by
 have hc:∀r∈(matV ts ps).cost,∀c∈r,-1≤c∧c≤450:=by
  intro r hr c hcr;unfold matV at hr;obtain⟨a,ha,rfl⟩:=List.mem_map.1 hr;obtain⟨b,hb,rfl⟩:=List.mem_map.1 hcr;have:=leastV_rng (oT a ha) (oP b hb)
  omega
 refine⟨?_,?_,?_,?_,⟨?_,?_,fun i j=>(c_range (by omega) (by omega) hc i j).2⟩,fun i j=>(c_range (by omega) (by omega) hc i j).1⟩
 ·unfold matV Mat.M.n;rw[List.length_replicate];exact ht
 ·unfold matV;rw[List.length_replicate];exact hp
 ·unfold matV Mat.M.n;rw[List.length_map,List.length_replicate]
 ·intro r hr;unfold matV at hr ⊢;obtain⟨a,ha,rfl⟩:=List.mem_map.1 hr;rw[List.length_map,List.length_replicate]
 ·intro c h;unfold matV at h;rw[rep_mem h];omega
 ·intro c h;unfold matV at h;rw[rep_mem h];omega
theorem loopsV_sz {vs:List (ByteArray×Int×Int)}{ls:List Sn}(ht:vs.length≤8)(hp:ls.length≤8)(oV:∀v∈vs,0≤v.2.1∧v.2.1≤1000000000000)(oL:∀x∈ls,SnOk x):Sz (loopsV vs ls):=by
 have hc:∀r∈(loopsV vs ls).cost,∀c∈r,-1≤c∧c≤450:=by
  intro r hr c hcr;unfold loopsV at hr;obtain⟨a,ha,rfl⟩:=List.mem_map.1 hr;obtain⟨b,hb,rfl⟩:=List.mem_map.1 hcr;have:=axlV_rng (t:=a.2.1) (pt:=a.1) (lane:=a.2.2) (s:=b)
  omega
 refine⟨?_,?_,?_,?_,⟨?_,?_,fun i j=>(c_range (by omega) (by omega) hc i j).2⟩,fun i j=>(c_range (by omega) (by omega) hc i j).1⟩
 ·unfold loopsV Mat.M.n;rw[List.length_replicate];exact ht
 ·unfold loopsV;rw[List.length_replicate];exact hp
 ·unfold loopsV Mat.M.n;rw[List.length_map,List.length_replicate]
 ·intro r hr;unfold loopsV at hr ⊢;obtain⟨a,ha,rfl⟩:=List.mem_map.1 hr;rw[List.length_map,List.length_replicate]
 ·intro c h;unfold loopsV at h;rw[rep_mem h];omega
 ·intro c h;unfold loopsV at h;rw[rep_mem h];omega
end
section
open Go.RowKit Go.Lib
open Mat
def LeR (s:Sec):Prop:= -1≤s.least∧s.least≤100000
theorem secStep_rng {m:Mat.M}(hz:Sz m)(b:List Int)(i:Nat){s:Sec}(h:LeR s)(j:Int):LeR (secStep m b i s j):=by
 unfold secStep;split
 ·exact h
 ·split
  ·have:=tab_rng (by omega) hz.b (fixAt m.n b i j) m.n 0
   have h1:=hz.n;have h2:=hz.k;refine⟨this.1,?_⟩;show tab m (fixAt m.n b i j) m.n 0≤100000
   omega
  ·exact h
theorem foldl_keep {α β:Type}{P:β→Prop}{f:β→α→β}(h:∀s x,P s→P (f s x)):∀(l:List α) (s:β),P s→P (l.foldl f s):=by
 intro l;induction l with
 |nil=>intro s hs;exact hs
 |cons x l ih=>intro s hs;exact ih _ (h s x hs)
theorem second_rng {m:Mat.M}(hz:Sz m):LeR (second m):=by
 unfold second;refine foldl_keep (P:=LeR) (fun s i hs=> ?_) _ _ ⟨by decide,by decide⟩;unfold secRow;exact foldl_keep (P:=LeR) (fun s j hs=>secStep_rng hz _ _ hs j) _ _ hs
theorem costM_rng {m:Mat.M}(hz:Sz m): -1≤costM m∧costM m≤100000:=by
 have:=tab_rng (by omega) hz.b (free m) m.n 0
 have h1:=hz.n;have h2:=hz.k;unfold costM;omega
theorem marginV_rng {m:Mat.M}(hz:Sz m): -1000000≤marginV m∧marginV m≤1000000:=by
 have h1:=second_rng hz;have h2:=costM_rng hz;have h3:LeR (second m):=h1;unfold LeR at h3;unfold marginV;split<;>omega
theorem c_rng {m:Mat.M}(hz:Sz m)(i j:Nat): -1≤m.c i j∧m.c i j≤450:=⟨hz.lo i j,hz.b.cost i j⟩
theorem conf2_any (b m:Int)(hb: -10000≤b∧b≤1000000000000)(hm: -1000000≤m∧m≤1000000)(w:World):Calls Tryz.prog 129 #[.int .i64 b,.int .i64 m] w fun e w'=>e=.returned (.int .i64 (confV b m))∧w'=w:=by
 by_cases h:m= -1
 ·subst h;have R:=hid (show confV b (-1)=min (max (2600-b) 0) 1000 by unfold confV;rw[if_pos rfl];rfl);have w2:IntKind.i64.wrap (2600-b)=2600-b:=IntWalk.i64_in _ (by omega);clear hb hm;go_enter Tryz.func129,Tryz.ntmps129;go_wp2;go_ret;exact⟨by rw[R.out];rfl,rfl⟩
 ·have h2:(m== -1)=false:=by simp[h]
  have R:=hid (show confV b m=min (max (600+2*m-b) 0) 1000 by unfold confV;rw[if_neg h]);have w0:IntKind.i64.wrap (2*m)=2*m:=IntWalk.i64_in _ (by omega);have w1:IntKind.i64.wrap (600+2*m)=600+2*m:=IntWalk.i64_in _ (by omega);have w2:IntKind.i64.wrap (600+2*m-b)=600+2*m-b:=IntWalk.i64_in _ (by omega);clear hb hm h;go_enter Tryz.func129,Tryz.ntmps129;go_wp2;go_ret;exact⟨by rw[R.out];rfl,rfl⟩
end
section
open Go.RowKit Go.Lib
open Mat
def rowN (j:Nat):List Int:=(List.range j).map Int.ofNat
theorem rowN_succ (j:Nat):rowN (j+1)=rowN j++[(j:Int)]:=by unfold rowN;rw[List.range_succ,List.map_append];rfl
theorem rowN_len (j:Nat):(rowN j).length=j:=by simp[rowN]
theorem choices_any {lA:Option Addr}(lc:Nat){k tb:Nat}(hk:k≤8){w:World}(hlt:tb<w.heap.size)(c2:w.cell? ⟨tb,2,none⟩=some (.slice lA k lc)):
  Calls Tryz.prog 157 #[.pointer (some ⟨tb,0,none⟩)] w fun e w'=>∃A c,e=.returned (.slice A (k+1) c)∧Own 3 encI 1 w' w.heap.size A c (choices k)∧Below w.heap.size w w':=by
 go_enter Tryz.func157,Tryz.ntmps157;go_wp2_with fail
 have hbs:w.heap.size≤w.heap.size:=Nat.le_refl _;clear hbs;go_loopw [3,11] (fun s3 sj wx=>∃(j:Nat) (A:Option Addr) (c:Nat) (l:List Int),j≤k∧sj=.int .i64 j∧s3=.slice A l.length c∧Hid (l=rowN j)∧Hid (Own 3 encI 1 wx w.heap.size A c l)∧Hid (Below w.heap.size w wx)∧Hid (w.heap.size≤wx.heap.size)) (fun _ sj _=>k-(RowKit.intOf sj).toNat)
 case atStart=>exact⟨0,none,0,[],Nat.zero_le _,rfl,rfl,rfl,Own.nil _ _,Below.refl _ _,Nat.le_refl _⟩
 case round=>
  obtain⟨j,A,c,l,hj,rfl,rfl,HL,HO,HB,HS⟩:=hrel;have hll:l.length=j:=by rw[HL.out,rowN_len]
  have hl8:l.length≤8:=by omega
  have HLL:=hid hll;clear hll;have hbs:=HS.out;by_cases hi:j<k
  ·have i2:(j:Int)<(k:Int):=by omega
   have HI:=hid hi;clear hi hj;go_wp2_with((at_builtin;refine wpList_app1b rfl (.tmp 14) (.tmp 16) tyI encI_ok rfl (j:Int) rfl _ rfl (by simp) HO.out rfl (by first|rfl|assumption|simp) (by first|omega|(simp;omega)) (by first|omega|(simp;omega)) hbs ?_;intro A4 c4 w4 hown4 hb4 hs4 hf4;have hbel4:=(HB.out).trans hb4))
   have HO4:=hid hown4;have HB4:=hid hbel4;have HS4:=hid (Nat.le_of_lt (Nat.lt_of_le_of_lt HS.out hs4));clear hown4 hbel4 hb4 hs4 hf4;go_roundw
   case rel=>exact⟨j+1,A4,c4,l++[(j:Int)],HI.out,by go_num,by simp,hid (by rw[rowN_succ,HL.out]),HO4,HB4,HS4⟩
   case measure=>have:=HI.out;simp[RowKit.intOf];omega
  ·obtain rfl:j=k:=by omega
   clear hi hj;go_wp2_with((at_builtin;refine wpList_app1b rfl (.tmp 19) (.tmp 20) tyI encI_ok rfl (-1:Int) rfl _ rfl (by simp) HO.out rfl (by first|rfl|assumption|simp) (by first|omega|(simp;omega)) (by first|omega|(simp;omega)) hbs ?_;intro A4 c4 w4 hown4 hb4 hs4 hf4;have hbel4:=(HB.out).trans hb4))
   have HO4:=hid hown4;have HB4:=hid hbel4;clear hown4 hbel4 hb4 hs4 hf4;go_ret;refine⟨A4,c4,by rw[HLL.out];rfl,?_,HB4.out⟩;have:=HO4.out
   rw[HL.out]at this;exact this
section
variable {m:Mat.M}{fixed:List Int}{w:World}{tb cc rc lc fc:Nat}{cA rA lA fA:Option Addr}{gs:List (Gp Int)}
theorem mallowed_any (hz:Sz m)(hf:Fx m fixed)(hS:TS m fixed w tb cA cc gs rA rc lA lc fA fc){i mask:Nat}{j:Int}(hi:i<m.n)(hj: -1≤j)(hjk:j<m.col.length)(hm:mask<2^m.col.length):
  Calls Tryz.prog 158 #[.pointer (some ⟨tb,0,none⟩),.int .i64 i,.int .i64 j,.int .i64 mask] w fun e w'=>e=.returned (.bool (allowed m fixed i j mask))∧Below w.heap.size w w':=by
 have hk8:=hz.k;have hn8:=hz.n;have hm9:mask<1000:=by have:=pow_le8 hk8;omega
 have hfi:i<fixed.length:=by rw[hf];exact hi
 obtain⟨fb,fo,x,rfl,_,hx,cf⟩:=hS.fix.i hfi;have hx2:fixed.getD i 0=x:=by rw[List.getD_eq_getElem?_getD,hx];rfl
 have c3:=hS.c3;have c0:=hS.c0;have i1:(0:Int)≤(i:Int):=by omega
 have i2:(i:Int)<(fixed.length:Int):=by omega
 have i3:decide (i<fixed.length)=true:=decide_eq_true hfi;have R:=hid (show allowed m fixed i j mask=((x== -2||x==j)&&(decide (j<0)||(!mask.testBit j.toNat&&decide (0≤m.c i j.toNat)))) by unfold allowed;rw[hx2]);by_cases h0:j<0
 ·have hj1:j= -1:=by omega
  subst hj1;generalize allowed m fixed i (-1) mask=r at*;clear hS hz hf hx hx2 hm9 hm hk8 hn8 hfi hi hj h0;by_cases e1:x= -2
  ·subst e1;go_enter Tryz.func158,Tryz.ntmps158;go_wp2_with fail
   go_ret;exact⟨by rw[R.out];rfl,Below.refl _ _⟩
  ·by_cases e2:x= -1
   ·subst e2;go_enter Tryz.func158,Tryz.ntmps158;go_wp2_with fail
    go_ret;exact⟨by rw[R.out];rfl,Below.refl _ _⟩
   ·have b1:(x== -2)=false:=by simpa using e1
    have b2:(x== -1)=false:=by simpa using e2
    have b3:(x != -2)=true:=by simpa using e1
    have b4:(x != -1)=true:=by simpa using e2
    go_enter Tryz.func158,Tryz.ntmps158;go_wp2_with fail
    go_ret;exact⟨by rw[R.out,b1,b2];rfl,Below.refl _ _⟩
 ·obtain⟨jn,rfl⟩:∃jn:Nat,j=(jn:Int):=⟨j.toNat,by omega⟩;have hjn:jn<m.col.length:=by omega
  obtain⟨b,off,g,q,qo,rfl,d0,d1⟩:=hS.costAt hz hi hjn;have hgl:=hS.glen hz;rw[hgl]at c0;have hbit:=bit_at mask jn hm9;have j1:(0:Int)≤(jn:Int):=by omega
  have j2:(jn:Int)<(m.col.length:Int):=by omega
  have j3:(jn:Int)≤64:=by omega
  have j4:decide (jn<m.col.length)=true:=decide_eq_true hjn;have k2:(i:Int)<(m.n:Int):=by omega
  have k3:decide (i<m.n)=true:=decide_eq_true hi;rw[show(decide ((jn:Int)<0))=false from decide_eq_false h0,Bool.false_or,Int.toNat_natCast]at R;have hb01:bitN mask jn=1∧mask.testBit jn=true∨bitN mask jn=0∧mask.testBit jn=false:=by
   unfold bitN;cases mask.testBit jn
   ·exact .inr ⟨rfl,rfl⟩
   ·exact .inl ⟨rfl,rfl⟩
  generalize allowed m fixed i (jn:Int) mask=r at*;generalize bitN mask jn=bt at*;generalize m.c i jn=cv at*;generalize mask.testBit jn=tv at*;generalize m.n=mn at*;generalize m.col.length=mk at*;clear hS hz hf hx hx2 hm9 hm hk8 hn8 hfi hi hj h0 hgl hjk hjn;have b1:(x== -2||x==(jn:Int))=true∨(x== -2||x==(jn:Int))=false:=by cases(x== -2||x==(jn:Int))<;>simp
  rcases b1 with b1|b1
  ·rw[b1,Bool.true_and]at R;have HX:=hid b1;clear b1;have hcase:(x != -2)=false∨((x != -2)=true∧(x !=(jn:Int))=false):=by
    have:=HX.out
    simp only[Bool.or_eq_true,beq_iff_eq]at this;by_cases e:x= -2
    ·exact .inl (by simp[e])
    ·exact .inr ⟨by simp[e],by rcases this with q|q;exact absurd q e;simp[q]⟩
   rcases hb01 with⟨rfl,rfl⟩|⟨rfl,rfl⟩
   ·rcases hcase with e1|⟨e1,e2⟩
    ·go_enter Tryz.func158,Tryz.ntmps158;go_wp2_with fail
     go_ret;exact⟨by rw[R.out];rfl,Below.refl _ _⟩
    ·go_enter Tryz.func158,Tryz.ntmps158;go_wp2_with fail
     go_ret;exact⟨by rw[R.out];rfl,Below.refl _ _⟩
   ·rcases hcase with e1|⟨e1,e2⟩
    ·go_enter Tryz.func158,Tryz.ntmps158;go_wp2_with fail
     go_ret;exact⟨by rw[R.out];rfl,Below.refl _ _⟩
    ·go_enter Tryz.func158,Tryz.ntmps158;go_wp2_with fail
     go_ret;exact⟨by rw[R.out];rfl,Below.refl _ _⟩
  ·rw[b1,Bool.false_and]at R;have e1:(x != -2)=true:=by simp only[Bool.or_eq_false_iff,beq_eq_false_iff_ne]at b1;simpa using b1.1
   have e2:(x !=(jn:Int))=true:=by simp only[Bool.or_eq_false_iff,beq_eq_false_iff_ne]at b1;simpa using b1.2
   clear b1 hb01;go_enter Tryz.func158,Tryz.ntmps158;go_wp2_with fail
   go_ret;exact⟨by rw[R.out];rfl,Below.refl _ _⟩
theorem step_any (hz:Sz m)(hS:TS m fixed w tb cA cc gs rA rc lA lc fA fc){i mask:Nat}{j:Int}(hi:i<m.n)(hj: -1≤j)(hjk:j<m.col.length)(hm:mask<2^m.col.length):
  Calls Tryz.prog 159 #[.pointer (some ⟨tb,0,none⟩),.int .i64 i,.int .i64 j,.int .i64 mask] w fun e w'=>e=.returned (.tuple #[.int .i64 (stepC m i j),.int .i64 (stepM j mask:Nat)])∧Below w.heap.size w w':=by
 have hk8:=hz.k;have hn8:=hz.n;have hm9:mask<1000:=by have:=pow_le8 hk8;omega
 by_cases h0:j<0
 ·have hj1:j= -1:=by omega
  subst hj1;obtain⟨fb,fo,x,rfl,_,hx,cf⟩:=hS.row.i (i:=i) hi;have hx2:stepC m i (-1)=x:=by unfold stepC;rw[if_pos (by omega),List.getD_eq_getElem?_getD,hx];rfl
  have c1:=hS.c1;have i1:(0:Int)≤(i:Int):=by omega
  have i2:(i:Int)<(m.row.length:Int):=by unfold Mat.M.n at hi;omega
  have i3:decide (i<m.row.length)=true:=decide_eq_true hi;have hs2:stepM (-1) mask=mask:=rfl;rw[hx2,hs2];clear hS hz hx hx2 hs2 hk8 hn8 hm9 hm hi hj hjk h0;go_enter Tryz.func159,Tryz.ntmps159;go_wp2_with fail
  go_ret2;exact⟨rfl,Below.refl _ _⟩
 ·obtain⟨jn,rfl⟩:∃jn:Nat,j=(jn:Int):=⟨j.toNat,by omega⟩;have hjn:jn<m.col.length:=by omega
  obtain⟨b,off,g,q,qo,rfl,d0,d1⟩:=hS.costAt hz hi hjn;have c0:=hS.c0;have hgl:=hS.glen hz;rw[hgl]at c0;have hor:=or_at mask jn hm9 (by omega);have hp1:(2:Int)^jn≤256:=by
   have:=pow_le8 (j:=jn) (by omega)
   have e:((2:Int)^jn)=((2^jn:Nat):Int):=by rw[Int.natCast_pow];rfl
   rw[e];exact Int.ofNat_le.2 this
  have hp0:0≤(2:Int)^jn:=by
   have e:((2:Int)^jn)=((2^jn:Nat):Int):=by rw[Int.natCast_pow];rfl
   rw[e];exact Int.natCast_nonneg _
  have hw1:IntKind.i64.wrap ((2:Int)^jn)=2^jn:=IntWalk.i64_in _ (by omega);have hs1:stepC m i (jn:Int)=m.c i jn:=by unfold stepC;rw[if_neg h0];rfl
  have hs2:stepM (jn:Int) mask=mask|||2^jn:=by unfold stepM;rw[if_neg h0];rfl
  have j1:(0:Int)≤(jn:Int):=by omega
  have j2:(jn:Int)<(m.col.length:Int):=by omega
  have j3:(jn:Int)≤64:=by omega
  have j4:decide (jn<m.col.length)=true:=decide_eq_true hjn;have i1:(0:Int)≤(i:Int):=by omega
  have k2:(i:Int)<(m.n:Int):=by omega
  have k3:decide (i<m.n)=true:=decide_eq_true hi;rw[hs1,hs2];generalize mask|||2^jn=nx at*;generalize m.c i jn=cv at*;generalize m.n=mn at*;generalize m.col.length=mk at*;clear hS hz hs1 hs2 hk8 hn8 hm9 hm hi hj hjk h0 hgl hjn hp1 hp0;go_enter Tryz.func159,Tryz.ntmps159;go_wp2_with fail
  go_quiet(fail)
  go_wp2_with fail
  go_ret2;exact⟨rfl,below_drewN (Below.refl _ _) _⟩
end
end
section
open Go.RowKit Go.Lib
open Mat
theorem fill_take {m:Mat.M}{fixed:List Int}{i mask:Nat}{nx:Nat→Int}{l:List Int}{t:Nat}{j:Int}(h:l[t]? =some j)(b:Int):
  Mat.fill m fixed i mask nx (l.take (t+1)) b=if allowed m fixed i j mask then pick (Mat.fill m fixed i mask nx (l.take t) b) (stepC m i j) (nx (stepM j mask))else Mat.fill m fixed i mask nx (l.take t) b:=by
 rw[List.take_add_one,h];unfold Mat.fill;rw[List.foldl_append];rfl
theorem choices_len (k:Nat):(choices k).length=k+1:=by unfold choices;simp
theorem fill_full {m:Mat.M}{fixed:List Int}{i mask:Nat}(hi:i<m.n):Mat.fill m fixed i mask (tab m fixed (m.n-(i+1))) ((choices m.col.length).take (m.col.length+1)) (-1)=tab m fixed (m.n-i) mask:=by
 rw[List.take_of_length_le (by rw[choices_len];exact Nat.le_refl _)];obtain⟨d,hd⟩:∃d,m.n-(i+1)=d:=⟨_,rfl⟩;have e:m.n-i=d+1:=by omega
 rw[e,hd];show _=Mat.fill m fixed (m.n-(d+1)) mask (tab m fixed d) (choices m.col.length) (-1)
 rw[show m.n-(d+1)=i by omega]
theorem putT_addr {ls:List (Gp Int)}{i mask:Nat}{v:Int}(hi:i<ls.length):((putT ls i mask v).getD i default).A=(ls.getD i default).A:=by
 unfold putT;rw[List.getD_eq_getElem?_getD (l:=ls.set i _),List.getElem?_set_self hi];rfl
theorem putT_self {ls:List (Gp Int)}{n all i mask:Nat}(h:ShT ls n all)(hi:i<n)(hm:mask<all):putT ls i mask (atV ls i mask)=ls:=by
 obtain⟨g,hg,hd,hmm,hl⟩:=h.at_ hi;have h2:=atV_is h hi hm hg;unfold putT;rw[hd];obtain⟨q1,q2⟩:=List.getElem?_eq_some_iff.1 h2;obtain⟨p1,p2⟩:=List.getElem?_eq_some_iff.1 hg;rw[←q2,List.set_getElem_self];have:(⟨g.A,g.c,g.l⟩:Gp Int)=ls[i]:=by rw[p2]
 rw[this,List.set_getElem_self]
theorem tab_le {m:Mat.M}(hz:Sz m)(fixed:List Int)(k mask:Nat)(hk:k≤8): -1≤tab m fixed k mask∧tab m fixed k mask≤7200:=by
 have h:=tab_rng (by omega) hz.b fixed k mask;have h1:=hz.k;have h2:(450:Int)*(m.col.length+k)≤450*16:=Int.mul_le_mul_of_nonneg_left (by omega) (by omega);omega
theorem stepC_le' {m:Mat.M}(hz:Sz m){fixed:List Int}{i mask:Nat}{j:Int}(ha:allowed m fixed i j mask=true):0≤stepC m i j∧stepC m i j≤450:=
 ⟨stepC_pos hz.b.ok ha,stepC_le (by omega) hz.b i j⟩
structure FL (w:World)(tb N all i mask nx:Nat)(LA:Option Addr)(Lc:Nat)(WA:Option Addr)(Wc:Nat)(lo b0 b1 wo v0 v1 k0 k1 k2 k3:Nat)(b r y z:Int):Prop where
 c4:w.cell? ⟨tb,4,none⟩=some (.slice (some ⟨lo,0,none⟩) N Lc)
 c5:w.cell? ⟨tb,5,none⟩=some (.slice (some ⟨wo,0,none⟩) N Wc)
 r0:w.cell? ⟨lo,i,none⟩=some (.slice (some ⟨b0,0,none⟩) all k0)
 r1:w.cell? ⟨lo,i+1,none⟩=some (.slice (some ⟨b1,0,none⟩) all k1)
 s0:w.cell? ⟨wo,i,none⟩=some (.slice (some ⟨v0,0,none⟩) all k2)
 s1:w.cell? ⟨wo,i+1,none⟩=some (.slice (some ⟨v1,0,none⟩) all k3)
 x0:w.cell? ⟨b0,mask,none⟩=some (.int .i64 b)
 x1:w.cell? ⟨b1,nx,none⟩=some (.int .i64 r)
 y0:w.cell? ⟨v0,mask,none⟩=some (.int .i64 y)
 y1:w.cell? ⟨v1,nx,none⟩=some (.int .i64 z)
 f0:w.frozen? ⟨b0,mask,none⟩=false
 f1:w.frozen? ⟨v0,mask,none⟩=false
 hLA:LA=some ⟨lo,0,none⟩
 hWA:WA=some ⟨wo,0,none⟩
theorem TD.fl {w:World}{tb N all Lc Wc i mask nx:Nat}{LA WA:Option Addr}{ls ws:List (Gp Int)}(h:TD w tb N all LA Lc ls WA Wc ws)(hi:i+1<N)(hm:mask<all)(hx:nx<all):
  ∃lo b0 b1 wo v0 v1 k0 k1 k2 k3,FL w tb N all i mask nx LA Lc WA Wc lo b0 b1 wo v0 v1 k0 k1 k2 k3 (atV ls i mask) (atV ls (i+1) nx) (atV ws i mask) (atV ws (i+1) nx)∧(ls.getD i default).A=some ⟨b0,0,none⟩∧(ws.getD i default).A=some ⟨v0,0,none⟩:=by
 obtain⟨o,b0,k0,hO,r0,_,a0,x0,f0⟩:=h.lAt (i:=i) (by omega) (by omega);obtain⟨o1,b1,k1,hO1,r1,_,_,x1,_⟩:=h.lAt (i:=i+1) hi (by omega);obtain⟨p,v0,k2,hP,s0,_,a2,y0,g0⟩:=h.wAt (i:=i) (by omega) (by omega);obtain⟨p1,v1,k3,hP1,s1,_,_,y1,_⟩:=h.wAt (i:=i+1) hi (by omega);rw[hO]at hO1;injection hO1 with hO1;injection hO1 with hO1;subst hO1;rw[hP]at hP1;injection hP1 with hP1;injection hP1 with hP1;subst hP1;have c4:=h.c4;have c5:=h.c5;rw[hO]at c4;rw[hP]at c5;exact⟨o,b0,b1,p,v0,v1,k0,k1,k2,k3,⟨c4,c5,r0,r1,s0,s1,x0 _ hm,x1 _ hx,y0 _ hm,y1 _ hx,f0 _,g0 _,hO,hP⟩,a0,a2⟩
end
section
open Go.RowKit Go.Lib
open Mat
theorem meas2 {k t:Nat}(h:t<k+1):k+1-(t+1)<k+1-t:=by omega
section
variable {m:Mat.M}{fixed:List Int}{w:World}{tb cc rc lc fc Lc Wc i mask:Nat}{cA rA lA fA LA WA:Option Addr}{gs ls ws:List (Gp Int)}
theorem fill_any (hz:Sz m)(hf:Fx m fixed)(hS:TS m fixed w tb cA cc gs rA rc lA lc fA fc)(hD:TD w tb (m.n+1) (2^m.col.length) LA Lc ls WA Wc ws)(hi:i<m.n)(hm:mask<2^m.col.length)
  (hnx:∀mk,mk<2^m.col.length→atV ls (i+1) mk=tab m fixed (m.n-(i+1)) mk):
  Calls Tryz.prog 156 #[.pointer (some ⟨tb,0,none⟩),.int .i64 i,.int .i64 mask] w fun e w'=>e=.returned (.tuple #[])∧∃v,TD w' tb (m.n+1) (2^m.col.length) LA Lc (putT ls i mask (tab m fixed (m.n-i) mask)) WA Wc (putT ws i mask v)∧Below (tb+1) w w':=by
 have hk8:=hz.k;have hn8:=hz.n;have hm9:mask<1000:=by have:=pow_le8 hk8;omega
 obtain⟨N,hN⟩:∃N,m.n+1=N:=⟨_,rfl⟩;obtain⟨all,hall⟩:∃a,2^m.col.length=a:=⟨_,rfl⟩;obtain⟨k,hk⟩:∃a,m.col.length=a:=⟨_,rfl⟩;have HK:=hid hk;have HALL:=hid hall;have HNN:=hid hN;rw[hall]at hD hm hnx ⊢;rw[hN]at hD ⊢;have HI:=hid (show i+1<N by omega);have HM:=hid hm;obtain⟨lo,b0,b1,wo,v0,v1,k0,k1,k2,k3,hF,ha0,ha2⟩:=hD.fl (nx:=mask) HI.out hm hm;have hb0:tb+1≤b0∧b0<w.heap.size:=by
  obtain⟨g,hg,hd,hgm,_⟩:=hD.sl.at_ (i:=i) (by omega);exact(hD.l.ins g hgm).lt2 (by rw[←hd,ha0])
 have hv0:tb+1≤v0∧v0<w.heap.size:=by
  obtain⟨g,hg,hd,hgm,_⟩:=hD.sw.at_ (i:=i) (by omega);exact(hD.w.ins g hgm).lt2 (by rw[←hd,ha2])
 obtain⟨y,hy⟩:∃y,atV ws i mask=y:=⟨_,rfl⟩;have hws:putT ws i mask y=ws:=by rw[←hy];exact putT_self hD.sw (by omega) hm
 obtain⟨Y,hY⟩:∃Y,w.setCell ⟨b0,mask,none⟩ (.int .i64 (-1))=Y:=⟨_,rfl⟩;have hDY:TD Y tb N all LA Lc (putT ls i mask (-1)) WA Wc (putT ws i mask y):=by rw[←hY,hws];exact hD.setL (by omega) hm ha0 (-1)
 have hBY:Below (tb+1) w Y:=by rw[←hY];exact(Below.refl _ w).setCell (p:=⟨b0,mask,none⟩) hb0.1 _
 have hSY:=hS.keep hBY;have hsz:Y.heap.size=w.heap.size:=by rw[←hY];simp
 have HSY:=hid hSY;have HDY:=hid hDY;have HBY:=hid hBY;have HA0:=hid ha0;have HA2:=hid ha2;have HB0:=hid (show tb+1≤b0∧b0<Y.heap.size by rw[hsz];exact hb0);have HV0:=hid (show tb+1≤v0∧v0<Y.heap.size by rw[hsz];exact hv0);have HLEN:Hid (i<ls.length∧i<ws.length):=hid ⟨by rw[hD.sl.1];omega,by rw[hD.sw.1];omega⟩;have HSH:=hid hD.sl;have HNE:Hid (b0≠v0):=hid (by
  obtain⟨g,hg,hd,hgm,_⟩:=hD.sl.at_ (i:=i) (by omega);obtain⟨g',hg',hd',hgm',_⟩:=hD.sw.at_ (i:=i) (by omega);intro e;exact hD.ii g hgm g' hgm' b0 (by rw[←hd,ha0]) (by rw[←hd',ha2,e]))
 have CC:=hid (choices_any lc hk8 hSY.lt hSY.c2);rw[hk]at CC;have CAL:=hid (fun(X:World) (hX:TS m fixed X tb cA cc gs rA rc lA lc fA fc) (j:Int) (h1: -1≤j) (h2:j<m.col.length)=>mallowed_any hz hf hX hi h1 h2 (by rw[hall];exact hm));have CST:=hid (fun(X:World) (hX:TS m fixed X tb cA cc gs rA rc lA lc fA fc) (j:Int) (h1: -1≤j) (h2:j<m.col.length)=>step_any hz hX hi h1 h2 (by rw[hall];exact hm));have HNX:=hid hnx;have HZ:=hid hz;have HIM:=hid hi;have HFULL:=hid (fill_full (fixed:=fixed) (mask:=mask) hi);obtain⟨nx,hnxe⟩:∃f:Nat→Int,tab m fixed (m.n-(i+1))=f:=⟨_,rfl⟩;have HNXR:Hid (∀mk,-1≤nx mk∧nx mk≤7200):=hid (fun mk=>hnxe▸tab_le hz fixed _ mk (by omega));rw[hnxe,hk]at HFULL;rw[hnxe]at HNX;have c4:=hF.c4;have r0:=hF.r0;have x0:=hF.x0;have f0:=hF.f0;have i0:(0:Int)≤(i:Int):=by omega
 have i1:(i:Int)<(N:Int):=by omega
 have i2:decide (i<N)=true:=decide_eq_true (by omega);have i3:(i:Int)+1<(N:Int):=by omega
 have i4:IntKind.i64.wrap ((i:Int)+1)=(i:Int)+1:=IntWalk.i64_in _ (by omega);have i5:(0:Int)≤(i:Int)+1:=by omega
 have m0:(0:Int)≤(mask:Int):=by omega
 have m1:(mask:Int)<(all:Int):=by omega
 have m2:decide (mask<all)=true:=decide_eq_true hm;have hk88:k≤8:=by omega
 clear hS hD hF hDY hBY hSY hsz hb0 hv0 ha0 ha2 hws hy hnx hnxe hz hf hi hm hm9 hk8 hn8 hN hall hk;go_enter Tryz.func156,Tryz.ntmps156;go_wp2_with fail
 refine CC.out.mono ?_;rintro e W1 ⟨A,c,rfl,ho,hb⟩;obtain⟨h1,hh1⟩:∃g,Y.heap.size=g:=⟨_,rfl⟩;rw[hh1]at ho hb HB0 HV0;have HD1:Hid (TD W1 tb N all LA Lc (putT ls i mask (-1)) WA Wc (putT ws i mask y)):=hid (HDY.out.keep HSY.out.lt (by rw[hh1];exact hb));have HB1:Hid (Below (tb+1) w W1):=hid (HBY.out.trans (hb.mono (by rw[←hh1];exact HSY.out.lt)));have HS1:Hid (TS m fixed W1 tb cA cc gs rA rc lA lc fA fc):=hid (HSY.out.st (by rw[hh1];exact hb));obtain⟨cb,rfl,hcb,_⟩:=ho.exB (by intro e;have:=choices_len k;rw[e]at this;simp at this);have HC0:Hid (cb≠b0):=hid (by have:=HB0.out.2;omega);have HC1:Hid (cb≠v0):=hid (by have:=HV0.out.2;omega);have HIN:Hid (i<N):=hid (by have:=HI.out;omega);have HO1:=hid ho;clear ho hb hcb CC HSY HBY HDY hh1 c4 r0 x0 f0 hY;go_wp2_with fail
 go_loopw [24] (fun sj wr=>∃(t:Nat) (b v:Int),t≤k+1∧sj=.int .i64 t∧Hid (b=Mat.fill m fixed i mask nx ((choices k).take t) (-1))∧Hid (TD wr tb N all LA Lc (putT ls i mask b) WA Wc (putT ws i mask v))∧Hid (Below (tb+1) w wr)∧Hid (TS m fixed wr tb cA cc gs rA rc lA lc fA fc)∧Hid (Own 3 encI 1 wr h1 (some ⟨cb,0,none⟩) c (choices k))∧Hid (-1≤b∧b≤8000)) (fun sj _=>k+1-(RowKit.intOf sj).toNat)
 case atStart=>exact⟨0,-1,y,Nat.zero_le _,rfl,rfl,HD1,HB1,HS1,HO1,by omega,by omega⟩
 case round=>
  clear HD1 HB1 HS1 HO1;obtain⟨t,b,v,ht,rfl,HBV,HDT,HBW,HTS,HO,HBR⟩:=hrel;by_cases hin:t<k+1
  ·have HT:=hid hin;obtain⟨j,hj⟩:∃j,(choices k)[t]? =some j:=⟨_,List.getElem?_eq_getElem (by rw[choices_len];exact hin)⟩;have hjm:=mem_choices.1 (List.mem_of_getElem? hj);have hj1: -1≤j:=by rcases hjm with q|q<;>omega
   have hj2:j<(k:Int):=by rcases hjm with q|q<;>omega
   have cj:=HO.out.cells encI_ok rfl hj (j:=0) (u:=.int .i64 j) rfl;rw[Nat.mul_one,Nat.add_zero]at cj;have t1:(0:Int)≤(t:Int):=by omega
   have t2:(t:Int)<(k:Int)+1:=by omega
   have t4:decide (t<k+1)=true:=decide_eq_true hin;have CA:=hid (CAL.out wr HTS.out j hj1 (by rw[HK.out];exact hj2));have CS:=hid (fun(X:World) (hX:Below wr.heap.size wr X)=>CST.out X (HTS.out.st hX) j hj1 (by rw[HK.out];exact hj2));have HFT:=hid (fill_take (m:=m) (fixed:=fixed) (i:=i) (mask:=mask) (nx:=nx) hj (-1));have HAP:Hid (allowed m fixed i j mask=true→0≤stepC m i j∧stepC m i j≤450):=hid (stepC_le' HZ.out);have HNM:Hid (stepM j mask<all):=hid (by rw[←HALL.out];exact step_lt (by rw[HALL.out];exact HM.out) (by rw[HK.out];exact hj2));rw[←HBV.out]at HFT;obtain⟨al,hal⟩:∃a,allowed m fixed i j mask=a:=⟨_,rfl⟩;obtain⟨cs,hcs⟩:∃a,stepC m i j=a:=⟨_,rfl⟩;obtain⟨nm,hnm⟩:∃a,stepM j mask=a:=⟨_,rfl⟩;rw[hal]at CA HFT HAP;rw[hcs]at HFT HAP;rw[hnm]at HFT HNM;simp only[hcs,hnm]at CS;clear hjm hj hj2 hin ht hal hcs hnm;go_upto_block 1 with fail
   go_cut [65] (fun s65 wc=>∃b2 v2:Int,Hid (b2=Mat.fill m fixed i mask nx ((choices k).take (t+1)) (-1))∧Hid (TD wc tb N all LA Lc (putT ls i mask b2) WA Wc (putT ws i mask v2))∧Hid (Below (tb+1) w wc)∧Hid (TS m fixed wc tb cA cc gs rA rc lA lc fA fc)∧Hid (Own 3 encI 1 wc h1 (some ⟨cb,0,none⟩) c (choices k))∧Hid (-1≤b2∧b2≤8000))
   case rest=>
    obtain⟨b2,v2,HE,HD9,HB9,HT9,HO9,HR9⟩:=hcut;go_wp2_with fail
    go_roundw
    case rel=>exact⟨t+1,b2,v2,HT.out,by go_num,HE,HD9,HB9,HT9,HO9,HR9⟩
    case measure=>exact meas2 HT.out
   case first=>
    go_wp2_with fail
    refine CA.out.mono ?_;rintro e w2 ⟨rfl,hb2⟩;cases al
    ·have HB2:=hid (HBW.out.trans (hb2.mono HTS.out.lt));have HT2:=hid (HTS.out.st hb2);have HD2:=hid (HDT.out.keep HTS.out.lt hb2);have HO2:=hid (HO.out.keep hb2 (Nat.le_refl _));have HE:=hid (show b=Mat.fill m fixed i mask nx ((choices k).take (t+1)) (-1) by rw[HFT.out];rfl);clear hb2 CA CS;go_wp2_with fail
     go_meet;exact⟨b,v,HE,HD2,HB2,HT2,HO2,HBR⟩
    ·have CS2:=CS.out w2 hb2;have HB2:=hid hb2;obtain⟨hc0,hc1⟩:=HAP.out rfl;clear CA CS hb2;go_wp2_with fail
     refine CS2.mono ?_;rintro e w3 ⟨rfl,hb3⟩;have hb3:=HB2.out.st hb3;have hB3:=HBW.out.trans (hb3.mono HTS.out.lt);have hT3:=HTS.out.st hb3;have hD3:=HDT.out.keep HTS.out.lt hb3;have hO3:=HO.out.keep hb3 (Nat.le_refl _);obtain⟨lo,b0',b1,wo,v0',v1,k0,k1,k2,k3,hF,a0,a2⟩:=hD3.fl (nx:=nm) HI.out HM.out HNM.out;have e0:b0'=b0:=by
      rw[putT_addr HLEN.out.1,HA0.out]at a0;injection a0 with a0;injection a0 with a0;exact a0.symm
     have e2:v0'=v0:=by
      rw[putT_addr HLEN.out.2,HA2.out]at a2;injection a2 with a2;injection a2 with a2;exact a2.symm
     subst e0 e2;have q1:atV (putT ls i mask b) i mask=b:=by rw[atV_put HSH.out HIN.out HM.out,if_pos ⟨rfl,rfl⟩]
     have q2:atV (putT ls i mask b) (i+1) nm=nx nm:=by rw[atV_put HSH.out HIN.out HM.out,if_neg (by omega),HNX.out nm HNM.out]
     have hR:=HNXR.out nm;rw[q1,q2]at hF;obtain⟨r,hr⟩:∃r,nx nm=r:=⟨_,rfl⟩;rw[hr]at hF hR HFT;obtain⟨z,hz⟩:∃z,atV (putT ws i mask v) (i+1) nm=z:=⟨_,rfl⟩;obtain⟨y2,hy2⟩:∃z,atV (putT ws i mask v) i mask=z:=⟨_,rfl⟩;rw[hz,hy2]at hF;have c4:=hF.c4;have c5:=hF.c5;have r0:=hF.r0;have r1:=hF.r1;have s0:=hF.s0;have s1:=hF.s1;have x0:=hF.x0;have x1:=hF.x1;have y0:=hF.y0;have y1:=hF.y1;have f0:=hF.f0;have f1:=hF.f1;have e1:IntKind.i64.wrap (cs+r)=cs+r:=IntWalk.i64_in _ (by omega);have n0:(0:Int)≤(nm:Int):=by omega
     have n1:(nm:Int)<(all:Int):=by have:=HNM.out;omega
     have n2:decide (nm<all)=true:=decide_eq_true HNM.out;have hne:=HNE.out;have HD3:=hid hD3;have HB3:=hid hB3;have HT3:=hid hT3;have HO3:=hid hO3;have hi1:i<i+1:=Nat.lt_succ_self i;clear hF hD3 hB3 hT3 hO3 hb3 hz hy2 hr q1 q2 a0 a2 cj;by_cases hr0:r<0
     ·have HE:=hid (show b=Mat.fill m fixed i mask nx ((choices k).take (t+1)) (-1) by rw[HFT.out,if_pos trivial];unfold pick;rw[if_pos hr0]);clear HFT;go_wp2_with fail
      go_meet;exact⟨b,v,HE,HD3,HB3,HT3,HO3,HBR⟩
     ·have hr1:decide (r<0)=false:=decide_eq_false hr0;have HR0:=hid hr0;clear hr0
      ·skip
       by_cases hlt:b<0∨cs+r<b
       ·have HE:Hid (cs+r=Mat.fill m fixed i mask nx ((choices k).take (t+1)) (-1)):=hid (by rw[HFT.out,if_pos trivial];unfold pick;rw[if_neg HR0.out,if_pos hlt]);have HRR:Hid (-1≤cs+r∧cs+r≤8000):=hid (by have:=HR0.out;omega);have HD5:=hid ((HD3.out.setL HIN.out HM.out ((putT_addr HLEN.out.1).trans HA0.out) (cs+r)).setW HIN.out HM.out ((putT_addr HLEN.out.2).trans HA2.out) z);rw[putT_same HLEN.out.1,putT_same HLEN.out.2]at HD5;have HO5:Hid (Own 3 encI 1 ((w3.setCell ⟨b0',mask,none⟩ (.int .i64 (cs+r))).setCell ⟨v0',mask,none⟩ (.int .i64 z)) h1 (some ⟨cb,0,none⟩) c (choices k)):=hid (HO3.out.keepB fun g hg _=>by
         injection hg with hg;injection hg with hg;subst hg;rw[setCell_other _ ⟨v0',mask,none⟩ _ HC1.out,setCell_other _ ⟨b0',mask,none⟩ _ HC0.out])
        have hB5:Below (tb+1) w3 ((w3.setCell ⟨b0',mask,none⟩ (.int .i64 (cs+r))).setCell ⟨v0',mask,none⟩ (.int .i64 z)):=((Below.refl _ w3).setCell (p:=⟨b0',mask,none⟩) HB0.out.1 _).setCell (p:=⟨v0',mask,none⟩) HV0.out.1 _;have HB5:=hid (below_drewN (HB3.out.trans hB5) 1);have HT5:=hid (HT3.out.keep (below_drewN hB5 1));have HD6:=hid (HD5.out.drewN 1);clear hB5 HFT HD5;have hb7:b<0∨((decide (b<0))=false∧cs+r<b):=by
         by_cases q:b<0
         ·exact .inl q
         ·exact .inr ⟨decide_eq_false q,by rcases hlt with h|h;exact absurd h q;exact h⟩
        clear hlt;rcases hb7 with hb7|⟨hb7,hb9⟩
        ·go_upto_region 10 with fail
         go_region
         go_wp2_with fail
         go_meet;exact⟨cs+r,z,HE,HD6,HB5,HT5,HO5,HRR⟩
        ·go_upto_region 10 with fail
         go_region
         go_wp2_with fail
         go_meet;exact⟨cs+r,z,HE,HD6,HB5,HT5,HO5,HRR⟩
       ·have HE:Hid (b=Mat.fill m fixed i mask nx ((choices k).take (t+1)) (-1)):=hid (by rw[HFT.out,if_pos trivial];unfold pick;rw[if_neg HR0.out,if_neg hlt]);have hb7:(decide (b<0))=false:=decide_eq_false fun h=>hlt (.inl h);have hb9:(decide (cs+r<b))=false:=decide_eq_false fun h=>hlt (.inr h);clear HFT;by_cases heq:cs+r=b
        ·have hb8:(cs+r==b)=true:=by simpa using heq
         obtain⟨sm,hsm⟩:∃q,IntKind.i64.wrap (y2+z)=q:=⟨_,rfl⟩;have HD5:=hid ((HD3.out.setW HIN.out HM.out ((putT_addr HLEN.out.2).trans HA2.out) sm).drewN 1);rw[putT_same HLEN.out.2]at HD5;have HO5:Hid (Own 3 encI 1 (w3.setCell ⟨v0',mask,none⟩ (.int .i64 sm)) h1 (some ⟨cb,0,none⟩) c (choices k)):=hid (HO3.out.keepB fun g hg _=>by
          injection hg with hg;injection hg with hg;subst hg;rw[setCell_other _ ⟨v0',mask,none⟩ _ HC1.out])
         have hB5:Below (tb+1) w3 (w3.setCell ⟨v0',mask,none⟩ (.int .i64 sm)):=(Below.refl _ w3).setCell (p:=⟨v0',mask,none⟩) HV0.out.1 _;have HB5:=hid (below_drewN (HB3.out.trans hB5) 1);have HT5:=hid (HT3.out.keep (below_drewN hB5 1));clear hB5 hlt heq;go_upto_region 12 with fail
         go_region
         go_wp2_with fail
         go_meet;exact⟨b,sm,HE,HD5,HB5,HT5,HO5,HBR⟩
        ·have hb8:(cs+r==b)=false:=by simpa using heq
         clear hlt heq;go_wp2_with fail
         go_meet;exact⟨b,v,HE,HD3,HB3,HT3,HO3,HBR⟩
  ·obtain rfl:t=k+1:=by omega
   have HE:Hid (b=tab m fixed (m.n-i) mask):=hid (HBV.out.trans HFULL.out);simp only[Int.natCast_add,Int.natCast_one];go_wp2_with fail
   go_end0;refine⟨rfl,v,?_,HBW.out⟩;rw[←HE.out];exact HDT.out
end
end
end Go.Proofs.YtimffppffbideaaGreatDoor
