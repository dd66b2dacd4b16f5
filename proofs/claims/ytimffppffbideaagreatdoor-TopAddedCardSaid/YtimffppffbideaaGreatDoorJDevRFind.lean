import Derived.Test.YtimffppffbideaaGreatDoorJDetPlN
set_option linter.unusedSimpArgs false
set_option linter.unusedVariables false
set_option maxHeartbeats 4000000
namespace Go.Proofs.YtimffppffbideaaGreatDoor
section
open Go.RowKit Go.Lib
def findD (l:List Dv)(nm:ByteArray):Option Dv:=l.find? fun d=>eqS d.name nm
def zeroD:Dv:=⟨⟨#[]⟩,⟨#[]⟩,0,0,none,0,[],none,0,[]⟩
def FindDR (l:List Dv)(nm:ByteArray)(w w':World)(e:Ending):Prop:=
 ∃d,e=.returned (.tuple #[DV d,.bool (findD l nm).isSome])∧vD d=vD ((findD l nm).getD zeroD)∧DOk w' d∧Below w.heap.size w w'
end
section
open Go.RowKit Go.Lib
theorem valid_any (f t:Int)(w:World):
  Calls Tryz.prog 120 #[.agg #[.int .i64 f,.int .i64 t]] w fun e w'=>e=.returned (.bool (validB f t))∧w.alloc (.cells #[.int .i64 f,.int .i64 t] 161)=w':=by
 unfold validB;go_enter Tryz.func120,Tryz.ntmps120;go_wp2;all_goals(go_ret;exact⟨ret_bool (by rw[Bool.eq_iff_iff];simp;omega),rfl⟩)
end
section
open Go.RowKit Go.Lib Go.Shelf
theorem contains_any (p:Iv→Bool)(g:Nat)(lb:Array Value)(eg:∀args w,(callFunc g args).run Tryz.prog w=.ok (.enter g args) w){A:Option Addr}(c:Nat){l:List Iv}{w:World}
  (hp:∀(W:World) (x:Iv),Below w.heap.size w W→Calls Tryz.prog g (#[.agg #[.int .i64 x.1,.int .i64 x.2]]++lb) W fun e w'=>e=.returned (.bool (p x))∧Below w.heap.size w w')
  (h:Rd encIv 2 w w.heap.size A l) (hl:l.length≤100000000000):
  Calls Tryz.prog 118 #[.slice A l.length c,.func (.func g) #[] lb] w fun e w'=>e=.returned (.bool (l.any p))∧Below w.heap.size w w':=by
 by_cases hne:l=[]
 ·subst hne;clear h hp eg;go_enter Tryz.func118,Tryz.ntmps118;go_wp2_with go_in
  refine wp_loop_rounds 1 ?_;rw[rounds_succ];go_wp2;go_ret;exact⟨rfl,Below.refl _ _⟩
 ·obtain⟨b,off,rfl,hb,hc⟩:=h hne;have hcon:=AnyQ.slices_ContainsFunc Tryz.lay_containsf_f118 2 Tryz.isAgg161 Tryz.sizeOf161 encIv encIv_ok.1 p g lb eg b off l.length c l w (fun W x hW=>hp W x hW) (Nat.le_refl _) (by omega) hb
   (fun j hj i v hi=>hc j l[j]! (by rw[getElem!_pos l j hj];exact List.getElem?_eq_getElem hj) i v hi)
  rw[List.take_length]at hcon;exact hcon
theorem hasClosure_any (x:Iv)(t:Int)(b:Nat)(W:World)(hb:b<W.heap.size)(hc:W.cell? ⟨b,0,none⟩=some (.int .i64 t)):
  Calls Tryz.prog 119 #[.agg #[.int .i64 x.1,.int .i64 x.2],.pointer (some ⟨b,0,none⟩)] W fun e w'=>e=.returned (.bool (validB x.1 x.2&&decide (x.1≤t)&&decide (t<x.2)))∧Below W.heap.size W w':=by
 obtain⟨f,u⟩:=x;have hbel:=((Below.refl W.heap.size W).al (.cells #[.int .i64 f,.int .i64 u] 161)).al (.cells #[.int .i64 f,.int .i64 u] 161);have hb2:b<W.heap.size+1:=by omega
 have hb3:b≠W.heap.size:=by omega
 have hb4:b≠W.heap.size+1:=by omega
 cases hv:validB f u
 ·go_enter Tryz.func119,Tryz.ntmps119;go_wp2_with(go_at_call 120;refine(valid_any _ _ _).mono ?_;rintro e w' ⟨rfl,rfl⟩)
  go_ret;exact⟨ret_bool (by simp),hbel⟩
 ·by_cases h1:f≤t
  ·by_cases h2:t<u
   ·have R:=hid (show(true&&decide (f≤t)&&decide (t<u))=true by simp[h1,h2]);go_enter Tryz.func119,Tryz.ntmps119;go_wp2_with(go_at_call 120;refine(valid_any _ _ _).mono ?_;rintro e w' ⟨rfl,rfl⟩)
    go_ret;exact⟨ret_bool (by first|exact R.out.symm|(rw[R.out];simp;omega)),hbel⟩
   ·have R:=hid (show(true&&decide (f≤t)&&decide (t<u))=false by simp[h2]);go_enter Tryz.func119,Tryz.ntmps119;go_wp2_with(go_at_call 120;refine(valid_any _ _ _).mono ?_;rintro e w' ⟨rfl,rfl⟩)
    go_ret;exact⟨ret_bool (by first|exact R.out.symm|(rw[R.out];simp;omega)),hbel⟩
  ·have R:=hid (show(true&&decide (f≤t)&&decide (t<u))=false by simp[h1]);go_enter Tryz.func119,Tryz.ntmps119;go_wp2_with(go_at_call 120;refine(valid_any _ _ _).mono ?_;rintro e w' ⟨rfl,rfl⟩)
   go_ret;exact⟨ret_bool R.out.symm,hbel⟩
theorem has_any {A:Option Addr}(c:Nat){l:List Iv}(t:Int){w:World}(h:Rd encIv 2 w w.heap.size A l)(hl:l.length≤100000000000):
  Calls Tryz.prog 83 #[.slice A l.length c,.int .i64 t] w fun e w'=>e=.returned (.bool (hasB l t))∧Below w.heap.size w w':=by
 have eg:∀args w,(callFunc 119 args).run Tryz.prog w=.ok (.enter 119 args) w:=enters_of Tryz.func119 (by kernel_rfl) rfl;have hz:w.heap.size<(w.alloc (.cells #[.int .i64 t] 3)).heap.size:=by simp
 have hb0:=(Below.refl w.heap.size w).al (.cells #[.int .i64 t] 3);have C:=hid (contains_any (fun x=>validB x.1 x.2&&decide (x.1≤t)&&decide (t<x.2)) 119 #[.pointer (some ⟨w.heap.size,0,none⟩)] eg c (w:=w.alloc (.cells #[.int .i64 t] 3))
  (fun W x hW=>(hasClosure_any x t w.heap.size W (Nat.lt_of_lt_of_le hz hW.size) ((hW.cell (p:=⟨w.heap.size,0,none⟩) hz).trans (by simp))).mono fun e w' ⟨he,hw'⟩=>⟨he,hW.trans (hw'.mono hW.size)⟩)
  ((h.keep hb0).more (Nat.le_of_lt hz)) hl)
 clear h eg;go_enter Tryz.func83,Tryz.ntmps83;go_wp2_with fail
 refine C.out.mono ?_;rintro e w' ⟨rfl,hb⟩;go_wp2_with fail
 go_ret;exact⟨rfl,hb0.trans (hb.mono (Nat.le_of_lt hz))⟩
end
section
open Go.RowKit Go.Lib
theorem dworks_any (d:Dv)(t:Int){w:World}(h:DOk w d)(hl:d.ds.length≤100000000000):
  Calls Tryz.prog 46 #[DV d,.int .i64 t] w fun e w'=>e=.returned (.bool (worksB d t))∧Below w.heap.size w w':=by
 have CH:=hid (fun(X:World) (hX:Below w.heap.size w X)=>has_any d.dc t (h.2.st hX) hl);have CT:=hid (fun w=>time_any t w);unfold worksB;clear h;obtain⟨nm,pt,kd,ln,oA,oc,os,dA,dc,ds⟩:=d;simp only[DV]at*;cases ht:tB t
 ·rw[ht]at CT;obtain⟨Y1,hY1⟩:∃Y,w.alloc (.cells #[.string nm,.string pt,.int .i64 kd,.int .i64 ln,.slice oA os.length oc,.slice dA ds.length dc] 69)=Y:=⟨_,rfl⟩;have bW:Below w.heap.size w Y1:=(by rw[←hY1];exact(Below.refl _ w).al _);have bZ:Blk Y1 w.heap.size #[.string nm,.string pt,.int .i64 kd,.int .i64 ln,.slice oA os.length oc,.slice dA ds.length dc] 69:=(by rw[←hY1];exact Blk.new w _ _);have q0:World.cell? Y1 ⟨w.heap.size,0,none⟩=some (.string nm):=bZ.cell 0 rfl;have q1:World.cell? Y1 ⟨w.heap.size,1,none⟩=some (.string pt):=bZ.cell 1 rfl;have q2:World.cell? Y1 ⟨w.heap.size,2,none⟩=some (.int .i64 kd):=bZ.cell 2 rfl;have q3:World.cell? Y1 ⟨w.heap.size,3,none⟩=some (.int .i64 ln):=bZ.cell 3 rfl;have q4:World.cell? Y1 ⟨w.heap.size,4,none⟩=some (.slice oA os.length oc):=bZ.cell 4 rfl;have q5:World.cell? Y1 ⟨w.heap.size,5,none⟩=some (.slice dA ds.length dc):=bZ.cell 5 rfl;go_enter Tryz.func46,Tryz.ntmps46;go_wp2_with fail
  refine(CT.out _).mono ?_;rintro e w' ⟨rfl,rfl⟩;go_wp2;all_goals(go_ret;exact⟨rfl,bW⟩)
 ·rw[ht]at CT;generalize hasB ds t=hb at*;obtain⟨Y1,hY1⟩:∃Y,w.alloc (.cells #[.string nm,.string pt,.int .i64 kd,.int .i64 ln,.slice oA os.length oc,.slice dA ds.length dc] 69)=Y:=⟨_,rfl⟩;have bW:Below w.heap.size w Y1:=(by rw[←hY1];exact(Below.refl _ w).al _);have bZ:Blk Y1 w.heap.size #[.string nm,.string pt,.int .i64 kd,.int .i64 ln,.slice oA os.length oc,.slice dA ds.length dc] 69:=(by rw[←hY1];exact Blk.new w _ _);have q0:World.cell? Y1 ⟨w.heap.size,0,none⟩=some (.string nm):=bZ.cell 0 rfl;have q1:World.cell? Y1 ⟨w.heap.size,1,none⟩=some (.string pt):=bZ.cell 1 rfl;have q2:World.cell? Y1 ⟨w.heap.size,2,none⟩=some (.int .i64 kd):=bZ.cell 2 rfl;have q3:World.cell? Y1 ⟨w.heap.size,3,none⟩=some (.int .i64 ln):=bZ.cell 3 rfl;have q4:World.cell? Y1 ⟨w.heap.size,4,none⟩=some (.slice oA os.length oc):=bZ.cell 4 rfl;have q5:World.cell? Y1 ⟨w.heap.size,5,none⟩=some (.slice dA ds.length dc):=bZ.cell 5 rfl;go_enter Tryz.func46,Tryz.ntmps46;go_wp2_with fail
  refine(CT.out _).mono ?_;rintro e w' ⟨rfl,rfl⟩;go_wp2_with fail
  refine(CH.out _ bW).mono ?_;rintro e wn ⟨rfl,hbn⟩;have bW:=bW.st hbn;go_wp2;all_goals(go_ret;exact⟨by first|rfl|simp,bW⟩)
end
section
open Go.RowKit Go.Lib
theorem dclock_any (d:Dv)(raw:Int){w:World}(h:DOk w d)(hl:d.os.length≤100000000000):
  Calls Tryz.prog 45 #[DV d,.int .i64 raw] w fun e w'=>e=.returned (.tuple #[.int .i64 (clockN d raw),.bool (clockB d raw)])∧Below w.heap.size w w':=by
 have h1:=hid h.1;have F1:=hid (@clock_1 d raw);have F2:=hid (@clock_2 d raw);have F3:=hid (@clock_3 d raw);have F0:=hid (@clock_no d raw);have HD:Hid (∀os,d.os=os→delta d.os raw=delta os raw):=fun os e=>by rw[e]
 have CT:=hid (fun w=>time_any raw w);clear h;generalize clockN d raw=cn at*;generalize clockB d raw=cb at*;obtain⟨nm,pt,kd,ln,oA,oc,os,dA,dc,ds⟩:=d;simp only[DV]at*;clear HD;cases ht:tB raw
 ·have R1:=F1.out ht;subst R1;have R0:=F0.out rfl;subst R0;rw[ht]at CT;clear F1 F2 F3 F0 ht;obtain⟨Y1,hY1⟩:∃Y,w.alloc (.cells #[.string nm,.string pt,.int .i64 kd,.int .i64 ln,.slice oA os.length oc,.slice dA ds.length dc] 69)=Y:=⟨_,rfl⟩;have bW:Below w.heap.size w Y1:=(by rw[←hY1];exact(Below.refl _ w).al _);have bZ:Blk Y1 w.heap.size #[.string nm,.string pt,.int .i64 kd,.int .i64 ln,.slice oA os.length oc,.slice dA ds.length dc] 69:=(by rw[←hY1];exact Blk.new w _ _);have q0:World.cell? Y1 ⟨w.heap.size,0,none⟩=some (.string nm):=bZ.cell 0 rfl;have q1:World.cell? Y1 ⟨w.heap.size,1,none⟩=some (.string pt):=bZ.cell 1 rfl;have q2:World.cell? Y1 ⟨w.heap.size,2,none⟩=some (.int .i64 kd):=bZ.cell 2 rfl;have q3:World.cell? Y1 ⟨w.heap.size,3,none⟩=some (.int .i64 ln):=bZ.cell 3 rfl;have q4:World.cell? Y1 ⟨w.heap.size,4,none⟩=some (.slice oA os.length oc):=bZ.cell 4 rfl;have q5:World.cell? Y1 ⟨w.heap.size,5,none⟩=some (.slice dA ds.length dc):=bZ.cell 5 rfl;go_enter Tryz.func45,Tryz.ntmps45;go_wp2_with fail
  refine(CT.out _).mono ?_;rintro e w' ⟨rfl,rfl⟩;go_wp2;all_goals(go_ret2;exact⟨rfl,bW⟩)
 ·rw[ht]at CT;have F2:=hid (F2.out ht);have F3:=hid (F3.out ht);obtain⟨ht1,ht2⟩:=tB_yes ht;clear F1 ht;obtain⟨Y1,hY1⟩:∃Y,w.alloc (.cells #[.string nm,.string pt,.int .i64 kd,.int .i64 ln,.slice oA os.length oc,.slice dA ds.length dc] 69)=Y:=⟨_,rfl⟩;have bW:Below w.heap.size w Y1:=(by rw[←hY1];exact(Below.refl _ w).al _);have bZ:Blk Y1 w.heap.size #[.string nm,.string pt,.int .i64 kd,.int .i64 ln,.slice oA os.length oc,.slice dA ds.length dc] 69:=(by rw[←hY1];exact Blk.new w _ _);have q0:World.cell? Y1 ⟨w.heap.size,0,none⟩=some (.string nm):=bZ.cell 0 rfl;have q1:World.cell? Y1 ⟨w.heap.size,1,none⟩=some (.string pt):=bZ.cell 1 rfl;have q2:World.cell? Y1 ⟨w.heap.size,2,none⟩=some (.int .i64 kd):=bZ.cell 2 rfl;have q3:World.cell? Y1 ⟨w.heap.size,3,none⟩=some (.int .i64 ln):=bZ.cell 3 rfl;have q4:World.cell? Y1 ⟨w.heap.size,4,none⟩=some (.slice oA os.length oc):=bZ.cell 4 rfl;have q5:World.cell? Y1 ⟨w.heap.size,5,none⟩=some (.slice dA ds.length dc):=bZ.cell 5 rfl;go_enter Tryz.func45,Tryz.ntmps45;go_wp2_with fail
  refine(CT.out _).mono ?_;rintro e w' ⟨rfl,rfl⟩;go_wp2_with fail
  obtain⟨Y,hY⟩:∃Y,Y=w':=⟨_,rfl⟩;have bW0:=bW;rw[←hY]at bW bZ bW0 ⊢;go_loopw [6,15] (fun v i wr=>∃(k:Nat) (q:Int),k≤os.length∧i=.int .i64 k∧v=.int .i64 q∧Hid (delta (os.take k) raw=q)∧Below w.heap.size w wr) (fun _ i _=>os.length-(RowKit.intOf i).toNat)
  case atStart=>exact⟨0,0,Nat.zero_le _,rfl,rfl,rfl,bW⟩
  case round=>
   obtain⟨k,q,hk,rfl,rfl,HQ,hbr⟩:=hrel;by_cases hlt:k<os.length
   ·obtain⟨b,off,f,u,rfl,hg,hx,hc0,hc1⟩:=(h1.out.st hbr).iv hlt;have HS:=hid (show delta (os.take (k+1)) raw=if f≤raw then u else q by rw[take_snoc hx,delta_snoc,HQ.out]);clear hx HQ;by_cases hf:f≤raw
    ·have HS2:=HS.out;rw[if_pos hf]at HS2;have HS3:=hid HS2;clear HS2 HS;go_wp2;go_roundw
     case rel=>exact⟨k+1,_,by omega,by go_num,rfl,HS3,hbr.al _⟩
     case measure=>simp[RowKit.intOf];omega
    ·have HS2:=HS.out;rw[if_neg hf]at HS2;have HS3:=hid HS2;clear HS2 HS;go_wp2;go_roundw
     case rel=>exact⟨k+1,_,by omega,by go_num,rfl,HS3,hbr.al _⟩
     case measure=>simp[RowKit.intOf];omega
   ·obtain rfl:k=os.length:=by omega
    have HE:=hid (show delta os raw=q by have:=HQ.out;rwa [List.take_length]at this);clear HQ;have G2:Hid (q< -raw∨68719476736-raw≤q→cb=false):=fun z=>F2.out (by have e:=HE.out;omega);have G3:Hid (¬q< -raw→¬68719476736-raw≤q→cb=true∧cn=raw+q):=fun z1 z2=>by
     have:=F3.out (by have e:=HE.out;omega) (by have e:=HE.out;omega)
     refine⟨this.1,this.2.trans ?_⟩;show raw+delta os raw=_
     rw[HE.out]
    clear F2 F3 HE;by_cases z1:q< -raw
    ·have R1:=G2.out (.inl z1);subst R1;have R0:=F0.out rfl;subst R0;clear G2 G3 F0;go_wp2;all_goals(go_ret2;exact⟨rfl,hbr⟩)
    ·by_cases z2:68719476736-raw≤q
     ·have R1:=G2.out (.inr z2);subst R1;have R0:=F0.out rfl;subst R0;clear G2 G3 F0;go_wp2;all_goals(go_ret2;exact⟨rfl,hbr⟩)
     ·obtain⟨rfl,rfl⟩:=G3.out z1 z2;clear G2 G3 F0;go_wp2;all_goals(go_ret2;exact⟨rfl,hbr⟩)
end
section
open Go.RowKit Go.Lib
def zeroDt:Dt:=⟨⟨#[]⟩,0,0,⟨#[]⟩,⟨#[]⟩,0,0⟩
def zeroSn:Sn:=⟨zeroDt,0,⟨#[]⟩,0,0⟩
def corOf (fnd:Bool)(x:Dv)(d:Dt):Int:=
 if fnd=false then 1
 else if d.seq<0∨2147483648<d.seq∨d.sc<0∨1000<d.sc∨fitsB x.kind d=false then 3
 else if clockB x d.time=false then 2
 else if worksB x (clockN x d.time)=false then 5
 else 0
def corSn (x:Dv)(d:Dt):Sn:=⟨d,clockN x d.time,x.pt,x.lane,x.kind⟩
def corX (l:List Dv)(d:Dt):Dv:=(findD l d.dev).getD zeroD
def corW (l:List Dv)(d:Dt):Int:=corOf (findD l d.dev).isSome (corX l d) d
def corS (l:List Dv)(d:Dt):Sn:=if corW l d=0 then corSn (corX l d) d else zeroSn
theorem vD_parts {x y:Dv}(h:vD x=vD y):x.name=y.name∧x.pt=y.pt∧x.kind=y.kind∧x.lane=y.lane∧x.os=y.os∧x.ds=y.ds:=by
 simp only[vD,Prod.mk.injEq]at h;exact h
theorem corOf_vD {x y:Dv}(h:vD x=vD y)(f:Bool)(d:Dt):corOf f x d=corOf f y d:=by
 obtain⟨_,_,h3,_,h5,h6⟩:=vD_parts h;unfold corOf clockN clockB worksB;rw[h3,h5,h6]
theorem corSn_vD {x y:Dv}(h:vD x=vD y)(d:Dt):corSn x d=corSn y d:=by
 obtain⟨_,h2,h3,h4,h5,_⟩:=vD_parts h;unfold corSn clockN clockB;rw[h2,h3,h4,h5]
def CorR (l:List Dv)(d:Dt)(w:World)(e:Ending)(w':World):Prop:=e=.returned (.tuple #[SnV (corS l d),.int .i64 (corW l d)])∧Below w.heap.size w w'
section
variable {x:Dv}{d:Dt}
theorem cor1 (f:Bool)(h:f=false):corOf f x d=1:=by unfold corOf;rw[if_pos h]
theorem cor3 (h:d.seq<0∨2147483648<d.seq∨d.sc<0∨1000<d.sc∨fitsB x.kind d=false):corOf true x d=3:=by unfold corOf;rw[if_neg (by simp),if_pos h]
theorem cor2 (h:¬(d.seq<0∨2147483648<d.seq∨d.sc<0∨1000<d.sc∨fitsB x.kind d=false))(h2:clockB x d.time=false):corOf true x d=2:=by unfold corOf;rw[if_neg (by simp),if_neg h,if_pos h2]
theorem cor5 (h:¬(d.seq<0∨2147483648<d.seq∨d.sc<0∨1000<d.sc∨fitsB x.kind d=false))(h2:clockB x d.time=true)(h3:worksB x (clockN x d.time)=false):corOf true x d=5:=by unfold corOf;rw[if_neg (by simp),if_neg h,if_neg (by rw[h2];simp),if_pos h3]
theorem cor0 (h:¬(d.seq<0∨2147483648<d.seq∨d.sc<0∨1000<d.sc∨fitsB x.kind d=false))(h2:clockB x d.time=true)(h3:worksB x (clockN x d.time)=true):corOf true x d=0:=by unfold corOf;rw[if_neg (by simp),if_neg h,if_neg (by rw[h2];simp),if_neg (by rw[h3];simp)]
end
theorem cor_end {l:List Dv}{d:Dt}{y:Dv}{k:Int}(hv:vD y=vD (corX l d)){f:Bool}(hf:(findD l d.dev).isSome=f)(hk:corOf f y d=k):corW l d=k∧(k≠0→corS l d=zeroSn)∧(k=0→corS l d=corSn y d):=by
 have e:corW l d=k:=by unfold corW;rw[hf,←corOf_vD hv];exact hk
 refine⟨e,fun h=> ?_,fun h=> ?_⟩
 ·unfold corS;rw[if_neg (by rw[e];exact h)]
 ·unfold corS;rw[if_pos (by rw[e];exact h),←corSn_vD hv]
end
section
open Go.RowKit Go.Lib
section
variable {α:Type}{f:α→α→Int}
def insR (f:α→α→Int)(x:α):List α→List α
 |[]=>[x]
 |y::l=>if f x y<0 then x::y::l else y::insR f x l
def insF (f:α→α→Int)(x:α)(l:List α):List α:=if l.any (fun y=>f x y==0)then l else insR f x l
def insStep (f:α→α→Int)(x:α)(s:List α×Bool)(y:α):List α×Bool:=if s.2=false∧f x y<0 then(s.1++[x]++[y],true)else(s.1++[y],s.2)
theorem insR_mem (x:α):∀(l:List α) (z:α),z∈insR f x l↔z=x∨z∈l
 |[],z=>by simp[insR]
 |y::l,z=>by
  unfold insR;split
  ·simp
  ·rw[List.mem_cons,insR_mem x l,List.mem_cons];constructor
   ·rintro(h|h|h)
    ·exact Or.inr (Or.inl h)
    ·exact Or.inl h
    ·exact Or.inr (Or.inr h)
   ·rintro(h|h|h)
    ·exact Or.inr (Or.inl h)
    ·exact Or.inl h
    ·exact Or.inr (Or.inr h)
theorem insR_asc (h:PreC f)(x:α):∀(l:List α),AscC f l→(∀y∈l,f x y≠0)→AscC f (insR f x l)
 |[],_,_=>by unfold insR AscC;simp
 |y::l,hl,hn=>by
  have hl':=List.pairwise_cons.1 hl;unfold insR;split
  ·rename_i q;refine List.pairwise_cons.2 ⟨fun z hz=> ?_,hl⟩;rcases List.mem_cons.1 hz with e|e
   ·subst e;exact q
   ·exact h.t _ _ _ q (hl'.1 z e)
  ·rename_i q;refine List.pairwise_cons.2 ⟨fun z hz=> ?_,insR_asc h x l hl'.2 fun z hz=>hn z (by simp[hz])⟩;rcases(insR_mem x l z).1 hz with e|e
   ·subst e;have h1:=h.s z y;have h2:=hn y (by simp);omega
   ·exact hl'.1 z e
theorem insF_mem (hz:∀a b,f a b=0→a=b)(x:α)(l:List α)(z:α):z∈insF f x l↔z=x∨z∈l:=by
 unfold insF;split
 ·rename_i q;obtain⟨y,hy,e⟩:=List.any_eq_true.1 q;have:=hz x y (by simpa using e)
  subst this;exact⟨Or.inr,fun h=>h.elim (fun e=>e▸hy) id⟩
 ·exact insR_mem x l z
theorem insF_asc (h:PreC f)(x:α){l:List α}(hl:AscC f l):AscC f (insF f x l):=by
 unfold insF;split
 ·exact hl
 ·rename_i q;refine insR_asc h x l hl fun y hy e=>q ?_;exact List.any_eq_true.2 ⟨y,hy,by simp[e]⟩
end
def conB (ds:List Dt)(d:Dt):Bool:=ds.any fun e=>eqS e.dev d.dev&&(e.seq==d.seq&& !(cmpDt e d==0))
theorem conB_iff (ds:List Dt)(d:Dt):conB ds d=true↔∃e∈ds,e.dev=d.dev∧e.seq=d.seq∧e≠d:=by
 unfold conB;rw[List.any_eq_true];refine exists_congr fun e=>and_congr_right fun _=> ?_;rw[Bool.and_eq_true,Bool.and_eq_true,eqS_iff,beq_iff_eq,Bool.not_eq_true',beq_eq_false_iff_ne,ne_eq,cmpDt_zero]
def whyF (l:List Dv)(ds:List Dt)(d:Dt):Int:=if conB ds d=true then 4 else corW l d
def SiftOf (l:List Dv)(ds:List Dt)(S:List Sn)(R:List Rj):Prop:=
 AscC cmpSn S∧AscC cmpRj R∧(∀s,s∈S↔∃d∈ds,whyF l ds d=0∧s=corS l d)∧(∀r,r∈R↔∃d∈ds,whyF l ds d≠0∧r=⟨d,whyF l ds d⟩)
theorem conB_set {ds es:List Dt}(h:∀d,d∈ds↔d∈es)(d:Dt):conB ds d=conB es d:=by
 rw[Bool.eq_iff_iff,conB_iff,conB_iff];exact exists_congr fun e=>and_congr_left fun _=>h e
theorem whyF_set {l:List Dv}{ds es:List Dt}(h:∀d,d∈ds↔d∈es)(d:Dt):whyF l ds d=whyF l es d:=by unfold whyF;rw[conB_set h]
theorem SiftOf.eq {l:List Dv}{ds es:List Dt}(h:∀d,d∈ds↔d∈es){S S2:List Sn}{R R2:List Rj}(h1:SiftOf l ds S R)(h2:SiftOf l es S2 R2):S=S2∧R=R2:=by
 obtain⟨a1,a2,a3,a4⟩:=h1;obtain⟨b1,b2,b3,b4⟩:=h2;refine⟨AscC.eq cmpSn_pre a1 b1 fun s=> ?_,AscC.eq cmpRj_pre a2 b2 fun r=> ?_⟩
 ·rw[a3,b3];exact exists_congr fun d=>by rw[h d,whyF_set h d]
 ·rw[a4,b4];exact exists_congr fun d=>by rw[h d,whyF_set h d]
def siftStep (l:List Dv)(ds:List Dt)(p:List Sn×List Rj)(d:Dt):List Sn×List Rj:=
 if whyF l ds d≠0 then(p.1,insF cmpRj ⟨d,whyF l ds d⟩ p.2)else(insF cmpSn (corS l d) p.1,p.2)
def siftN (l:List Dv)(ds:List Dt)(k:Nat):List Sn×List Rj:=(ds.take k).foldl (siftStep l ds) ([],[])
theorem siftN_snoc (l:List Dv){ds:List Dt}{k:Nat}{d:Dt}(h:ds[k]? =some d):siftN l ds (k+1)=siftStep l ds (siftN l ds k) d:=by
 unfold siftN;rw[take_snoc h,List.foldl_append];rfl
theorem siftN_of (l:List Dv)(ds:List Dt):∀(k:Nat),AscC cmpSn (siftN l ds k).1∧AscC cmpRj (siftN l ds k).2∧(∀s,s∈(siftN l ds k).1↔∃d∈ds.take k,whyF l ds d=0∧s=corS l d)∧(∀r,r∈(siftN l ds k).2↔∃d∈ds.take k,whyF l ds d≠0∧r=⟨d,whyF l ds d⟩):=by
 intro k;induction k with
 |zero=>simp[siftN,AscC]
 |succ k ih=>
  by_cases hk:k<ds.length
  ·obtain⟨h1,h2,h3,h4⟩:=ih;have hx:=List.getElem?_eq_getElem hk;rw[siftN_snoc l hx,take_snoc hx];generalize ds[k]=d at*;unfold siftStep;by_cases hw:whyF l ds d≠0
   ·rw[if_pos hw];refine⟨h1,insF_asc cmpRj_pre _ h2,fun s=> ?_,fun r=> ?_⟩
    ·simp only;rw[h3];constructor
     ·rintro⟨e,he,q⟩;exact⟨e,List.mem_append_left _ he,q⟩
     ·rintro⟨e,he,q1,q2⟩;rcases List.mem_append.1 he with he|he
      ·exact⟨e,he,q1,q2⟩
      ·rw[List.mem_singleton]at he;subst he;exact absurd q1 hw
    ·simp only;rw[insF_mem (fun a b=>cmpRj_zero.1),h4];constructor
     ·rintro(rfl|⟨e,he,q⟩)
      ·exact⟨d,by simp,hw,rfl⟩
      ·exact⟨e,List.mem_append_left _ he,q⟩
     ·rintro⟨e,he,q1,q2⟩;rcases List.mem_append.1 he with he|he
      ·exact Or.inr ⟨e,he,q1,q2⟩
      ·rw[List.mem_singleton]at he;subst he;exact Or.inl q2
   ·rw[if_neg hw];refine⟨insF_asc cmpSn_pre _ h1,h2,fun s=> ?_,fun r=> ?_⟩
    ·simp only;rw[insF_mem (fun a b=>cmpSn_zero.1),h3];constructor
     ·rintro(rfl|⟨e,he,q⟩)
      ·exact⟨d,by simp,by omega,rfl⟩
      ·exact⟨e,List.mem_append_left _ he,q⟩
     ·rintro⟨e,he,q1,q2⟩;rcases List.mem_append.1 he with he|he
      ·exact Or.inr ⟨e,he,q1,q2⟩
      ·rw[List.mem_singleton]at he;subst he;exact Or.inl q2
    ·simp only;rw[h4];constructor
     ·rintro⟨e,he,q⟩;exact⟨e,List.mem_append_left _ he,q⟩
     ·rintro⟨e,he,q1,q2⟩;rcases List.mem_append.1 he with he|he
      ·exact⟨e,he,q1,q2⟩
      ·rw[List.mem_singleton]at he;subst he;exact absurd q1 hw
  ·have e1:siftN l ds (k+1)=siftN l ds k:=by
    unfold siftN;rw[List.take_of_length_le (by omega),List.take_of_length_le (by omega)]
   have e2:ds.take (k+1)=ds.take k:=by rw[List.take_of_length_le (by omega),List.take_of_length_le (by omega)]
   rw[e1,e2];exact ih
theorem siftN_all (l:List Dv)(ds:List Dt):SiftOf l ds (siftN l ds ds.length).1 (siftN l ds ds.length).2:=by
 have:=siftN_of l ds ds.length
 rwa [List.take_length]at this
end
section
open Go.RowKit Go.Lib
theorem Rd.sn {w:World}{B:Nat}{A:Option Addr}{l:List Sn}(h:Rd encSn 11 w B A l){i:Nat}(hi:i<l.length):
  ∃b off x,A=some ⟨b,off,none⟩∧b<B∧l[i]? =some x∧w.cell? ⟨b,off+i*11,none⟩=some (.string x.d.dev)∧w.cell? ⟨b,off+i*11+1,none⟩=some (.int .i64 x.d.seq)∧w.cell? ⟨b,off+i*11+2,none⟩=some (.int .i64 x.d.time)∧w.cell? ⟨b,off+i*11+3,none⟩=some (.string x.d.tag)∧w.cell? ⟨b,off+i*11+4,none⟩=some (.string x.d.pl)∧w.cell? ⟨b,off+i*11+5,none⟩=some (.int .i64 x.d.ax)∧w.cell? ⟨b,off+i*11+6,none⟩=some (.int .i64 x.d.sc)∧w.cell? ⟨b,off+i*11+7,none⟩=some (.int .i64 x.t)∧w.cell? ⟨b,off+i*11+8,none⟩=some (.string x.pt)∧w.cell? ⟨b,off+i*11+9,none⟩=some (.int .i64 x.lane)∧w.cell? ⟨b,off+i*11+10,none⟩=some (.int .i64 x.kind):=by
 obtain⟨b,off,x,hA,hb,hx,hc⟩:=h.at_ hi;exact⟨b,off,x,hA,hb,hx,hc 0 _ rfl,hc 1 _ rfl,hc 2 _ rfl,hc 3 _ rfl,hc 4 _ rfl,hc 5 _ rfl,hc 6 _ rfl,hc 7 _ rfl,hc 8 _ rfl,hc 9 _ rfl,hc 10 _ rfl⟩
theorem Rd.rj {w:World}{B:Nat}{A:Option Addr}{l:List Rj}(h:Rd encRj 8 w B A l){i:Nat}(hi:i<l.length):
  ∃b off x,A=some ⟨b,off,none⟩∧b<B∧l[i]? =some x∧w.cell? ⟨b,off+i*8,none⟩=some (.string x.d.dev)∧w.cell? ⟨b,off+i*8+1,none⟩=some (.int .i64 x.d.seq)∧w.cell? ⟨b,off+i*8+2,none⟩=some (.int .i64 x.d.time)∧w.cell? ⟨b,off+i*8+3,none⟩=some (.string x.d.tag)∧w.cell? ⟨b,off+i*8+4,none⟩=some (.string x.d.pl)∧w.cell? ⟨b,off+i*8+5,none⟩=some (.int .i64 x.d.ax)∧w.cell? ⟨b,off+i*8+6,none⟩=some (.int .i64 x.d.sc)∧w.cell? ⟨b,off+i*8+7,none⟩=some (.int .i64 x.why):=by
 obtain⟨b,off,x,hA,hb,hx,hc⟩:=h.at_ hi;exact⟨b,off,x,hA,hb,hx,hc 0 _ rfl,hc 1 _ rfl,hc 2 _ rfl,hc 3 _ rfl,hc 4 _ rfl,hc 5 _ rfl,hc 6 _ rfl,hc 7 _ rfl⟩
theorem Rd.dt {w:World}{B:Nat}{A:Option Addr}{l:List Dt}(h:Rd encDt 7 w B A l){i:Nat}(hi:i<l.length):
  ∃b off x,A=some ⟨b,off,none⟩∧b<B∧l[i]? =some x∧w.cell? ⟨b,off+i*7,none⟩=some (.string x.dev)∧w.cell? ⟨b,off+i*7+1,none⟩=some (.int .i64 x.seq)∧w.cell? ⟨b,off+i*7+2,none⟩=some (.int .i64 x.time)∧w.cell? ⟨b,off+i*7+3,none⟩=some (.string x.tag)∧w.cell? ⟨b,off+i*7+4,none⟩=some (.string x.pl)∧w.cell? ⟨b,off+i*7+5,none⟩=some (.int .i64 x.ax)∧w.cell? ⟨b,off+i*7+6,none⟩=some (.int .i64 x.sc):=by
 obtain⟨b,off,x,hA,hb,hx,hc⟩:=h.at_ hi;exact⟨b,off,x,hA,hb,hx,hc 0 _ rfl,hc 1 _ rfl,hc 2 _ rfl,hc 3 _ rfl,hc 4 _ rfl,hc 5 _ rfl,hc 6 _ rfl⟩
end
section
open Go.RowKit Go.Lib
def srcOf (d:Dt):Src:=(d.dev,d.seq)
def isSrc (s:Src)(d:Dt):Bool:=eqS d.dev s.1&&d.seq==s.2
theorem isSrc_iff (s:Src)(d:Dt):isSrc s d=true↔srcOf d=s:=by
 unfold isSrc srcOf;rw[Bool.and_eq_true,eqS_iff,beq_iff_eq];constructor
 ·rintro⟨h1,h2⟩;exact Prod.ext h1 h2
 ·rintro rfl;exact⟨rfl,rfl⟩
def cntS (l:List Dt)(s:Src):Int:=((l.countP (isSrc s):Nat):Int)
theorem cntS_same {l:List Dt}{k:Nat}{d:Dt}(h:l[k]? =some d):cntS (l.take (k+1)) (srcOf d)=cntS (l.take k) (srcOf d)+1:=by
 unfold cntS;rw[take_snoc h,List.countP_append,List.countP_singleton,if_pos ((isSrc_iff _ _).2 rfl)];omega
theorem cntS_other {l:List Dt}{k:Nat}{d:Dt}(h:l[k]? =some d)(s:Src)(hs:s≠srcOf d):cntS (l.take (k+1)) s=cntS (l.take k) s:=by
 unfold cntS;rw[take_snoc h,List.countP_append,List.countP_singleton,if_neg (fun q=>hs ((isSrc_iff _ _).1 q).symm)];omega
theorem cntS_le (l:List Dt)(k:Nat)(s:Src):0≤cntS (l.take k) s∧cntS (l.take k) s≤(k:Int):=by
 unfold cntS;have h1:=List.countP_le_length (p:=isSrc s) (l:=l.take k);rw[List.length_take]at h1;omega
theorem cntS_conf {l ds:List Dt}(hm:∀d,d∈l↔d∈ds)(ha:AscC cmpDt l){d:Dt}(hd:d∈l):(decide (1<cntS l (srcOf d)))=conB ds d:=by
 have hnd:l.Pairwise (fun a b=>a≠b):=ha.imp fun{a b} h e=>by subst e;have:=cmpDt_zero.2 (rfl:a=a);omega
 rw[Bool.eq_iff_iff,decide_eq_true_eq,conB_iff];unfold cntS;rw[List.countP_eq_length_filter];have hf:(l.filter (isSrc (srcOf d))).Pairwise (fun a b=>a≠b):=hnd.filter _;have hdf:d∈l.filter (isSrc (srcOf d)):=List.mem_filter.2 ⟨hd,(isSrc_iff _ _).2 rfl⟩;have hmf:∀e,e∈l.filter (isSrc (srcOf d))↔e∈ds∧e.dev=d.dev∧e.seq=d.seq:=fun e=>by
  rw[List.mem_filter,isSrc_iff,hm];exact and_congr_right fun _=>⟨fun h=>⟨congrArg Prod.fst h,congrArg Prod.snd h⟩,fun h=>Prod.ext h.1 h.2⟩
 generalize l.filter (isSrc (srcOf d))=f at*;match f,hf,hdf,hmf with
 |[],_,hdf,_=>simp at hdf
 |[x],_,hdf,hmf=>
  constructor
  ·intro h;simp at h
  ·rintro⟨e,he,h1,h2,h3⟩;have:=(hmf e).2 ⟨he,h1,h2⟩
   rw[List.mem_singleton]at this hdf;exact absurd (this.trans hdf.symm) h3
 |x::y::r,hf,hdf,hmf=>
  constructor
  ·intro _;have hxy:x≠y:=(List.pairwise_cons.1 hf).1 y (by simp);by_cases e:x=d
   ·have:=(hmf y).1 (by simp)
    exact⟨y,this.1,this.2.1,this.2.2,fun h=>hxy (e.trans h.symm)⟩
   ·have:=(hmf x).1 (by simp)
    exact⟨x,this.1,this.2.1,this.2.2,e⟩
  ·intro _;simp only[List.length_cons];omega
end
def emp (s:ByteArray):Bool:=eqS s ⟨#[]⟩
theorem emp_iff (s:ByteArray):emp s=true↔s=⟨#[]⟩:=eqS_iff s _
theorem toList_neE {a:ByteArray}(h:emp a=false):¬a.toList=[]∧a.toList.isEmpty=false∧(a.toList==[])=false:=by
 have h0:¬a=⟨#[]⟩:=fun q=>by rw[(emp_iff a).2 q]at h;cases h
 have h1:¬a.toList=[]:=by
  intro q;apply h0
  rw[ByteArray.toList_eq]at q;cases a;simp only[ByteArray.mk.injEq]
  exact Array.toList_eq_nil_iff.1 q
 cases q:a.toList with
 |nil=>exact absurd q h1
 |cons _ _=>exact⟨by simp,rfl,rfl⟩
theorem toList_eE {a:ByteArray}(h:emp a=true):a.toList=[]∧a.toList.isEmpty=true∧(a.toList==[])=true:=by
 obtain rfl:=(emp_iff a).1 h;have:(⟨#[]⟩:ByteArray).toList=[]:=by rw[ByteArray.toList_eq]
 rw[this];exact⟨rfl,rfl,rfl⟩
end Go.Proofs.YtimffppffbideaaGreatDoor
