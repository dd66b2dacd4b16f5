import Derived.Test.YtimffppffbideaaGreatDoorJNest
set_option linter.unusedSimpArgs false
set_option linter.unusedVariables false
set_option maxRecDepth 100000
set_option maxHeartbeats 4000000
namespace Go.Proofs.YtimffppffbideaaGreatDoor
section
open Go.RowKit Go.Lib
structure BelX (t B:Nat)(w w':World):Prop where
 b:Below t w w'
 o:∀k,k<B→k≠t→w'.heap[k]? =w.heap[k]?
section
variable {t B:Nat}{w w' w'':World}
theorem BelX.refl (t B:Nat)(w:World):BelX t B w w:=⟨Below.refl _ _,fun _ _ _=>rfl⟩
theorem BelX.then (h:BelX t B w w'){B':Nat}(hb:Below B' w' w'')(hB:B≤B')(ht:t≤B'):BelX t B w w'':=
 ⟨h.b.trans (hb.mono ht),fun k hk hne=>(hb.block k (by omega)).trans (h.o k hk hne)⟩
theorem BelX.al (h:BelX t B w w')(hB:B≤w'.heap.size)(ht:t≤w'.heap.size)(o:Obj):BelX t B w (w'.alloc o):=h.then ((Below.refl _ w').al o) hB ht
theorem BelX.drewN (h:BelX t B w w')(n:Nat):BelX t B w (w'.drewN n):=⟨below_drewN h.b n,h.o⟩
theorem BelX.set (h:BelX t B w w')(i:Nat)(v:Value):BelX t B w (w'.setCell ⟨t,i,none⟩ v):=
 ⟨h.b.setCell (p:=⟨t,i,none⟩) (Nat.le_refl _) v,fun k hk hne=>(Below.heap_setCell w' ⟨t,i,none⟩ v k hne).trans (h.o k hk hne)⟩
theorem BelX.size (h:BelX t B w w'):w.heap.size≤w'.heap.size:=h.b.size
theorem BelX.mono (h:BelX t B w w'){B':Nat}(hB:B'≤B):BelX t B' w w':=⟨h.b,fun k hk hne=>h.o k (by omega) hne⟩
theorem BelX.trans (h:BelX t B w w')(h2:BelX t B w' w''):BelX t B w w'':=⟨h.b.trans h2.b,fun k hk hne=>(h2.o k hk hne).trans (h.o k hk hne)⟩
theorem BelX.cell (h:BelX t B w w'){p:Addr}(hp:p.block<B)(hne:p.block≠t):w'.cell? p=w.cell? p:=World.cell?_of_block (w:=w) (h.o p.block hp hne)
theorem BelX.blk (h:BelX t B w w'){b:Nat}{cs:Array Value}{e:TypeId}(hb:Blk w b cs e)(hB:b<B)(hne:b≠t):Blk w' b cs e:=(h.o b hB hne).trans hb
variable {α:Type}{e eo:Nat}{enc:α→List Value}{k base:Nat}{A:Option Addr}{c:Nat}{l:List α}{gs:List (Gp α)}
theorem _root_.Go.Proofs.YtimffppffbideaaGreatDoor.Own.keepX (h:Own e enc k w base A c l)(hX:BelX t B w w')(ht:t<base)(hB:w.heap.size≤B):Own e enc k w' base A c l:=
 h.keepB fun g hg hl=>hX.o g (by omega) (by have:=(h.lt2 hg).1;omega)
theorem _root_.Go.Proofs.YtimffppffbideaaGreatDoor.OwnG.keepX (h:OwnG eo e enc k w base A c gs)(hX:BelX t B w w')(ht:t<base)(hB:w.heap.size≤B):OwnG eo e enc k w' base A c gs:=
 ⟨h.out.keepX hX ht hB,fun g hg=>(h.ins g hg).keepX hX ht hB,h.ap⟩
theorem _root_.Go.Proofs.YtimffppffbideaaGreatDoor.Rd.keepX {B':Nat}(h:Rd enc k w t A l)(hX:BelX t B w w')(hB:t≤B'):Rd enc k w' B' A l:=(h.keep hX.b).more hB
end
end
section
open Go.RowKit Go.Lib Go.Sort
open Mat
theorem stab_sorted {α:Type}{f:α→α→Int}(h:PreC f){l r:List α}(q:StabOf (ltOf f) l r):r.Pairwise fun a b=>f a b≤0:=by
 obtain⟨t,_,hs,rfl⟩:=q;rw[List.pairwise_map];refine hs.imp fun{a b} hab=> ?_;rw[lexB_no]at hab;have:=of_decide_eq_false hab.1
 have:=h.s a.1 b.1
 omega
theorem sorted_uniq {α:Type}{f:α→α→Int}(h:PreC f)(hz:∀a b,f a b=0→a=b){l r:List α}(hp:l.Perm r)(hl:l.Pairwise fun a b=>f a b≤0)(hr:r.Pairwise fun a b=>f a b≤0):l=r:=by
 refine List.Perm.eq_of_pairwise (le:=fun a b=>f a b≤0) ?_ hl hr hp;intro a b _ _ h1 h2;have:=h.s a b
 exact hz a b (by omega)
theorem ord_uniq {α:Type}{f:α→α→Int}(h:PreC f)(hz:∀a b,f a b=0→a=b){l r:List α}(hp:r.Perm l)(hr:r.Pairwise fun a b=>f a b≤0):r=ordS (ltOf f) l:=
 sorted_uniq h hz (hp.trans (ordS_ok h.swo l).perm.symm) hr (stab_sorted h (ordS_ok h.swo l))
theorem ord_len {α:Type}{f:α→α→Int}(h:PreC f)(l:List α):(ordS (ltOf f) l).length=l.length:=(ordS_ok h.swo l).perm.length_eq
theorem srtS_len (l:List Sn):(srtS l).length=l.length:=ord_len cmpSn_pre l
end
section
open Go.RowKit Go.Lib
open Go.Maps (Keyed)
open Mat
theorem keyU8:Keyed Tryz.prog 5:=Go.Maps.int_keyed Tryz.underlying5
theorem wpList_insL {P:Program}{k e t:TypeId}{w:World}{b:Nat}{l:List (Value×Value)}{ops:Array Oper}{rest:List Oper}{o:Oper}{a:Act}{Q:Exit→Act→World→Prop}
  (hg:o.guard=none) (m x v:Operand) (hop:o.op=Op.insert t m x v) (K:Keyed P k) (ht:P.underlying t=some (.map k e)) (hm:a.eval m=.map (some b)) (hown:MapL P k w b l)
  (key val:Value) (kl:Lit) (hx:a.eval x=key) (hv:a.eval v=val) (hkey:keyOf P k key=some kl) (hno:∀p∈l,p.1≠key)
  (hK:∀w',MapL P k w' b (l++[(key,val)])→w.grownBy w' (some b)→wpList P ops Q rest (a.put o.dst undef) w'):
  wpList P ops Q (o::rest) a w:=by
 refine wpList_plain hg fun K' hK'=> ?_;obtain⟨w',hrun,r1,r2⟩:=hown.store_new K ht (val:=val) hkey hno;unfold Oper.wp;simp[execOp,hop,hm,hx,hv,hrun,Result.andThen];exact hK' _ _ (hK w' r1 r2)
def pairB (x:Nat):ByteArray:=
 if x=48 then⟨#[79,68,81]⟩else if x=49 then⟨#[73]⟩else if x=50 then⟨#[90]⟩else if x=53 then⟨#[83]⟩else if x=56 then⟨#[66]⟩else if x=54 then⟨#[71]⟩else if x=85 then⟨#[86]⟩else⟨#[]⟩
theorem index_mem (l:List UInt8)(c:UInt8):(0≤Lib.indexByte l c)↔c∈l:=by
 induction l with
 |nil=>simp[Lib.indexByte]
 |cons x l ih=>
  unfold Lib.indexByte;have:=Lib.indexByte_ge l c
  by_cases h:x=c
  ·simp[h]
  ·have h2:¬c=x:=fun e=>h e.symm;rw[List.mem_cons];simp only[h2,false_or,←ih];simp[h];omega
theorem pair_ix (x:Nat)(y:UInt8):decide (0≤Lib.indexByte (pairB x).data.toList y)=(pairN x).contains y.toNat:=by
 rw[Bool.eq_iff_iff,decide_eq_true_eq,index_mem];have e:(pairB x).data.toList.map UInt8.toNat=pairN x:=by
  unfold pairB pairN;split
  ·rfl
  ·split
   ·rfl
   ·split
    ·rfl
    ·split
     ·rfl
     ·split
      ·rfl
      ·split
       ·rfl
       ·split<;>rfl
 rw[←e,List.contains_iff_mem,List.mem_map];constructor
 ·intro h;exact⟨y,h,rfl⟩
 ·rintro⟨z,hz,hy⟩;have:z=y:=UInt8.toNat_inj.1 hy
  subst this;exact hz
def pairsL:List (Value×Value):=[(.int .u8 48,.string ⟨#[79,68,81]⟩),(.int .u8 49,.string ⟨#[73]⟩),(.int .u8 50,.string ⟨#[90]⟩),(.int .u8 53,.string ⟨#[83]⟩),(.int .u8 56,.string ⟨#[66]⟩),(.int .u8 54,.string ⟨#[71]⟩),(.int .u8 85,.string ⟨#[86]⟩)]
theorem key8 {x:Int}(h0:0≤x)(h1:x≤255):keyOf Tryz.prog 5 (.int .u8 x)=some (.int .u8 x):=by
 refine Go.Maps.keyOf_int_mk Tryz.underlying5 ?_;show(decide _&&decide _)=true
 rw[decide_eq_true (show IntKind.u8.min≤x from h0),decide_eq_true (show x≤IntKind.u8.max from h1)];rfl
theorem look_pairs {w:World}{b:Nat}(h:MapL Tryz.prog 5 w b pairsL)(x:Nat)(hx:x≤255):
  (Instr.lookup 279 (.map (some b)) (.int .u8 x) false).run Tryz.prog w=.ok (.string (pairB x)) w:=by
 have hk:=key8 (x:=x) (by omega) (by omega);have at_:∀s:ByteArray,(∃p∈pairsL,p.1=Value.int .u8 x)→(∀p∈pairsL,p.1=Value.int .u8 x→p.2=.string s)→(Instr.lookup 279 (.map (some b)) (.int .u8 x) false).run Tryz.prog w=.ok (.string s) w:=fun s h1 h2=>by
  simpa using h.look_at keyU8 Tryz.underlying279 hk h1 h2 false
 by_cases h1:x=48
 ·subst h1;exact at_ _ (by simp[pairsL]) (by simp[pairsL,pairB])
 by_cases h2:x=49
 ·subst h2;exact at_ _ (by simp[pairsL]) (by simp[pairsL,pairB])
 by_cases h3:x=50
 ·subst h3;exact at_ _ (by simp[pairsL]) (by simp[pairsL,pairB])
 by_cases h4:x=53
 ·subst h4;exact at_ _ (by simp[pairsL]) (by simp[pairsL,pairB])
 by_cases h5:x=56
 ·subst h5;exact at_ _ (by simp[pairsL]) (by simp[pairsL,pairB])
 by_cases h6:x=54
 ·subst h6;exact at_ _ (by simp[pairsL]) (by simp[pairsL,pairB])
 by_cases h7:x=85
 ·subst h7;exact at_ _ (by simp[pairsL]) (by simp[pairsL,pairB])
 ·have hz:(zeroValue 9).run Tryz.prog w=.ok (.string ⟨#[]⟩) w:=Tryz.zeroValue9 w;have:=h.look_no keyU8 Tryz.underlying279 hz hk (by simp only[pairsL,List.mem_cons,List.not_mem_nil,or_false];intro p hp;rcases hp with rfl|rfl|rfl|rfl|rfl|rfl|rfl<;>(simp;omega)) false
  rw[show pairB x=⟨#[]⟩ by unfold pairB;rw[if_neg h1,if_neg h2,if_neg h3,if_neg h4,if_neg h5,if_neg h6,if_neg h7]];simpa using this
theorem like_any (x y:UInt8)(w:World):Calls Tryz.prog 187 #[.int .u8 (x.toNat:Nat),.int .u8 (y.toNat:Nat)] w fun e w'=>e=.returned (.bool (likeB x y))∧Below w.heap.size w w':=by
 have CI:=hid (fun(s:ByteArray) (c:Int) (X:World)=>Any.strings_IndexByte Tryz.lay_ixb_f202 s c X);obtain⟨Y,hY⟩:∃Y,w.alloc (.map #[] 0)=Y:=⟨_,rfl⟩;have HM:MapL Tryz.prog 5 Y w.heap.size []:=by rw[←hY];exact MapL.made _ _ _
 have hbe:Below w.heap.size w Y:=by rw[←hY];exact(Below.refl _ w).al _
 have hx2:=x.toNat_lt;have hy2:=y.toNat_lt;have R:=hid (show likeB x y=(decide (0≤Lib.indexByte (pairB x.toNat).data.toList y)||decide (0≤Lib.indexByte (pairB y.toNat).data.toList x)) by unfold likeB;rw[pair_ix,pair_ix]);have hyt:((y.toNat:Nat):Int).toNat.toUInt8=y:=by simp
 have hxt:((x.toNat:Nat):Int).toNat.toUInt8=x:=by simp
 have CX:=CI.out (pairB x.toNat) (y.toNat:Nat);have CY:=CI.out (pairB y.toNat) (x.toNat:Nat);rw[hyt]at CX;rw[hxt]at CY;have CX:=hid CX;have CY:=hid CY;clear hyt hxt;obtain⟨a,ha⟩:∃a,x.toNat=a:=⟨_,rfl⟩;obtain⟨b,hb⟩:∃b,y.toNat=b:=⟨_,rfl⟩;rw[ha]at CX CY hx2 R ⊢;rw[hb]at CX CY hy2 R ⊢;have LX:=hid (fun(W:World) (B:Nat) (h:MapL Tryz.prog 5 W B pairsL)=>look_pairs h a (by omega));have LY:=hid (fun(W:World) (B:Nat) (h:MapL Tryz.prog 5 W B pairsL)=>look_pairs h b (by omega));obtain⟨i1,hi1⟩:∃i,Lib.indexByte (pairB a).data.toList y=i:=⟨_,rfl⟩;obtain⟨i2,hi2⟩:∃i,Lib.indexByte (pairB b).data.toList x=i:=⟨_,rfl⟩;rw[hi1]at CX R;rw[hi2]at CY R;clear hi1 hi2 ha hb hx2 hy2;have hmm:= @run_makeMap Tryz.prog;go_enter Tryz.func187,Tryz.ntmps187;go_wp2_with(first|(refine wpList_insL rfl _ _ _ rfl keyU8 Tryz.underlying279 (by rfl) HM (.int .u8 48) (.string ⟨#[79,68,81]⟩) _ (by rfl) (by rfl) (key8 (by omega) (by omega)) (by simp) ?_;intro wn HM hgn;have hbe:=below_store hbe hgn (by have:=hbe.size;omega) (Nat.le_refl _);clear hgn)|(refine wpList_insL rfl _ _ _ rfl keyU8 Tryz.underlying279 (by rfl) HM (.int .u8 49) (.string ⟨#[73]⟩) _ (by rfl) (by rfl) (key8 (by omega) (by omega)) (by simp) ?_;intro wn HM hgn;have hbe:=below_store hbe hgn (by have:=hbe.size;omega) (Nat.le_refl _);clear hgn)|(refine wpList_insL rfl _ _ _ rfl keyU8 Tryz.underlying279 (by rfl) HM (.int .u8 50) (.string ⟨#[90]⟩) _ (by rfl) (by rfl) (key8 (by omega) (by omega)) (by simp) ?_;intro wn HM hgn;have hbe:=below_store hbe hgn (by have:=hbe.size;omega) (Nat.le_refl _);clear hgn)|(refine wpList_insL rfl _ _ _ rfl keyU8 Tryz.underlying279 (by rfl) HM (.int .u8 53) (.string ⟨#[83]⟩) _ (by rfl) (by rfl) (key8 (by omega) (by omega)) (by simp) ?_;intro wn HM hgn;have hbe:=below_store hbe hgn (by have:=hbe.size;omega) (Nat.le_refl _);clear hgn)|(refine wpList_insL rfl _ _ _ rfl keyU8 Tryz.underlying279 (by rfl) HM (.int .u8 56) (.string ⟨#[66]⟩) _ (by rfl) (by rfl) (key8 (by omega) (by omega)) (by simp) ?_;intro wn HM hgn;have hbe:=below_store hbe hgn (by have:=hbe.size;omega) (Nat.le_refl _);clear hgn)|(refine wpList_insL rfl _ _ _ rfl keyU8 Tryz.underlying279 (by rfl) HM (.int .u8 54) (.string ⟨#[71]⟩) _ (by rfl) (by rfl) (key8 (by omega) (by omega)) (by simp) ?_;intro wn HM hgn;have hbe:=below_store hbe hgn (by have:=hbe.size;omega) (Nat.le_refl _);clear hgn)|((refine wpList_insL rfl _ _ _ rfl keyU8 Tryz.underlying279 (by rfl) HM (.int .u8 85) (.string ⟨#[86]⟩) _ (by rfl) (by rfl) (key8 (by omega) (by omega)) (by simp) ?_;intro wn HM hgn;have hbe:=below_store hbe hgn (by have:=hbe.size;omega) (Nat.le_refl _);clear hgn);have HMP:MapL Tryz.prog 5 wn w.heap.size pairsL:=HM;have la:=LX.out wn _ HMP;have lb:=LY.out wn _ HMP;have HB:=hid hbe;clear HM HMP hbe hY hmm))
 refine(CX.out _).mono ?_;rintro e w' ⟨rfl,hw'⟩;rw[hw'];clear hw' w';by_cases h1:0≤i1
 ·have RR:=hid (show _=true from R.out.trans (by simp[h1]));clear R;go_wp2_with fail
  go_ret;rw[RR.out];exact⟨rfl,HB.out⟩
 ·have RR:=hid (show _=decide (0≤i2)from R.out.trans (by simp[h1]));clear R;go_wp2_with fail
  refine(CY.out _).mono ?_;rintro e w' ⟨rfl,hw'⟩;rw[hw'];clear hw' w';go_wp2_with fail
  go_ret;rw[RR.out];exact⟨by simp;omega,HB.out⟩
theorem first_any (s:ByteArray)(hs:s.size≤32)(w:World):Calls Tryz.prog 186 #[.string s] w fun e w'=>e=.returned (.string s)∧w'=w:=by
 have R:=hid (show s.extract 0 (min (s.size:Int) 32).toNat=s by rw[show(min (s.size:Int) 32).toNat=s.size by omega];exact ByteArray.extract_zero_size);go_enter Tryz.func186,Tryz.ntmps186;go_wp2;go_ret;exact⟨by rw[R.out];rfl,rfl⟩
end
namespace Mat
def prt (f:Nat→Int)(m j:Nat):List Int:=(List.range m).map fun t=>if t<j then f t else 0
theorem prt_len (f:Nat→Int)(m j:Nat):(prt f m j).length=m:=by simp[prt]
theorem prt_at (f:Nat→Int){m j t:Nat}(h:t<m):(prt f m j)[t]? =some (if t<j then f t else 0):=by
 unfold prt;rw[List.getElem?_map,List.getElem?_range h];rfl
theorem prt_zero (f:Nat→Int)(m:Nat):List.replicate m 0=prt f m 0:=by
 refine List.ext_getElem? fun t=> ?_;by_cases h:t<m
 ·rw[prt_at f h,List.getElem?_replicate,if_pos h,if_neg (by omega)]
 ·rw[List.getElem?_eq_none (by simpa using h),List.getElem?_eq_none (by rw[prt_len];omega)]
theorem prt_set (f:Nat→Int){m j:Nat}(_h:j<m):(prt f m j).set j (f j)=prt f m (j+1):=by
 refine List.ext_getElem? fun t=> ?_;rw[List.getElem?_set];by_cases e:j=t
 ·subst e;rw[if_pos rfl,if_pos (by rw[prt_len];omega),prt_at f (by omega),if_pos (by omega)]
 ·rw[if_neg e];by_cases h2:t<m
  ·rw[prt_at f h2,prt_at f h2];by_cases h3:t<j
   ·rw[if_pos h3,if_pos (by omega)]
   ·rw[if_neg h3,if_neg (by omega)]
  ·rw[List.getElem?_eq_none (by rw[prt_len];omega),List.getElem?_eq_none (by rw[prt_len];omega)]
theorem prt_full (f:Nat→Int)(m:Nat):prt f m m=(List.range m).map f:=by
 unfold prt;refine List.map_congr_left fun t ht=> ?_;rw[List.mem_range]at ht;rw[if_pos ht]
theorem range_at (f:Nat→Int){m t:Nat}(h:t<m):((List.range m).map f)[t]? =some (f t):=by
 rw[List.getElem?_map,List.getElem?_range h];rfl
end Mat
section
open Go.RowKit Go.Lib
section
variable {α:Type}{e:Nat}{enc:α→List Value}{k:Nat}{w:World}{base:Nat}{A:Option Addr}{c:Nat}{l:List α}
theorem setCells_sz (b:Nat)(vs:List Value)(o:Nat)(w:World):(w.setCells b o vs).heap.size=w.heap.size:=by
 induction vs generalizing o w with
 |nil=>rfl
 |cons v vs ih=>exact(ih _ _).trans (by simp)
theorem setCells_other (b:Nat)(vs:List Value)(o:Nat)(w:World){n:Nat}(hn:n≠b):(w.setCells b o vs).heap[n]? =w.heap[n]? :=by
 induction vs generalizing o w with
 |nil=>rfl
 |cons v vs ih=>exact(ih _ _).trans (Below.heap_setCell w ⟨b,o,none⟩ v n hn)
theorem Below_setCs {B g:Nat}{w W:World}(h:Below B w W)(hg:B≤g)(o:Nat)(vs:List Value):Below B w (W.setCells g o vs):=by
 induction vs generalizing o W with
 |nil=>exact h
 |cons v vs ih=>exact ih (h.setCell (p:=⟨g,o,none⟩) hg v) _
theorem ownsRow_setCells {g n:Nat}{sz cp:Nat}:∀(vs:List Value) (o:Nat) {w:World} {xs:List Value},w.ownsRow base e sz (.slice (some ⟨g,0,none⟩) n cp) n xs→o+vs.length≤xs.length→(w.setCells g o vs).ownsRow base e sz (.slice (some ⟨g,0,none⟩) n cp) n (xs.take o++vs++xs.drop (o+vs.length))
 |[],o,w,xs,h,_=>by
  simp only[List.append_nil,List.length_nil,Nat.add_zero,List.take_append_drop];exact h
 |v::vs,o,w,xs,h,hl=>by
  have h1:=(World.ownsRow.stored h o v).1;simp only[List.length_cons]at hl;have h2:=ownsRow_setCells vs (o+1) h1 (by rw[List.length_set];omega);have e1:(xs.set o v).take (o+1)++vs++(xs.set o v).drop (o+1+vs.length)=xs.take o++(v::vs)++xs.drop (o+(vs.length+1)):=by
   rw[List.drop_set_of_lt (by omega),List.take_set,List.set_eq_take_append_cons_drop,if_pos (by rw[List.length_take];omega),List.take_take,List.drop_take];rw[show min o (o+1)=o by omega,show o+1-(o+1)=0 by omega,List.take_zero];simp only[List.append_assoc,List.cons_append,List.nil_append];rw[show o+1+vs.length=o+(vs.length+1) by omega]
  rw[e1]at h2;exact h2
end
end
section
open Go.RowKit Go.Lib
section
variable {α:Type}{e:Nat}{enc:α→List Value}{k:Nat}{w:World}{base:Nat}{A:Option Addr}{c:Nat}{l:List α}{P:Program}{t bytes:Nat}
theorem rd_flat (hE:Enc enc k)(k0:0<k){B:Nat}{b off:Nat}(h:Rd enc k w B (some ⟨b,off,none⟩) l):∀j v,(l.flatMap enc)[j]? =some v→w.cell? ((⟨b,off,none⟩:Addr).add j)=some v:=by
 intro j u hu;have e1:j/k*k+j%k=j:=by rw[Nat.mul_comm];exact Nat.div_add_mod j k
 have hjk:j%k<k:=Nat.mod_lt _ k0;have hfl:=flat_get hE l (j/k) (j%k) hjk;rw[e1,hu]at hfl;have hne:l≠[]:=by rintro rfl;simp at hu
 obtain⟨b',off',hA,_,hc⟩:=h hne;injection hA with hA;injection hA with hA1 hA2;subst hA1 hA2;cases hg:l[j/k]? with
 |none=>rw[hg]at hfl;simp at hfl
 |some x=>
  rw[hg]at hfl;simp only[Option.bind_some]at hfl;have:=hc (j/k) x hg (j%k) u hfl.symm
  rw[Nat.add_assoc,e1]at this;have hadd:(⟨b,off,none⟩:Addr).add j=⟨b,off+j,none⟩:=by unfold Addr.add;split<;>simp_all
  rw[hadd];exact this
theorem own_made (hE:Enc enc k)(k0:0<k){z:α}{Z:Value}(hz:Z.cells.toList=enc z){g n:Nat}(h:w.ownsRow base e k (.slice (some ⟨g,0,none⟩) n n) n (madeCells Z.cells (n*k)).toList):
  Own e enc k w base (some ⟨g,0,none⟩) n (List.replicate n z):=by
 have hzs:Z.cells.size=k:=by rw[←Array.length_toList,hz,hE.1]
 have he:(madeCells Z.cells (n*k)).toList=(List.replicate n z).flatMap enc:=by
  apply List.ext_getElem?
  intro j;by_cases hj:j<n*k
  ·have e1:j/k*k+j%k=j:=by rw[Nat.mul_comm];exact Nat.div_add_mod j k
   have hfl:=flat_get hE (List.replicate n z) (j/k) (j%k) (Nat.mod_lt _ k0);rw[e1]at hfl;have hjn:j/k<n:=by rw[Nat.div_lt_iff_lt_mul k0];exact hj
   have hjm:j%k<Z.cells.size:=by rw[hzs];exact Nat.mod_lt _ k0
   rw[hfl,List.getElem?_replicate,if_pos hjn,Option.bind_some,←hz];simp[madeCells,hj,hzs,Array.getElem?_eq_getElem hjm,getElem!_pos Z.cells (j%k) hjm]
  ·rw[List.getElem?_eq_none (by rw[Array.length_toList,size_madeCells];omega),List.getElem?_eq_none (by rw[flat_length hE,List.length_replicate];omega)]
 unfold Own;rw[List.length_replicate,←he];exact h
theorem wpList_makeZ {ops:Array Oper}{rest:List Oper}{o:Oper}{a:Act}{Q:Exit→Act→World→Prop}(hg:o.guard=none)(x y:Operand)(T:TyS P t e k bytes)(hE:Enc enc k)
  (hop:o.op=Op.makeSlice t x y) (base:Nat) (z:α) (Z0:Value) (hz:(P.info? e).bind (·.zero)=some Z0) (hZ0:Z0.cells.toList=enc z)
  (kl kc:IntKind) (n:Nat) (hl:a.eval x=.int kl (n:Int)) (hc:a.eval y=.int kc (n:Int)) (b2:bytes*n≤281474976710656) (b3:n≤100000000000) (b4:base≤w.heap.size)
  (h:∀w',Own e enc k w' base (some ⟨w.heap.size,0,none⟩) n (List.replicate n z)→Below w.heap.size w w'→w.heap.size<w'.heap.size→wpList P ops Q rest (a.put o.dst (.slice (some ⟨w.heap.size,0,none⟩) n n)) w'):
  wpList P ops Q (o::rest) a w:=by
 obtain⟨i,Z,hi,hz0,hsz,hby,hzs⟩:=T.info;rw[hi,Option.bind_some,hz0]at hz;injection hz with hz;refine wpList_make_full w hg x y t hop base e i Z k T.under hi hz0 hsz kl kc n n n hl hc rfl rfl (by rw[hby];exact b2) (by unfold maxLen;omega) b4 fun w' h1 h2=> ?_;refine h w' (own_made hE T.pos (by rw[hz];exact hZ0) h1) ?_ ?_
 ·exact(Below.refl _ w).grown h2 (Nat.le_refl _) fun g hg=>by cases hg
 ·have:=World.ownsRow.lt h1 w.heap.size (by simp[Value.ownBlock])
  exact this.2
end
end
end Go.Proofs.YtimffppffbideaaGreatDoor
