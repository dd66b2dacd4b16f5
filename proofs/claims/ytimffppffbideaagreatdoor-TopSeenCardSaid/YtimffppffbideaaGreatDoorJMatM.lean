import Derived.Test.YtimffppffbideaaGreatDoorJSpanMath
set_option linter.unusedSimpArgs false
set_option linter.unusedVariables false
namespace Go.Proofs.YtimffppffbideaaGreatDoor
namespace Mat
structure M where
 row:List Int
 col:List Int
 cost:List (List Int)
def M.c (m:M)(i j:Nat):Int:=(m.cost.getD i []).getD j 0
def M.n (m:M):Nat:=m.row.length
def choices (k:Nat):List Int:=(List.range k).map Int.ofNat++[-1]
def allowed (m:M)(fixed:List Int)(i:Nat)(j:Int)(mask:Nat):Bool:=
 (fixed.getD i 0== -2||fixed.getD i 0==j)&&(decide (j<0)||(!mask.testBit j.toNat&&decide (0≤m.c i j.toNat)))
def stepC (m:M)(i:Nat)(j:Int):Int:=if j<0 then m.row.getD i 0 else m.c i j.toNat
def stepM (j:Int)(mask:Nat):Nat:=if j<0 then mask else mask|||2^j.toNat
def pick (b c r:Int):Int:=if r<0 then b else if b<0∨c+r<b then c+r else b
def fill (m:M)(fixed:List Int)(i mask:Nat)(next:Nat→Int)(l:List Int)(b:Int):Int:=
 l.foldl (fun b j=>if allowed m fixed i j mask then pick b (stepC m i j) (next (stepM j mask))else b) b
def last (m:M)(mask:Nat):Int:=((List.range m.col.length).map fun j=>if mask.testBit j then 0 else m.col.getD j 0).sum
def tab (m:M)(fixed:List Int):Nat→Nat→Int
 |0,mask=>last m mask
 |k+1,mask=>fill m fixed (m.n-(k+1)) mask (tab m fixed k) (choices m.col.length) (-1)
def good (m:M)(fixed:List Int)(k mask:Nat)(j:Int):Bool:=
 allowed m fixed (m.n-(k+1)) j mask&&(decide (0≤tab m fixed k (stepM j mask))&&
  decide (stepC m (m.n-(k+1)) j+tab m fixed k (stepM j mask)=tab m fixed (k+1) mask))
def firstFrom (m:M)(fixed:List Int):Nat→Nat→List Int
 |0,_=>[]
 |k+1,mask=>match (choices m.col.length).find? (good m fixed k mask)with
  |some j=>j::firstFrom m fixed k (stepM j mask)
  |none=>firstFrom m fixed k mask
def free (m:M):List Int:=List.replicate m.n (-2)
def best (m:M):List Int:=firstFrom m (free m) m.n 0
theorem fill_cons (m:M)(fixed:List Int)(i mask:Nat)(next:Nat→Int)(a:Int)(l:List Int)(b:Int):
  fill m fixed i mask next (a::l) b=fill m fixed i mask next l (if allowed m fixed i a mask then pick b (stepC m i a) (next (stepM a mask))else b):=rfl
theorem fill_from {m:M}{fixed:List Int}{i mask:Nat}{next:Nat→Int}:∀(l:List Int) (b:Int),
  (fill m fixed i mask next l b=b)∨∃j∈l,allowed m fixed i j mask=true∧0≤next (stepM j mask)∧stepC m i j+next (stepM j mask)=fill m fixed i mask next l b:=by
 intro l;induction l with
 |nil=>intro b;exact Or.inl rfl
 |cons a l ih=>
  intro b;rw[fill_cons];rcases ih (if allowed m fixed i a mask then pick b (stepC m i a) (next (stepM a mask))else b)with h|⟨j,hj,h1,h2,h3⟩
  ·rw[h];by_cases ha:allowed m fixed i a mask=true
   ·rw[if_pos ha];unfold pick;by_cases hr:next (stepM a mask)<0
    ·rw[if_pos hr];exact Or.inl rfl
    ·rw[if_neg hr];by_cases hb:b<0∨stepC m i a+next (stepM a mask)<b
     ·rw[if_pos hb];exact Or.inr ⟨a,List.mem_cons_self,ha,by omega,rfl⟩
     ·rw[if_neg hb];exact Or.inl rfl
   ·rw[if_neg ha];exact Or.inl rfl
  ·exact Or.inr ⟨j,List.mem_cons_of_mem _ hj,h1,h2,h3⟩
theorem pick_keep {b c r:Int}(hc:0≤c)(hb:0≤b):0≤pick b c r:=by
 unfold pick;split
 ·exact hb
 ·split<;>omega
theorem pick_new {b c r:Int}(hc:0≤c)(hr:0≤r):0≤pick b c r:=by
 unfold pick;rw[if_neg (by omega)];split<;>omega
theorem fill_pos {m:M}{fixed:List Int}{i mask:Nat}{next:Nat→Int}:∀(l:List Int) (b:Int),
  (∀j∈l,allowed m fixed i j mask=true→0≤stepC m i j)→
  (0≤b∨∃j∈l,allowed m fixed i j mask=true∧0≤next (stepM j mask))→0≤fill m fixed i mask next l b:=by
 intro l;induction l with
 |nil=>intro b _ h;rcases h with h|⟨j,hj,_⟩;exact h;exact absurd hj (by simp)
 |cons a l ih=>
  intro b hs h;rw[fill_cons];refine ih _ (fun j hj=>hs j (List.mem_cons_of_mem _ hj)) ?_;rcases h with h|⟨j,hj,h1,h2⟩
  ·left;split
   ·rename_i ha;exact pick_keep (hs a List.mem_cons_self ha) h
   ·exact h
  ·rcases List.mem_cons.mp hj with rfl|hj
   ·left;rw[if_pos h1];exact pick_new (hs j List.mem_cons_self h1) h2
   ·exact Or.inr ⟨j,hj,h1,h2⟩
structure Ok (m:M):Prop where
 row:∀c∈m.row,0≤c
 col:∀c∈m.col,0≤c
theorem getD_pos {l:List Int}(h:∀c∈l,0≤c)(i:Nat):0≤l.getD i 0:=by
 rw[List.getD_eq_getElem?_getD];cases hi:l[i]? with
 |none=>simp
 |some x=>simpa using h x (List.mem_of_getElem? hi)
theorem stepC_pos {m:M}(h:Ok m){fixed:List Int}{i mask:Nat}{j:Int}(ha:allowed m fixed i j mask=true):0≤stepC m i j:=by
 unfold stepC;split
 ·exact getD_pos h.row i
 ·rename_i hj;simp only[allowed,Bool.and_eq_true,Bool.or_eq_true,decide_eq_true_eq]at ha;rcases ha.2 with h'|h'
  ·exact absurd h' hj
  ·exact h'.2
theorem last_pos {m:M}(h:Ok m)(mask:Nat):0≤last m mask:=by
 unfold last;have:∀l:List Nat,0≤(l.map fun j=>if mask.testBit j then 0 else m.col.getD j 0).sum:=by
  intro l;induction l with
  |nil=>simp
  |cons a l ih=>
   rw[List.map_cons,List.sum_cons];have:0≤(if mask.testBit a then 0 else m.col.getD a 0):=by split;omega;exact getD_pos h.col a
   omega
 exact this _
theorem mem_choices {k:Nat}{j:Int}:j∈choices k↔j= -1∨(0≤j∧j<k):=by
 unfold choices;rw[List.mem_append,List.mem_map];constructor
 ·rintro(⟨x,hx,rfl⟩|h)
  ·rw[List.mem_range]at hx;right;simp only[Int.ofNat_eq_natCast];omega
  ·left;simpa using h
 ·rintro(h|⟨h0,h1⟩)
  ·right;simp[h]
  ·left;exact⟨j.toNat,by rw[List.mem_range];omega,by simp only[Int.ofNat_eq_natCast];omega⟩
theorem tab_good {m:M}{fixed:List Int}{k mask:Nat}(h:0≤tab m fixed (k+1) mask):
  ∃j∈choices m.col.length,good m fixed k mask j=true:=by
 rcases fill_from (m:=m) (fixed:=fixed) (i:=m.n-(k+1)) (mask:=mask) (next:=tab m fixed k) (choices m.col.length) (-1)with h'|⟨j,hj,h1,h2,h3⟩
 ·have:tab m fixed (k+1) mask= -1:=h'
  omega
 ·refine⟨j,hj,?_⟩;simp only[good,Bool.and_eq_true,decide_eq_true_eq];exact⟨h1,h2,h3⟩
theorem tab_free {m:M}(h:Ok m):∀(k mask:Nat),k≤m.n→0≤tab m (free m) k mask:=by
 intro k;induction k with
 |zero=>intro mask _;exact last_pos h mask
 |succ k ih=>
  intro mask hk;refine fill_pos _ _ (fun j _ ha=>stepC_pos h ha) (Or.inr ⟨-1,mem_choices.mpr (Or.inl rfl),?_,?_⟩)
  ·have:(free m).getD (m.n-(k+1)) 0= -2:=by
    rw[free,List.getD_eq_getElem?_getD,List.getElem?_replicate,if_pos (by omega)];rfl
   unfold allowed;rw[this];rfl
  ·exact ih _ (by omega)
def Asg (k:Nat):Nat→List Int→Prop
 |_,[]=>True
 |mask,j::l=>(j= -1∨(0≤j∧j<k∧mask.testBit j.toNat=false))∧Asg k (stepM j mask) l
theorem first_asg {m:M}{fixed:List Int}:∀(k mask:Nat),0≤tab m fixed k mask→
  (firstFrom m fixed k mask).length=k∧Asg m.col.length mask (firstFrom m fixed k mask):=by
 intro k;induction k with
 |zero=>intro mask _;exact⟨rfl,trivial⟩
 |succ k ih=>
  intro mask h;obtain⟨j,hj,hg⟩:=tab_good h;unfold firstFrom;cases hf:(choices m.col.length).find? (good m fixed k mask)with
  |none=>exact absurd hg (by simpa using List.find?_eq_none.mp hf j hj)
  |some x=>
   have hx:=List.find?_some hf;have hm:=List.mem_of_find?_eq_some hf;simp only[good,Bool.and_eq_true,decide_eq_true_eq]at hx;obtain⟨l1,l2⟩:=ih (stepM x mask) hx.2.1;refine⟨by simp only[List.length_cons,l1],?_,l2⟩;rcases mem_choices.mp hm with h0|⟨h0,h1⟩
   ·exact Or.inl h0
   ·refine Or.inr ⟨h0,h1,?_⟩;have:=hx.1
    simp only[allowed,Bool.and_eq_true,Bool.or_eq_true,decide_eq_true_eq,Bool.not_eq_true']at this;rcases this.2 with h'|h'
    ·omega
    ·exact h'.1
theorem best_asg {m:M}(h:Ok m):(best m).length=m.n∧Asg m.col.length 0 (best m):=
 first_asg m.n 0 (tab_free h m.n 0 (Nat.le_refl _))
theorem asg_new {k:Nat}:∀{l:List Int} {mask:Nat} {j:Int},Asg k mask l→j∈l→0≤j→j<k∧mask.testBit j.toNat=false:=by
 intro l;induction l with
 |nil=>intro _ _ _ h;exact absurd h (by simp)
 |cons a l ih=>
  intro mask j h hj h0;rcases List.mem_cons.mp hj with rfl|hj
  ·rcases h.1 with h'|h'
   ·omega
   ·exact h'.2
  ·have:=ih h.2 hj h0
   refine⟨this.1,?_⟩;have h2:=this.2;unfold stepM at h2;split at h2
   ·exact h2
   ·rw[Nat.testBit_or,Bool.or_eq_false_iff]at h2;exact h2.1
theorem asg_once {k:Nat}:∀{l:List Int} {mask:Nat},Asg k mask l→l.Pairwise (fun a b=>a=b→a<0):=by
 intro l;induction l with
 |nil=>intro _ _;exact List.Pairwise.nil
 |cons a l ih=>
  intro mask h;refine List.Pairwise.cons ?_ (ih h.2);intro b hb hab;subst hab;by_cases h0:0≤a
  ·have:=(asg_new h.2 hb h0).2
   unfold stepM at this;rw[if_neg (by omega),Nat.testBit_or,Nat.testBit_two_pow_self,Bool.or_true]at this;exact absurd this (by simp)
  ·omega
end Mat
namespace Mat
def beforeL:List Int→List Int→Bool
 |a::l,b::r=>if a≠b then decide (b<0)||(decide (0≤a)&&decide (a<b))else beforeL l r
 |_,_=>false
def fixAt (n:Nat)(b:List Int)(i:Nat)(j:Int):List Int:=b.take i++j::List.replicate (n-(i+1)) (-2)
structure Sec where
 found:List Int
 least:Int
 ok:Bool
def secStep (m:M)(b:List Int)(i:Nat)(s:Sec)(j:Int):Sec:=
 if j=b.getD i 0 then s else
  if 0≤tab m (fixAt m.n b i j) m.n 0∧(s.ok=false∨tab m (fixAt m.n b i j) m.n 0<s.least∨(tab m (fixAt m.n b i j) m.n 0=s.least∧beforeL (firstFrom m (fixAt m.n b i j) m.n 0) s.found=true))then
   ⟨firstFrom m (fixAt m.n b i j) m.n 0,tab m (fixAt m.n b i j) m.n 0,true⟩
  else s
def colsAll (k:Nat):List Int:= -1::(List.range k).map Int.ofNat
def secRow (m:M)(b:List Int)(s:Sec)(i:Nat):Sec:=(colsAll m.col.length).foldl (secStep m b i) s
def second (m:M):Sec:=(List.range (best m).length).foldl (secRow m (best m)) ⟨[],0,false⟩
theorem fixAt_len {n i:Nat}{b:List Int}{j:Int}(h:b.length=n)(hi:i<n):(fixAt n b i j).length=n:=by
 unfold fixAt;rw[List.length_append,List.length_take,List.length_cons,List.length_replicate];omega
structure Bnd (m:M)(B:Int):Prop where
 row:∀c∈m.row,0≤c∧c≤B
 col:∀c∈m.col,0≤c∧c≤B
 cost:∀i j,m.c i j≤B
theorem Bnd.ok {m:M}{B:Int}(h:Bnd m B):Ok m:=⟨fun c q=>(h.row c q).1,fun c q=>(h.col c q).1⟩
theorem getD_le {l:List Int}{B:Int}(hB:0≤B)(h:∀c∈l,0≤c∧c≤B)(i:Nat):l.getD i 0≤B:=by
 rw[List.getD_eq_getElem?_getD];cases hi:l[i]? with
 |none=>simpa using hB
 |some x=>simpa using(h x (List.mem_of_getElem? hi)).2
theorem last_le {m:M}{B:Int}(hB:0≤B)(h:Bnd m B)(mask:Nat):last m mask≤B*m.col.length:=by
 unfold last;have:∀l:List Nat,(l.map fun j=>if mask.testBit j then 0 else m.col.getD j 0).sum≤B*l.length:=by
  intro l;induction l with
  |nil=>simp
  |cons a l ih=>
   rw[List.map_cons,List.sum_cons,List.length_cons];have h1:(if mask.testBit a then 0 else m.col.getD a 0)≤B:=by split;exact hB;exact getD_le hB h.col a
   have h2:B*((l.length+1:Nat):Int)=B*l.length+B:=by rw[Int.natCast_add,Int.mul_add];simp
   omega
 have h1:=this (List.range m.col.length);rwa [List.length_range]at h1
theorem stepC_le {m:M}{B:Int}(hB:0≤B)(h:Bnd m B)(i:Nat)(j:Int):stepC m i j≤B:=by
 unfold stepC;split
 ·exact getD_le hB h.row i
 ·exact h.cost _ _
theorem tab_rng {m:M}{B:Int}(hB:0≤B)(h:Bnd m B)(fixed:List Int):∀k mask,-1≤tab m fixed k mask∧tab m fixed k mask≤B*(m.col.length+k):=by
 intro k;induction k with
 |zero=>intro mask;have h1:=last_pos h.ok mask;have h2:=last_le hB h mask;unfold tab;simp only[Int.natCast_zero,Int.add_zero];omega
 |succ k ih=>
  intro mask;have e:B*((m.col.length:Int)+((k+1:Nat):Int))=B*(m.col.length+k)+B:=by rw[Int.natCast_add,←Int.add_assoc,Int.mul_add];simp
  have hp:0≤B*((m.col.length:Int)+k):=Int.mul_nonneg hB (by omega);rcases fill_from (m:=m) (fixed:=fixed) (i:=m.n-(k+1)) (mask:=mask) (next:=tab m fixed k) (choices m.col.length) (-1)with h'|⟨j,hj,h1,h2,h3⟩
  ·have:tab m fixed (k+1) mask= -1:=h'
   omega
  ·have h3:stepC m (m.n-(k+1)) j+tab m fixed k (stepM j mask)=tab m fixed (k+1) mask:=h3;have h4:=ih (stepM j mask);have h5:=stepC_le hB h (m.n-(k+1)) j;have h6:=stepC_pos h.ok h1;omega
end Mat
section
namespace Mat
section
variable {α:Type}
def into (tk:List α→α→Bool)(s:α):List (List α)→List (List α)
 |[]=>[[s]]
 |g::l=>if tk g s=true then(g++[s])::l else g::into tk s l
def groups (tk:List α→α→Bool)(l:List α):List (List α):=l.foldl (fun out s=>into tk s out) []
theorem into_perm (tk:List α→α→Bool)(s:α):∀l:List (List α),(into tk s l).flatten.Perm (l.flatten++[s]):=by
 intro l;induction l with
 |nil=>exact List.Perm.refl _
 |cons g l ih=>
  unfold into;split
  ·simp only[List.flatten_cons,List.append_assoc];exact List.Perm.append_left g List.perm_append_comm
  ·simp only[List.flatten_cons,List.append_assoc];exact ih.append_left g
theorem into_ne (tk:List α→α→Bool)(s:α):∀l:List (List α),(∀g∈l,g≠[])→∀g∈into tk s l,g≠[]:=by
 intro l;induction l with
 |nil=>intro _ g hg;simp only[into,List.mem_singleton]at hg;subst hg;simp
 |cons a l ih=>
  intro h g hg;unfold into at hg;split at hg
  ·rcases List.mem_cons.mp hg with rfl|hg
   ·simp
   ·exact h g (List.mem_cons_of_mem _ hg)
  ·rcases List.mem_cons.mp hg with rfl|hg
   ·exact h g List.mem_cons_self
   ·exact ih (fun g hg=>h g (List.mem_cons_of_mem _ hg)) g hg
theorem groups_from (tk:List α→α→Bool):∀(l:List α) (out:List (List α)),(l.foldl (fun out s=>into tk s out) out).flatten.Perm (out.flatten++l):=by
 intro l;induction l with
 |nil=>intro out;simp
 |cons a l ih=>
  intro out;refine(ih _).trans ?_;refine((into_perm tk a out).append_right l).trans ?_;simp
theorem groups_perm (tk:List α→α→Bool)(l:List α):(groups tk l).flatten.Perm l:=by
 exact groups_from tk l []
theorem groups_ne (tk:List α→α→Bool)(l:List α):∀g∈groups tk l,g≠[]:=by
 have:∀(l:List α) (out:List (List α)),(∀g∈out,g≠[])→∀g∈l.foldl (fun out s=>into tk s out) out,g≠[]:=by
  intro l;induction l with
  |nil=>intro out h;exact h
  |cons a l ih=>intro out h;exact ih _ (into_ne tk a out h)
 exact this l [] (by simp)
def paired (ps:List (List α)):List (List α)→List Int→List (List α×List α)
 |g::gs,j::js=>(g,if j<0 then[]else ps.getD j.toNat [])::paired ps gs js
 |_,_=>[]
def aloneN (k:Nat)(js:List Int):List Nat:=(List.range k).filter (fun j=> !js.contains (Int.ofNat j))
def alone (ps:List (List α))(js:List Int):List (List α):=(aloneN ps.length js).map fun j=>ps.getD j []
def cols (js:List Int):List Nat:=(js.filter (fun j=>decide (0≤j))).map Int.toNat
theorem paired_perm (ps:List (List α)):∀(gs:List (List α)) (js:List Int),gs.length=js.length→
  ((paired ps gs js).flatMap fun v=>v.1++v.2).Perm (gs.flatten++(cols js).flatMap fun j=>ps.getD j []):=by
 intro gs;induction gs with
 |nil=>intro js h;cases js with
  |nil=>exact List.Perm.refl _
  |cons=>simp at h
 |cons g gs ih=>
  intro js h;cases js with
  |nil=>simp at h
  |cons j js=>
   have ih:=ih js (by simpa using h);unfold paired cols;by_cases hj:j<0
   ·rw[if_pos hj,List.filter_cons,if_neg (by simp;omega),List.flatMap_cons];simp only[List.append_nil,List.flatten_cons,List.append_assoc];exact ih.append_left g
   ·rw[if_neg hj,List.filter_cons,if_pos (by simp;omega),List.flatMap_cons];simp only[List.map_cons,List.flatMap_cons,List.flatten_cons,List.append_assoc];refine List.Perm.append_left g ?_;refine(ih.append_left _).trans ?_;rw[←List.append_assoc,←List.append_assoc];exact List.Perm.append_right _ List.perm_append_comm
theorem mem_cols {js:List Int}{j:Nat}:j∈cols js↔(Int.ofNat j)∈js:=by
 unfold cols;rw[List.mem_map];constructor
 ·rintro⟨x,hx,rfl⟩;rw[List.mem_filter,decide_eq_true_eq]at hx;have:Int.ofNat x.toNat=x:=by simp only[Int.ofNat_eq_natCast];omega
  rw[this];exact hx.1
 ·intro h;exact⟨Int.ofNat j,by rw[List.mem_filter];exact⟨h,by simp⟩,by simp⟩
theorem cols_nodup {k mask:Nat}{js:List Int}(h:Asg k mask js):(cols js).Nodup:=by
 have:=asg_once h
 unfold cols List.Nodup;rw[List.pairwise_map];have h2:=this.filter (fun j=>decide (0≤j));refine h2.imp_of_mem ?_;intro a b ha hb hab he;rw[List.mem_filter,decide_eq_true_eq]at ha hb;have:=hab (by omega)
 omega
theorem cols_lt {k mask:Nat}{js:List Int}(h:Asg k mask js){j:Nat}(hj:j∈cols js):j<k:=by
 have:=(asg_new h (mem_cols.mp hj) (by simp)).1
 simp only[Int.ofNat_eq_natCast]at this;omega
theorem nodup_perm [DecidableEq α]:∀{l r:List α},l.Nodup→r.Nodup→(∀a,a∈l↔a∈r)→l.Perm r:=by
 intro l r hl hr h;rw[List.perm_iff_count];intro a;rw[hl.count,hr.count];simp only[h a]
theorem cols_perm {k mask:Nat}{js:List Int}(h:Asg k mask js):(cols js++aloneN k js).Perm (List.range k):=by
 refine nodup_perm ?_ List.nodup_range ?_
 ·rw[List.nodup_append];refine⟨cols_nodup h,List.nodup_range.filter _,?_⟩;intro a ha b hb hab;subst hab;unfold aloneN at hb;rw[List.mem_filter]at hb;have:=mem_cols.mp ha
  simp only[Bool.not_eq_true',List.contains_eq_mem,decide_eq_false_iff_not]at hb;exact hb.2 this
 ·intro a;rw[List.mem_append];constructor
  ·rintro(h1|h1)
   ·rw[List.mem_range];exact cols_lt h h1
   ·unfold aloneN at h1;exact(List.mem_filter.mp h1).1
  ·intro h1;by_cases h2:(Int.ofNat a)∈js
   ·exact Or.inl (mem_cols.mpr h2)
   ·right;unfold aloneN;rw[List.mem_filter];exact⟨h1,by simpa[List.contains_eq_mem]using h2⟩
theorem range_flat (ps:List (List α)):((List.range ps.length).flatMap fun j=>ps.getD j [])=ps.flatten:=by
 rw[List.flatMap_def];congr 1;refine List.ext_getElem (by simp) ?_;intro i h1 h2;simp only[List.getElem_map,List.getElem_range];rw[List.getD_eq_getElem?_getD,List.getElem?_eq_getElem h2];rfl
theorem vehicles_perm {ps gs:List (List α)}{js:List Int}{mask:Nat}(h:gs.length=js.length)(ha:Asg ps.length mask js):
  (((paired ps gs js).flatMap fun v=>v.1++v.2)++(alone ps js).flatten).Perm (gs.flatten++ps.flatten):=by
 refine((paired_perm ps gs js h).append_right _).trans ?_;rw[List.append_assoc];refine List.Perm.append_left _ ?_;have h1:=(cols_perm ha).flatMap_right (fun j=>ps.getD j []);rw[List.flatMap_append,range_flat]at h1;have h2:(alone ps js).flatten=(aloneN ps.length js).flatMap fun j=>ps.getD j []:=by unfold alone;rw[List.flatMap_def]
 rw[h2];exact h1
end
end Mat
end
section
namespace Mat
section
variable {α κ:Type}[DecidableEq κ]
theorem count_same {l m:List κ}(hl:l.Nodup)(hm:m.Nodup)(h:∀k,k∈l↔k∈m)(a:κ):l.count a=m.count a:=by
 rw[hl.count,hm.count];simp only[h a]
theorem count_flat (key:α→κ)(a:κ):∀P:List (List α),(P.map fun g=>(g.map key).count a).sum=(P.flatten.map key).count a:=by
 intro P;induction P with
 |nil=>simp
 |cons g P ih=>simp only[List.map_cons,List.sum_cons,List.flatten_cons,List.map_append,List.count_append,ih]
theorem fate_source {key:α→κ}{f:List α→List κ}{P:List (List α)}{R S:List α}(h:(P.flatten++R).Perm S)(hk:(S.map key).Nodup)
  (hf:∀g∈P,(f g).Nodup∧∀k,k∈f g↔k∈g.map key) {x:α} (hx:x∈S) (hr:x∉R):(P.map fun g=>(f g).count (key x)).sum=1:=by
 have hp:((P.flatten++R).map key).Nodup:=(h.map key).nodup_iff.mpr hk;rw[List.map_append,List.nodup_append]at hp;have hx':x∈P.flatten:=by
  rcases List.mem_append.mp (h.mem_iff.mpr hx)with h1|h1
  ·exact h1
  ·exact absurd h1 hr
 have hg:∀g∈P,(g.map key).Nodup:=by
  intro g hg;refine List.Sublist.nodup (List.Sublist.map key ?_) hp.1;exact List.sublist_flatten_of_mem hg
 have e:(P.map fun g=>(f g).count (key x))=P.map fun g=>(g.map key).count (key x):=by
  refine List.map_congr_left fun g q=> ?_;exact count_same (hf g q).1 (hg g q) (hf g q).2 _
 rw[e,count_flat,hp.1.count,if_pos (List.mem_map_of_mem hx')]
theorem frames_perm {F:List (List α)}{P:List α→List (List α)}{R:List α→List α}{S:List α}(h:F.flatten.Perm S)(hF:∀g∈F,((P g).flatten++R g).Perm g):
  ((F.flatMap P).flatten++F.flatMap R).Perm S:=by
 refine List.Perm.trans ?_ h;clear h;induction F with
 |nil=>exact List.Perm.refl _
 |cons g F ih=>
  have ih:=ih (fun x hx=>hF x (List.mem_cons_of_mem _ hx));have hg:=hF g List.mem_cons_self;simp only[List.flatMap_cons,List.flatten_append,List.flatten_cons,List.append_assoc];refine List.Perm.trans (List.Perm.append_left _ ?_) ((hg.append ih).trans ?_|>fun q=>by simpa[List.append_assoc]using q)
  ·rw[←List.append_assoc,←List.append_assoc];exact List.perm_append_comm.append_right _
  ·exact List.Perm.refl _
end
end Mat
end
section
namespace Mat
section
variable {α:Type}
def spread:List Bool→List Int→List Int
 |[],_=>[]
 |true::l,j::js=>j::spread l js
 |true::l,[]=> -1::spread l []
 |false::l,js=> -1::spread l js
theorem spread_len:∀(l:List Bool) (js:List Int),(spread l js).length=l.length:=by
 intro l;induction l with
 |nil=>intro js;rfl
 |cons b l ih=>
  intro js;cases b with
  |false=>simp only[spread,List.length_cons,ih]
  |true=>cases js<;>simp only[spread,List.length_cons,ih]
theorem asg_none {k mask:Nat}{js:List Int}(h:Asg k mask js):Asg k mask (-1::js):=⟨Or.inl rfl,h⟩
theorem spread_asg {k:Nat}:∀(l:List Bool) (js:List Int) (mask:Nat),Asg k mask js→Asg k mask (spread l js):=by
 intro l;induction l with
 |nil=>intro js mask _;exact trivial
 |cons b l ih=>
  intro js mask h;cases b with
  |false=>exact asg_none (ih js mask h)
  |true=>cases js with
   |nil=>exact asg_none (ih [] mask h)
   |cons j js=>exact⟨h.1,ih js _ h.2⟩
theorem none_asg {k:Nat}:∀(n mask:Nat),Asg k mask (List.replicate n (-1)):=by
 intro n;induction n with
 |zero=>intro _;exact trivial
 |succ n ih=>intro mask;rw[List.replicate_succ];exact asg_none (ih mask)
theorem flat_parts {β:Type}(p:β→Bool)(F:β→List α)(l:List β):((l.filter p).flatMap F++(l.filter (fun x=> !p x)).flatMap F).Perm (l.flatMap F):=by
 rw[←List.flatMap_append];exact(List.filter_append_perm p l).flatMap_right F
theorem single_flat (l:List α):(l.map fun x=>[x]).flatten=l:=by
 induction l with
 |nil=>rfl
 |cons a l ih=>simp only[List.map_cons,List.flatten_cons,ih,List.singleton_append]
theorem flat_each {β:Type}{F G:β→List α}(h:∀x,(F x).Perm (G x)):∀l:List β,(l.map F).flatten.Perm (l.map G).flatten:=by
 intro l;induction l with
 |nil=>exact List.Perm.refl _
 |cons a l ih=>simp only[List.map_cons,List.flatten_cons];exact(h a).append ih
theorem divide_perm {f all srt:List α}(tk:List α→α→Bool)(tagG:List α→Bool)(loop:α→Bool)(h:all.Perm f)(hs:srt.Perm all):
  (((groups tk (srt.filter fun x=> !loop x)).filter tagG).flatten++((groups tk (srt.filter fun x=> !loop x)).filter fun g=> !tagG g).flatten++all.filter loop).Perm f:=by
 refine List.Perm.trans ?_ h;have h1:=flat_parts tagG (fun g:List α=>g) (groups tk (srt.filter fun x=> !loop x));simp only[List.flatMap_def,List.map_id_fun',id]at h1;refine(h1.append_right _).trans ?_;refine((groups_perm tk _).append_right _).trans ?_;refine((hs.filter _).append_right _).trans ?_;refine List.perm_append_comm.trans ?_;exact List.filter_append_perm loop all
end
end Mat
end
namespace Mat
def pairN (x:Nat):List Nat:=
 if x=48 then[79,68,81]else if x=49 then[73]else if x=50 then[90]else if x=53 then[83]else if x=56 then[66]else if x=54 then[71]else if x=85 then[86]else[]
def likeB (x y:UInt8):Bool:=(pairN x.toNat).contains y.toNat||(pairN y.toNat).contains x.toNat
def chgB (x y:UInt8):Int:=if x=y then 0 else if likeB x y=true then 1 else 3
theorem chgB_rng (x y:UInt8):0≤chgB x y∧chgB x y≤3:=by unfold chgB;split;omega;split<;>omega
def nxtD (row:Nat→Int)(x:UInt8)(b:ByteArray)(i:Nat):Nat→Int
 |0=>3*((i:Int)+1)
 |j+1=>min (min (row j+chgB x (b.get! j)) (row (j+1)+3)) (nxtD row x b i j+3)
def rowD (a b:ByteArray):Nat→Nat→Int
 |0,j=>3*(j:Int)
 |i+1,j=>nxtD (rowD a b i) (a.get! i) b i j
def distS (a b:ByteArray):Int:=rowD a b (min a.size 32) (min b.size 32)
theorem nxtD_rng {row:Nat→Int}{x:UInt8}{b:ByteArray}{i:Nat}(h:∀j,0≤row j∧row j≤3*((i:Int)+j)):∀j,0≤nxtD row x b i j∧nxtD row x b i j≤3*((i:Int)+1+j):=by
 intro j;induction j with
 |zero=>unfold nxtD;omega
 |succ j ih=>
  unfold nxtD;have h0:=h j;have h1:=h (j+1);have h2:=chgB_rng x (b.get! j);omega
theorem rowD_rng (a b:ByteArray):∀i j,0≤rowD a b i j∧rowD a b i j≤3*((i:Int)+j):=by
 intro i;induction i with
 |zero=>intro j;unfold rowD;omega
 |succ i ih=>
  intro j;have:=nxtD_rng (x:=a.get! i) (b:=b) ih j
  unfold rowD;omega
theorem distS_rng (a b:ByteArray):0≤distS a b∧distS a b≤192:=by
 have:=rowD_rng a b (min a.size 32) (min b.size 32)
 unfold distS;omega
def sameB (a b:ByteArray):Bool:=decide (distS a b≤2)
def wOne (n:Int):Int:=max 0 (min n 1000)
theorem wOne_rng (n:Int):0≤wOne n∧wOne n≤1000:=by unfold wOne;omega
def wSum (l:List (ByteArray×Int))(p:ByteArray):Int:=(l.map fun x=>if x.1=p then wOne x.2 else 0).sum
theorem wSum_rng (l:List (ByteArray×Int))(p:ByteArray):0≤wSum l p∧wSum l p≤1000*l.length:=by
 unfold wSum;induction l with
 |nil=>simp
 |cons a l ih=>
  rw[List.map_cons,List.sum_cons,List.length_cons];have:=wOne_rng a.2
  split<;>omega
def vSum (w:ByteArray→Int)(s:ByteArray)(l:List ByteArray):Int:=l.foldl (fun n p=>if 0<w p then n+w p*distS s p else n) 0
theorem vSum_from {w:ByteArray→Int}{s:ByteArray}{B:Int}(hw:∀p,0≤w p∧w p≤B):∀(l:List ByteArray) (n:Int),0≤n→
  0≤l.foldl (fun n p=>if 0<w p then n+w p*distS s p else n) n∧l.foldl (fun n p=>if 0<w p then n+w p*distS s p else n) n≤n+192*B*l.length:=by
 intro l;induction l with
 |nil=>intro n h;simp;exact h
 |cons p l ih=>
  intro n hn;rw[List.foldl_cons,List.length_cons];have h1:=hw p;have h2:=distS_rng s p;have h3:0≤w p*distS s p:=Int.mul_nonneg h1.1 h2.1;have h4:w p*distS s p≤B*192:=Int.mul_le_mul h1.2 h2.2 h2.1 (by omega);have h5:192*B*((l.length+1:Nat):Int)=192*B*l.length+192*B:=by
   rw[Int.natCast_add,Int.mul_add];simp
  split
  ·have:=ih (n+w p*distS s p) (by omega)
   omega
  ·have:=ih n hn
   omega
def vBest (w:ByteArray→Int)(all:List ByteArray)(l:List ByteArray):ByteArray×Int:=
 l.foldl (fun r s=>if r.2<0∨vSum w s all<r.2 then(s,vSum w s all)else r) (⟨#[]⟩,-1)
end Mat
section
open Go.RowKit Go.Lib
section
variable {α:Type}{enc:α→List Value}{k:Nat}{A:Option Addr}{c:Nat}{l:List α}{P:Program}{t e bytes:Nat}
theorem wpList_app1a {w0:World}{ops:Array Oper}{rest:List Oper}{o:Oper}{a:Act}{Q:Exit→Act→World→Prop}(hgd:o.guard=none)(s y:Operand)
  (T:TyS P t e k bytes) (hE:Enc enc k)
  (ho:o.op=.call {callee:=.builtin .append,args:=#[s,y],argTypes:=#[t,t]})
  {cs:Array Value} (x:α) (hcs:cs.toList=enc x)
  (base:Nat) {n:Nat} (hs:a.eval s=.slice A n c) (hn:n=l.length) (hown:Own e enc k w0 base A c l)
  {g0:Nat} (hx:a.eval y=.slice (some ⟨g0,0,none⟩) 1 1) (hg0:w0.heap.size=g0)
  (hbytes:(l.length+1)*bytes≤140737488355328) (hmax:l.length≤8000000000000000000) (hbase:base≤w0.heap.size)
  (
   h:∀A' c' w',Own e enc k w' base A' c' (l++[x])→Below base w0 w'→w0.heap.size<w'.heap.size→(∀b,b<w0.heap.size→(∀g,A=some ⟨g,0,none⟩→b≠g)→w'.heap[b]? =w0.heap[b]?)→
   (∀g,A'=some ⟨g,0,none⟩→A=some ⟨g,0,none⟩∨w0.heap.size≤g)→wpList P ops Q rest (a.put o.dst (.slice A' (n+1) c')) w'):wpList P ops Q (o::rest) a (w0.alloc (.cells cs e)):=by
 subst hn;subst hg0;obtain⟨i,z,hi,hz,hsz,hby,hzs⟩:=T.info;refine wpList_append_own_at (w0.alloc (.cells cs e)) hgd s y t ho base e i z k bytes T.under hi hz hsz hby hzs T.pos (.slice A l.length c) l.length (l.flatMap enc) hs (hown.alloc _) ⟨w0.heap.size,0,none⟩ 1 1 ([x].flatMap enc) hx (by rw[flat_length hE];rfl) ?_ ?_ (by unfold maxLen;omega) hbytes (by simp;omega) ?_
 ·intro j u hu;have hadd:(⟨w0.heap.size,0,none⟩:Addr).add j=⟨w0.heap.size,j,none⟩:=by unfold Addr.add;split<;>simp_all
  rw[hadd,cell_of_row _ _ _ cs e (0,0) (heap_alloc_new w0 _)];simp only[List.flatMap_cons,List.flatMap_nil,List.append_nil]at hu;rw[←hcs]at hu;simpa using hu
 ·intro u hu;rw[List.mem_flatMap]at hu;obtain⟨y,_,hy⟩:=hu;exact hE.2 y u hy
 ·intro v' w' hown' hg _ hloc;obtain⟨A',c'',hv⟩:∃A' c'',v'=.slice A' (l.length+1) c'':=by
   rcases hown'.2 with⟨hv,h0⟩|⟨g,cap,cur,hv,_⟩
   ·exact⟨none,0,by rw[hv,h0]⟩
   ·exact⟨_,_,by rw[hv]⟩
  subst hv;have hgs:=hg.size;have hblk:∀b,b<w0.heap.size→(∀g,A=some ⟨g,0,none⟩→b≠g)→w'.heap[b]? =w0.heap[b]? :=fun b hb hne=>by
   refine(hg.block b (by simp;omega) fun hh=> ?_).trans ((World.grownBy_alloc w0 _ none).block b hb (by simp));cases A with
   |none=>simp[Value.ownBlock]at hh
   |some q=>
    rcases hown.form with⟨hA,_⟩|⟨g,hA,_⟩
    ·cases hA
    ·injection hA with hA;subst hA;simp[Value.ownBlock]at hh;exact hne g rfl hh
  refine h A' c'' w' ?_ ?_ (by simp at hgs;omega) hblk ?_
  ·unfold Own;rw[←List.flatMap_append]at hown';rw[show(l++[x]).length=l.length+1 by simp];exact hown'
  ·refine((Below.refl base w0).alloc hbase _).trans ((Below.refl base _).grown hg (by simp;omega) fun g hgo=> ?_);exact(World.ownsRow.lt (World.ownsRow.alloc hown (.cells cs e)) g (by rw[hgo])).1
  ·intro g hA;subst hA;simp only[Value.ownBlock]at hloc;cases A with
   |none=>right;simp at hloc;omega
   |some q=>
    rcases hown.form with⟨hA,_⟩|⟨g',hA,_⟩
    ·cases hA
    ·injection hA with hA;subst hA;simp at hloc;rcases hloc with q|q
     ·left;rw[q]
     ·right;omega
def Ap (A B:Option Addr):Prop:=∀g,A=some ⟨g,0,none⟩→B≠some ⟨g,0,none⟩
theorem Ap.symm {A B:Option Addr}(h:Ap A B):Ap B A:=fun g h1 h2=>h g h2 h1
theorem Ap.moved {A A' B:Option Addr}{c:Nat}{l:List α}{base:Nat}{w:World}(h:Ap A B)(ho:Own e enc k w base B c l)(hl:∀g,A'=some ⟨g,0,none⟩→A=some ⟨g,0,none⟩∨w.heap.size≤g):Ap A' B:=by
 intro g h1 h2;rcases hl g h1 with q|q
 ·exact h g q h2
 ·exact ho.ne q g h2 rfl
theorem Ap.keep {A B:Option Addr}{c:Nat}{l:List α}{base:Nat}{w w':World}(h:Ap A B)(ho:Own e enc k w base B c l)(hf:∀b,b<w.heap.size→(∀g,A=some ⟨g,0,none⟩→b≠g)→w'.heap[b]? =w.heap[b]?):Own e enc k w' base B c l:=
 ho.keepB fun g hg hl=>hf g hl fun g' e q=>h g' e (by rw[hg,q])
theorem Own.exB {A:Option Addr}{c:Nat}{l:List α}{base:Nat}{w:World}(h:Own e enc k w base A c l)(hl:l≠[]):∃g,A=some ⟨g,0,none⟩∧base≤g∧g<w.heap.size:=by
 rcases h.form with⟨_,h2,_⟩|h2
 ·exact absurd h2 hl
 ·exact h2
end
end
end Go.Proofs.YtimffppffbideaaGreatDoor
