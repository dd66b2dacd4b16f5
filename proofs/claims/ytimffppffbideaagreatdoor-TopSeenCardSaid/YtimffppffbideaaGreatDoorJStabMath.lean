import Derived.Shelf.SlSortCmp.Insertion
import Derived.Lib.Bytealg
import Derived.WalkLawsBesides
import Derived.WalkSpells
import Derived.Lib.Hide
set_option linter.unusedSimpArgs false
set_option linter.unusedVariables false
namespace Go.Proofs.YtimffppffbideaaGreatDoor
section
open Go.Sort
section
variable {α:Type}[Inhabited α]
def lexB (lt:α→α→Bool)(x y:α×Nat):Bool:=lt x.1 y.1||(!lt y.1 x.1&&decide (x.2<y.2))
def fstB (lt:α→α→Bool)(x y:α×Nat):Bool:=lt x.1 y.1
variable {lt:α→α→Bool}
omit [Inhabited α] in
theorem lexB_iff (x y:α×Nat):lexB lt x y=true↔lt x.1 y.1=true∨(lt y.1 x.1=false∧x.2<y.2):=by simp[lexB]
omit [Inhabited α] in
theorem lexB_no (x y:α×Nat):lexB lt x y=false↔lt x.1 y.1=false∧(lt y.1 x.1=true∨y.2≤x.2):=by
 unfold lexB;cases lt x.1 y.1<;>cases lt y.1 x.1<;>simp
omit [Inhabited α] in
theorem lexB_swo (h:SWO lt):SWO (lexB lt) where
 irrefl x:=by rw[lexB_no];exact⟨h.irrefl _,.inr (Nat.le_refl _)⟩
 trans x y z a b:=by
  rw[lexB_iff]at a b ⊢;rcases a with a|⟨a1,a2⟩<;>rcases b with b|⟨b1,b2⟩
  ·exact .inl (h.trans _ _ _ a b)
  ·cases hxz:lt x.1 z.1
   ·exact absurd (h.ntrans _ _ _ hxz b1) (by rw[a];simp)
   ·exact .inl rfl
  ·cases hxz:lt x.1 z.1
   ·exact absurd (h.ntrans _ _ _ a1 hxz) (by rw[b];simp)
   ·exact .inl rfl
  ·exact .inr ⟨h.ntrans _ _ _ b1 a1,by omega⟩
 ntrans x y z a b:=by
  rw[lexB_no]at a b ⊢;refine⟨h.ntrans _ _ _ a.1 b.1,?_⟩;cases hzx:lt z.1 x.1
  ·right;have e1:lt y.1 x.1=false:=by
    cases e:lt y.1 x.1
    ·rfl
    ·exact absurd (h.ntrans _ _ _ b.1 hzx) (by rw[e];simp)
   have e2:lt z.1 y.1=false:=by
    cases e:lt z.1 y.1
    ·rfl
    ·exact absurd (h.ntrans _ _ _ hzx a.1) (by rw[e];simp)
   rcases a.2 with q|q
   ·rw[e1]at q;cases q
   ·rcases b.2 with r|r
    ·rw[e2]at r;cases r
    ·omega
  ·exact .inl rfl
omit [Inhabited α] in
theorem lexB_late {x y:α×Nat}(h:y.2<x.2):lexB lt x y=fstB lt x y:=by
 unfold lexB fstB;rw[show decide (x.2<y.2)=false by simp;omega];simp
omit [Inhabited α] in
theorem lex_flip (h:SWO lt){x y:α×Nat}(hxy:lexB lt x y=true):lexB lt y x=false:=(lexB_swo h).asymmA hxy
theorem insInner_lex {a:Nat}:∀(j:Nat) (d:Array (α×Nat)),j<d.size→(∀t,a≤t→t<j→d[t]!.2<d[j]!.2)→insInner (fstB lt) a j d=insInner (lexB lt) a j d
 |0,_,_,_=>rfl
 |j+1,d,hj,h=>by
  rw[insInner,insInner];by_cases ha:j+1>a
  ·have hl:=lexB_late (lt:=lt) (h j (by omega) (by omega));rw[hl];cases hc:fstB lt d[j+1]! d[j]!
   ·simp
   ·simp only[ha,decide_true,Bool.and_self,↓reduceIte];refine insInner_lex j (swp d (j+1) j) (by rw[size_swp];omega) fun t h1 h2=> ?_;rw[swp_other _ _ _ _ (by omega) (by omega),swp_right _ _ _ (by omega)];exact h t h1 (by omega)
  ·simp[ha]
theorem insOuter_lex (hS:SWO lt){a b:Nat}:∀(n i:Nat) (d:Array (α×Nat)),b-i=n→a≤i→b≤d.size→(∀s t,a≤s→s<t→i≤t→t<b→d[s]!.2<d[t]!.2)→insOuter (fstB lt) a b i d=insOuter (lexB lt) a b i d
 |0,i,d,hn,_,_,_=>by rw[insOuter_stop _ _ _ _ _ (by omega),insOuter_stop _ _ _ _ _ (by omega)]
 |n+1,i,d,hn,hai,hb,h=>by
  rw[insOuter_go _ _ _ _ _ (by omega:i<b),insOuter_go _ _ _ _ _ (by omega:i<b),insInner_lex i d (by omega) (fun t h1 h2=>h t i h1 h2 (Nat.le_refl _) (by omega))];have key:PermIn a (i+1) d (insInner (lexB lt) a i d):=by
   have:∀(j:Nat) (d:Array (α×Nat)),j≤i→b≤d.size→PermIn a (i+1) d (insInner (lexB lt) a j d):=by
    intro j;induction j with
    |zero=>intro d _ _;exact permIn_refl _ _ _
    |succ j ih=>
     intro d hj hd;rw[insInner];split
     ·rename_i hc;simp only[gt_iff_lt,Bool.and_eq_true,decide_eq_true_eq]at hc;refine permIn_trans _ _ _ _ _ (swp_permIn d a (i+1) (j+1) j (by omega) (by omega) (by omega) (by omega) (by omega)) (ih _ (by omega) (by rw[size_swp];exact hd))
     ·exact permIn_refl _ _ _
   exact this i d (Nat.le_refl _) hb
  refine insOuter_lex hS n (i+1) _ (by omega) (by omega) (by rw[key.1];exact hb) fun s t h1 h2 h3 h4=> ?_;rw[key.2.1 t (.inr (by omega))];by_cases hs:s<i+1
  ·exact permIn_all d _ a (i+1) (fun x=>x.2<d[t]!.2) (by omega) key (fun u h5 h6=>h u t h5 (by omega) (by omega) h4) s h1 hs
  ·rw[key.2.1 s (.inr (by omega))];exact h s t h1 h2 (by omega) h4
theorem insSort_lex (hS:SWO lt){a b:Nat}{d:Array (α×Nat)}(hab:a≤b)(hb:b≤d.size)(h:∀s t,a≤s→s<t→t<b→d[s]!.2<d[t]!.2):
  PermIn a b d (insertionSort (fstB lt) d a b)∧SortedIn (lexB lt) a b (insertionSort (fstB lt) d a b):=by
 have e:insertionSort (fstB lt) d a b=insertionSort (lexB lt) d a b:=by
  unfold insertionSort;exact insOuter_lex hS _ (a+1) d rfl (by omega) hb fun s t h1 h2 _ h4=>h s t h1 h2 h4
 rw[e];exact insertionSort_holds (lexB_swo hS) d a b hab hb
end
section
variable {β:Type}[Inhabited β]
def Moved (f:Nat→Nat)(d d':Array β):Prop:=d'.size=d.size∧∀t,t<d.size→d'[t]! =d[f t]!
theorem Moved.refl (d:Array β):Moved (fun t=>t) d d:=⟨rfl,fun _ _=>rfl⟩
theorem Moved.congr {f g:Nat→Nat}{d d':Array β}(h:Moved f d d')(e:∀t,t<d.size→f t=g t):Moved g d d':=⟨h.1,fun t ht=>by rw[h.2 t ht,e t ht]⟩
theorem Moved.trans {f g:Nat→Nat}{d d' d'':Array β}(h:Moved f d d')(k:Moved g d' d'')(hg:∀t,t<d.size→g t<d.size):Moved (fun t=>f (g t)) d d'':=
 ⟨k.1.trans h.1,fun t ht=>by rw[k.2 t (by rw[h.1];exact ht),h.2 _ (hg t ht)]⟩
def swF (i j t:Nat):Nat:=if t=i then j else if t=j then i else t
theorem Moved.swp (d:Array β){i j:Nat}(hi:i<d.size)(hj:j<d.size):Moved (swF i j) d (Go.Sort.swp d i j):=by
 refine⟨size_swp _ _ _,fun t _=> ?_⟩;unfold swF;by_cases h1:t=i
 ·rw[if_pos h1,h1];by_cases h2:i=j
  ·rw[h2,swp_right _ _ _ hj]
  ·rw[swp_left _ _ _ hi h2]
 ·rw[if_neg h1];by_cases h2:t=j
  ·rw[if_pos h2,h2,swp_right _ _ _ hj]
  ·rw[if_neg h2,swp_other _ _ _ _ h1 h2]
def raF (a b n t:Nat):Nat:=if a≤t∧t<a+n then t-a+b else if b≤t∧t<b+n then t-b+a else t
theorem raF_zero (a b t:Nat):raF a b 0 t=t:=by unfold raF;rw[if_neg (by omega),if_neg (by omega)]
theorem Moved.ra {d dk:Array β}{a b n k:Nat}(h:Moved (raF a b k) d dk)(hk:k<n)(hab:a+n≤b)(hb:b+n≤d.size):Moved (raF a b (k+1)) d (Go.Sort.swp dk (a+k) (b+k)):=by
 refine(h.trans (Moved.swp dk (i:=a+k) (j:=b+k) (by rw[h.1];omega) (by rw[h.1];omega)) fun t ht=> ?_).congr fun t ht=> ?_
 ·unfold swF;repeat' split
  all_goals omega
 ·unfold swF raF;repeat' split
  all_goals omega
def roF (s m e t:Nat):Nat:=if s≤t∧t<s+(e-m)then t+(m-s)else if s+(e-m)≤t∧t<e then t-(e-m)else t
theorem roF_lt {s m e t n:Nat}(h1:s≤m)(h2:m≤e)(he:e≤n)(ht:t<n):roF s m e t<n:=by
 unfold roF;repeat' split
 all_goals omega
theorem roF_big {m i j t:Nat}(hi:j<i)(hm:i≤m):raF (m-i) m j (roF (m-(i-j)) m (m+j) t)=roF (m-i) m (m+j) t:=by
 unfold raF roF;repeat' split
 all_goals omega
theorem roF_small {m i j t:Nat}(hi:i<j)(hm:i≤m):raF (m-i) (m+j-i) i (roF (m-i) m (m+(j-i)) t)=roF (m-i) m (m+j) t:=by
 unfold raF roF;repeat' split
 all_goals omega
theorem roF_even {m i t:Nat}(hm:i≤m):raF (m-i) m i t=roF (m-i) m (m+i) t:=by
 unfold raF roF;repeat' split
 all_goals omega
def dnF (a i t:Nat):Nat:=if a≤t∧t+1<i then t+1 else if t+1=i∧a<i then a else t
theorem Moved.dn {d dk:Array β}{a k:Nat}(h:Moved (dnF a (k+1)) d dk)(hak:a≤k)(hk:k+1<d.size):Moved (dnF a (k+1+1)) d (Go.Sort.swp dk k (k+1)):=by
 refine(h.trans (Moved.swp dk (i:=k) (j:=k+1) (by rw[h.1];omega) (by rw[h.1];omega)) fun t ht=> ?_).congr fun t ht=> ?_
 ·unfold swF;repeat' split
  all_goals omega
 ·unfold swF dnF;repeat' split
  all_goals omega
theorem dnF_start {a t:Nat}:dnF a (a+1) t=t:=by
 unfold dnF;repeat' split
 all_goals omega
def upF (i m t:Nat):Nat:=if t=i∧i≤m then m else if i<t∧t≤m then t-1 else t
theorem upF_start {m t:Nat}:upF m m t=t:=by
 unfold upF;repeat' split
 all_goals omega
theorem Moved.up {d dk:Array β}{k m:Nat}(h:Moved (upF (k+1) m) d dk)(hk:k+1≤m)(hm:m<d.size):Moved (upF k m) d (Go.Sort.swp dk (k+1) k):=by
 refine(h.trans (Moved.swp dk (i:=k+1) (j:=k) (by rw[h.1];omega) (by rw[h.1];omega)) fun t ht=> ?_).congr fun t ht=> ?_
 ·unfold swF;repeat' split
  all_goals omega
 ·unfold swF upF;repeat' split
  all_goals omega
end
end
section
open Go.Sort
section
variable {β:Type}{lt:β→β→Bool}
def StabOf (lt:β→β→Bool)(l l':List β):Prop:=∃t:List (β×Nat),t.Perm l.zipIdx∧t.Pairwise (fun x y=>lexB lt y x=false)∧l'=t.map Prod.fst
theorem StabOf.perm {l l':List β}(h:StabOf lt l l'):l'.Perm l:=by
 obtain⟨t,hp,_,rfl⟩:=h;have:=hp.map Prod.fst
 rwa [List.zipIdx_map_fst]at this
theorem zipIdx_same {l:List β}{x y:β×Nat}(hx:x∈l.zipIdx)(hy:y∈l.zipIdx)(h:x.2=y.2):x=y:=by
 obtain⟨x,i⟩:=x;obtain⟨y,j⟩:=y;have a:=List.mem_zipIdx_iff_getElem?.1 hx;have b:=List.mem_zipIdx_iff_getElem?.1 hy;simp only at h a b;subst h;rw[a]at b;simpa using b
theorem StabOf.unique {l a b:List β}(h:StabOf lt l a)(k:StabOf lt l b):a=b:=by
 obtain⟨t,hp,hs,rfl⟩:=h;obtain⟨u,kp,ks,rfl⟩:=k;congr 1;refine List.Perm.eq_of_pairwise (le:=fun x y=>lexB lt y x=false) ?_ hs ks (hp.trans kp.symm);intro x y hx hy h1 h2;rw[lexB_no]at h1 h2;refine zipIdx_same (hp.subset hx) (kp.subset hy) ?_;rcases h1.2 with q|q
 ·rw[h2.1]at q;cases q
 ·rcases h2.2 with r|r
  ·rw[h1.1]at r;cases r
  ·omega
def insS (lt:β→β→Bool)(x:β):List β→List β
 |[]=>[x]
 |y::r=>if lt x y then x::y::r else y::insS lt x r
def insT (lt:β→β→Bool)(x:β×Nat):List (β×Nat)→List (β×Nat)
 |[]=>[x]
 |y::r=>if lt x.1 y.1 then x::y::r else y::insT lt x r
theorem insT_fst (x:β×Nat):∀t:List (β×Nat),(insT lt x t).map Prod.fst=insS lt x.1 (t.map Prod.fst)
 |[]=>rfl
 |y::r=>by
  rw[insT,List.map_cons,insS];split
  ·rfl
  ·rw[List.map_cons,insT_fst x r]
theorem insT_perm (x:β×Nat):∀t:List (β×Nat),(insT lt x t).Perm (x::t)
 |[]=>List.Perm.refl _
 |y::r=>by
  rw[insT];split
  ·exact List.Perm.refl _
  ·exact((insT_perm x r).cons y).trans (List.Perm.swap x y r)
theorem insT_sorted (hS:SWO lt)(x:β×Nat):∀t:List (β×Nat),t.Pairwise (fun a b=>lexB lt b a=false)→(∀y∈t,y.2<x.2)→(insT lt x t).Pairwise (fun a b=>lexB lt b a=false)
 |[],_,_=>by simp[insT]
 |y::r,h,ht=>by
  rw[insT];have h':=List.pairwise_cons.1 h;split
  ·rename_i hxy;refine List.pairwise_cons.2 ⟨fun z hz=> ?_,h⟩;have hzy:lt z.1 y.1=false:=by
    rcases List.mem_cons.1 hz with rfl|hz
    ·exact hS.irrefl _
    ·have:=h'.1 z hz
     rw[lexB_no]at this;exact this.1
   have hxz:lt x.1 z.1=true:=by
    cases e:lt x.1 z.1
    ·rw[hS.ntrans _ _ _ e hzy]at hxy;cases hxy
    ·rfl
   rw[lexB_no];exact⟨hS.asymmA hxz,.inl hxz⟩
  ·rename_i hxy;have hxy':lt x.1 y.1=false:=by simpa using hxy
   refine List.pairwise_cons.2 ⟨fun z hz=> ?_,insT_sorted hS x r h'.2 fun z hz=>ht z (List.mem_cons_of_mem _ hz)⟩;rcases List.mem_cons.1 ((insT_perm x r).subset hz)with rfl|hz
   ·rw[lexB_no];exact⟨hxy',.inr (Nat.le_of_lt (ht y (List.mem_cons_self ..)))⟩
   ·exact h'.1 z hz
theorem StabOf.nil:StabOf lt [] ([]:List β):=⟨[],List.Perm.refl _,List.Pairwise.nil,rfl⟩
theorem StabOf.snoc (hS:SWO lt){l r:List β}(h:StabOf lt l r)(x:β):StabOf lt (l++[x]) (insS lt x r):=by
 obtain⟨t,hp,hs,rfl⟩:=h;refine⟨insT lt (x,l.length) t,?_,insT_sorted hS _ t hs fun y hy=> ?_,(insT_fst (x,l.length) t).symm⟩
 ·refine(insT_perm _ t).trans ?_;rw[List.zipIdx_append];simp only[List.zipIdx_cons,List.zipIdx_nil,Nat.zero_add];exact(hp.cons _).trans (List.perm_append_singleton _ _).symm
 ·obtain⟨y,j⟩:=y;have:=List.mem_zipIdx_iff_getElem?.1 (hp.subset hy)
  exact(List.getElem?_eq_some_iff.1 this).1
end
end
def eqS (a b:ByteArray):Bool:=a.toList==b.toList
theorem eqS_iff (a b:ByteArray):eqS a b=true↔a=b:=by
 unfold eqS;rw[beq_iff_eq,ByteArray.toList_eq,ByteArray.toList_eq];constructor
 ·intro h;cases a;cases b
  simp only[ByteArray.mk.injEq];exact Array.ext' h
 ·rintro rfl;rfl
theorem eqS_refl (a:ByteArray):eqS a a=true:=(eqS_iff a a).2 rfl
section
open Go.Sort
def sltB (a b:ByteArray):Bool:=decide (a.toList<b.toList)
theorem cmp_lt:∀a b:List UInt8,(Lib.compareBytes a b<0↔a<b)∧(0<Lib.compareBytes a b↔b<a)
 |[],[]=>by simp[Lib.compareBytes]
 |[],_::_=>by simp[Lib.compareBytes]
 |_::_,[]=>by simp[Lib.compareBytes]
 |x::a,y::b=>by
  have ih:=cmp_lt a b;unfold Lib.compareBytes;rw[List.cons_lt_cons_iff,List.cons_lt_cons_iff];by_cases h1:x<y
  ·have h2:¬y<x:=fun h=>UInt8.lt_irrefl _ (UInt8.lt_trans h1 h);have h3:¬y=x:=fun h=>by subst h;exact UInt8.lt_irrefl _ h1
   simp[h1,h2,h3]
  ·by_cases h2:y<x
   ·have h3:¬x=y:=fun h=>by subst h;exact UInt8.lt_irrefl _ h2
    simp[h1,h2,h3]
   ·have h3:x=y:=UInt8.le_antisymm (UInt8.not_lt.1 h2) (UInt8.not_lt.1 h1);subst h3;simp only[h1,if_false];constructor
    ·rw[ih.1];simp
    ·rw[ih.2];simp
theorem less_slt (a b:ByteArray):Op.bytesLess a.toList b.toList=sltB a b:=bytesLess_eq _ _
theorem sltB_total {a b:ByteArray}(h:sltB a b=false)(k:sltB b a=false):a=b:=by
 unfold sltB at h k;rw[decide_eq_false_iff_not,List.not_lt]at h k;exact(eqS_iff a b).1 (by unfold eqS;rw[beq_iff_eq];exact List.le_antisymm k h)
theorem StabOf.map {β γ:Type}{lt:β→β→Bool}{lt':γ→γ→Bool}(f:β→γ)(hf:∀x y,lt x y=lt' (f x) (f y)){l r:List β}(h:StabOf lt l r):StabOf lt' (l.map f) (r.map f):=by
 obtain⟨t,hp,hs,rfl⟩:=h;refine⟨t.map (Prod.map f id),?_,?_,?_⟩
 ·have:=hp.map (Prod.map f id)
  rwa [show l.zipIdx.map (Prod.map f id)=(l.map f).zipIdx by rw[List.zipIdx_map]]at this
 ·rw[List.pairwise_map];refine hs.imp fun{a b} hab=> ?_;rw[lexB_no]at hab ⊢;simp only[Prod.map_fst,Prod.map_snd,id_eq];rw[←hf,←hf];exact hab
 ·rw[List.map_map,List.map_map];rfl
end
section
open Go.Sort
def firstI:List Int→Int
 |[]=>0
 |x::l=>if x≠0 then x else firstI l
structure PreC {α:Type}(f:α→α→Int):Prop where
 r:∀a b,f a b= -1∨f a b=0∨f a b=1
 s:∀a b,f b a= -f a b
 t:∀a b c,f a b<0→f b c<0→f a c<0
 e:∀a b c,f a b=0→f a c=f b c
section
variable {α β:Type}{f g:α→α→Int}
theorem PreC.e2 (h:PreC f)(a b c:α)(k:f a b=0):f c a=f c b:=by
 rw[h.s a c,h.s b c,h.e a b c k]
theorem PreC.on (h:PreC f)(p:β→α):PreC (fun a b=>f (p a) (p b)):=⟨fun a b=>h.r _ _,fun a b=>h.s _ _,fun a b c=>h.t _ _ _,fun a b c=>h.e _ _ _⟩
theorem PreC.cons (h:PreC f)(k:PreC g):PreC (fun a b=>if f a b≠0 then f a b else g a b) where
 r a b:=by
  by_cases q:f a b=0
  ·rw[if_neg (by simp[q])];exact k.r a b
  ·rw[if_pos q];exact h.r a b
 s a b:=by
  by_cases q:f a b=0
  ·rw[if_neg (by rw[h.s a b,q];simp),if_neg (by simp[q])];exact k.s a b
  ·rw[if_pos (by rw[h.s a b];omega),if_pos q];exact h.s a b
 t a b c:=by
  by_cases q:f a b=0
  ·rw[if_neg (by simp[q]:¬f a b≠0),h.e a b c q];intro h1;by_cases q2:f b c=0
   ·rw[if_neg (by simp[q2]),if_neg (by simp[q2])];exact k.t a b c h1
   ·rw[if_pos q2,if_pos q2];exact id
  ·rw[if_pos q];intro h1;by_cases q2:f b c=0
   ·rw[if_neg (by simp[q2])];intro _;rw[if_pos (by rw[←h.e2 b c a q2];exact q),←h.e2 b c a q2];exact h1
   ·rw[if_pos q2];intro h2;have h3:=h.t a b c h1 h2;rw[if_pos (by omega)];exact h3
 e a b c:=by
  by_cases q:f a b=0
  ·rw[if_neg (by simp[q]:¬f a b≠0),h.e a b c q];intro h1;rw[k.e a b c h1]
  ·rw[if_pos q];exact fun h1=>absurd h1 q
theorem PreC.swo (h:PreC f):SWO (ltOf f) where
 irrefl x:=by
  unfold ltOf;have:=h.s x x
  exact decide_eq_false (by omega)
 trans x y z h1 h2:=by
  unfold ltOf at*;exact decide_eq_true (h.t x y z (of_decide_eq_true h1) (of_decide_eq_true h2))
 ntrans x y z h1 h2:=by
  unfold ltOf at*;have h1:=of_decide_eq_false h1;have h2:=of_decide_eq_false h2;refine decide_eq_false fun h3=> ?_;rcases h.r x y with q|q|q
  ·omega
  ·rw[h.e x y z q]at h3;omega
  ·rcases h.r y z with p|p|p
   ·omega
   ·rw[←h.e2 y z x p]at h3;omega
   ·have:=h.t z y x (by rw[h.s y z];omega) (by rw[h.s x y];omega)
    rw[h.s x z]at this;omega
end
abbrev cmpI:Int→Int→Int:=Lib.compareInt
theorem cmpI_pre:PreC cmpI where
 r a b:=by unfold cmpI Lib.compareInt;split;simp;split<;>simp
 s a b:=by unfold cmpI Lib.compareInt;split<;>split<;>first|omega|(split<;>omega)
 t a b c:=by unfold cmpI Lib.compareInt;intro h1 h2;split at h1<;>(try(split at h1))<;>split at h2<;>(try(split at h2))<;>first|omega|(rw[if_pos (by omega)];omega)
 e a b c:=by unfold cmpI Lib.compareInt;intro h1;split at h1<;>(try(split at h1))<;>first|omega|(have:a=b:=by omega);subst this;rfl
theorem cmpI_zero {a b:Int}:cmpI a b=0↔a=b:=by
 unfold cmpI Lib.compareInt;constructor
 ·intro h1;split at h1<;>(try(split at h1))<;>omega
 ·rintro rfl;simp
def cmpS (a b:ByteArray):Int:=Lib.compareBytes a.data.toList b.data.toList
theorem cb_r:∀a b:List UInt8,Lib.compareBytes a b= -1∨Lib.compareBytes a b=0∨Lib.compareBytes a b=1
 |[],[]=>by simp[Lib.compareBytes]
 |[],_::_=>by simp[Lib.compareBytes]
 |_::_,[]=>by simp[Lib.compareBytes]
 |x::a,y::b=>by unfold Lib.compareBytes;split;simp;split;simp;exact cb_r a b
theorem cb_lt (a b:List UInt8):Lib.compareBytes a b<0↔a<b:=(cmp_lt a b).1
theorem cb_gt (a b:List UInt8):0<Lib.compareBytes a b↔b<a:=(cmp_lt a b).2
theorem cb_zero (a b:List UInt8):Lib.compareBytes a b=0↔a=b:=by
 constructor
 ·intro h;have h1:=mt (cb_lt a b).2 (by omega);have h2:=mt (cb_gt a b).2 (by omega);exact List.le_antisymm (List.not_lt.1 h2) (List.not_lt.1 h1)
 ·rintro rfl;have h1:=mt (cb_lt a a).1 (List.lt_irrefl a);have h2:=mt (cb_gt a a).1 (List.lt_irrefl a);omega
theorem cmpS_zero {a b:ByteArray}:cmpS a b=0↔a=b:=by
 unfold cmpS;rw[cb_zero];constructor
 ·intro h;cases a;cases b;simp only[ByteArray.mk.injEq];exact Array.ext' h
 ·rintro rfl;rfl
theorem cmpS_pre:PreC cmpS where
 r a b:=cb_r _ _
 s a b:=by
  unfold cmpS;have h1:=cb_lt a.data.toList b.data.toList;have h2:=cb_gt a.data.toList b.data.toList;have h3:=cb_lt b.data.toList a.data.toList;have h4:=cb_gt b.data.toList a.data.toList;have r1:=cb_r a.data.toList b.data.toList;have r2:=cb_r b.data.toList a.data.toList;generalize Lib.compareBytes a.data.toList b.data.toList=x at*;generalize Lib.compareBytes b.data.toList a.data.toList=y at*;have e1:x<0↔0<y:=h1.trans h4.symm;have e2:0<x↔y<0:=h2.trans h3.symm;omega
 t a b c:=by
  unfold cmpS;rw[cb_lt,cb_lt,cb_lt];exact List.lt_trans
 e a b c:=by
  intro h;rw[cmpS_zero]at h;subst h;rfl
def AscC {α:Type}(f:α→α→Int)(l:List α):Prop:=l.Pairwise fun a b=>f a b<0
theorem AscC.eq {α:Type}{f:α→α→Int}(h:PreC f):∀{l r:List α},AscC f l→AscC f r→(∀x,x∈l↔x∈r)→l=r
 |[],[],_,_,_=>rfl
 |[],y::r,_,_,m=>by have:=(m y).2 (by simp);simp at this
 |x::l,[],_,_,m=>by have:=(m x).1 (by simp);simp at this
 |x::l,y::r,hl,hr,m=>by
  have hl':=List.pairwise_cons.1 hl;have hr':=List.pairwise_cons.1 hr;have irr:∀z,¬f z z<0:=fun z=>by have:=h.s z z;omega
  have exy:x=y:=by
   rcases List.mem_cons.1 ((m x).1 (by simp))with e|e
   ·exact e
   ·rcases List.mem_cons.1 ((m y).2 (by simp))with e2|e2
    ·exact e2.symm
    ·exact absurd (h.t x y x (hl'.1 y e2) (hr'.1 x e)) (irr x)
  subst exy;congr 1;refine AscC.eq h hl'.2 hr'.2 fun z=> ?_;constructor
  ·intro hz;rcases List.mem_cons.1 ((m z).1 (by simp[hz]))with e|e
   ·subst e;exact absurd (hl'.1 z hz) (irr z)
   ·exact e
  ·intro hz;rcases List.mem_cons.1 ((m z).2 (by simp[hz]))with e|e
   ·subst e;exact absurd (hr'.1 z hz) (irr z)
   ·exact e
end
section
open Go.RowKit Go.Lib
theorem ret_bool {a b:Bool}(h:a=b):Ending.returned (.bool a)=.returned (.bool b):=by rw[h]
theorem below_drewN {B:Nat}{a w:World}(h:Below B a w)(n:Nat):Below B a (w.drewN n):=⟨h.os,h.tape,h.output,h.size,h.block⟩
theorem heap_alloc_new' (w:World)(o:Obj)(g:Nat)(h:w.heap.size=g):(w.alloc o).heap[g]? =some o:=by subst h;exact heap_alloc_new w o
theorem _root_.Go.RowKit.Below.al {w w':World}(h:Below w.heap.size w w')(o:Obj):Below w.heap.size w (w'.alloc o):=h.alloc h.size o
def Enc {α:Type}(enc:α→List Value)(k:Nat):Prop:=(∀x,(enc x).length=k)∧∀x,∀u∈enc x,u.oneCell'=true
section
variable {α:Type}{enc:α→List Value}{k:Nat}{w w':World}{B B' base:Nat}{A:Option Addr}{c:Nat}{l:List α}
theorem flat_length (h:Enc enc k)(l:List α):(l.flatMap enc).length=l.length*k:=by
 induction l with
 |nil=>simp
 |cons x l ih=>rw[List.flatMap_cons,List.length_append,ih,h.1,List.length_cons,Nat.add_mul,Nat.one_mul];omega
theorem flat_get (h:Enc enc k):∀(l:List α) (i j:Nat),j<k→(l.flatMap enc)[i*k+j]? =l[i]?.bind fun x=>(enc x)[j]?
 |[],i,j,_=>by simp
 |x::l,0,j,hj=>by
  rw[List.flatMap_cons,List.getElem?_append_left (by rw[h.1];omega)];simp
 |x::l,i+1,j,hj=>by
  rw[List.flatMap_cons,List.getElem?_append_right (by rw[h.1,Nat.add_mul];omega),h.1];rw[show(i+1)*k+j-k=i*k+j by rw[Nat.add_mul];omega,flat_get h l i j hj];simp
def Rd (enc:α→List Value)(k:Nat)(w:World)(B:Nat)(A:Option Addr)(l:List α):Prop:=
 l≠[]→∃b off,A=some ⟨b,off,none⟩∧b<B∧∀(i:Nat) (x:α),l[i]? =some x→∀(j:Nat) (u:Value),(enc x)[j]? =some u→w.cell? ⟨b,off+i*k+j,none⟩=some u
theorem Rd.nil:Rd enc k w B A []:=fun h=>absurd rfl h
theorem Rd.at_ (h:Rd enc k w B A l){i:Nat}(hi:i<l.length):
  ∃b off x,A=some ⟨b,off,none⟩∧b<B∧l[i]? =some x∧∀(j:Nat) (u:Value),(enc x)[j]? =some u→w.cell? ⟨b,off+i*k+j,none⟩=some u:=by
 have hne:l≠[]:=by rintro rfl;simp at hi
 obtain⟨b,off,hA,hb,hc⟩:=h hne;exact⟨b,off,l[i],hA,hb,List.getElem?_eq_getElem hi,hc i _ (List.getElem?_eq_getElem hi)⟩
theorem Rd.keepW (h:Rd enc k w B A l)(hb:∀p:Addr,p.block<B→w'.cell? p=w.cell? p):Rd enc k w' B A l:=by
 intro hne;obtain⟨b,off,hA,hB,hc⟩:=h hne;exact⟨b,off,hA,hB,fun i x hx j u hu=>(hb ⟨b,_,none⟩ hB).trans (hc i x hx j u hu)⟩
theorem Rd.keep (h:Rd enc k w B A l)(hb:Below B w w'):Rd enc k w' B A l:=h.keepW fun _ hp=>hb.cell hp
theorem Rd.more (h:Rd enc k w B A l)(hB:B≤B'):Rd enc k w B' A l:=by
 intro hne;obtain⟨b,off,hA,hb,hc⟩:=h hne;exact⟨b,off,hA,by omega,hc⟩
theorem Rd.take (h:Rd enc k w B A l)(n:Nat):Rd enc k w B A (l.take n):=by
 intro hne;have hne':l≠[]:=by rintro rfl;simp at hne
 obtain⟨b,off,hA,hb,hc⟩:=h hne';refine⟨b,off,hA,hb,fun i x hx j u hu=>hc i x ?_ j u hu⟩;rw[List.getElem?_take]at hx;split at hx
 ·exact hx
 ·cases hx
def Own (e:Nat)(enc:α→List Value)(k:Nat)(w:World)(base:Nat)(A:Option Addr)(c:Nat)(l:List α):Prop:=
 w.ownsRow base e k (.slice A l.length c) l.length (l.flatMap enc)
variable {e:Nat}
theorem Own.nil (w:World)(base:Nat):Own e enc k w base none 0 []:=World.ownsRow_nil w base e k
theorem Own.form (h:Own e enc k w base A c l):(A=none∧l=[]∧c=0)∨∃g,A=some ⟨g,0,none⟩∧base≤g∧g<w.heap.size:=by
 rcases h.2 with⟨h1,h2⟩|⟨g,cap,cur,hv,hb,hg,_⟩
 ·left;injection h1 with p q r;exact⟨p,List.eq_nil_of_length_eq_zero h2,r⟩
 ·right;injection hv with p q r;exact⟨g,p,hb,(Array.getElem?_eq_some_iff.1 hg).1⟩
theorem Rd.st (h:Rd enc k w w.heap.size A l)(hb:Below w.heap.size w w'):Rd enc k w' w'.heap.size A l:=(h.keep hb).more hb.size
theorem Own.ne (h:Own e enc k w base A c l){b:Nat}(hb:w.heap.size≤b):∀g,A=some ⟨g,0,none⟩→b≠g:=by
 intro g hA;rcases h.form with⟨h0,_⟩|⟨g',hA',_,hg⟩
 ·rw[h0]at hA;cases hA
 ·rw[hA']at hA;injection hA with hA;injection hA with hA;omega
theorem Own.cells (h:Own e enc k w base A c l)(hE:Enc enc k){g:Nat}(hA:A=some ⟨g,0,none⟩){i:Nat}{x:α}(hi:l[i]? =some x){j:Nat}{u:Value}(hu:(enc x)[j]? =some u):
  w.cell? ⟨g,i*k+j,none⟩=some u:=by
 subst hA;have hj:j<k:=by have:=(List.getElem?_eq_some_iff.1 hu).1;rw[hE.1]at this;exact this
 have hil:i<l.length:=(List.getElem?_eq_some_iff.1 hi).1;have hlt:i*k+j<l.length*k:=by
  have:=Nat.mul_le_mul_right k (show i+1≤l.length from hil);rw[Nat.add_mul,Nat.one_mul]at this;omega
 rw[World.ownsRow.cellAt h _ hlt,flat_get hE _ _ _ hj,hi];exact hu
theorem Own.frozen (h:Own e enc k w base A c l){g:Nat}(hA:A=some ⟨g,0,none⟩)(j:Nat):w.frozen? ⟨g,j,none⟩=false:=by
 subst hA;exact World.ownsRow.frozenAt h j
theorem Own.rd (h:Own e enc k w base A c l)(hE:Enc enc k):Rd enc k w w.heap.size A l:=by
 intro hne;rcases h.form with⟨_,h2,_⟩|⟨g,hA,hb,hg⟩
 ·exact absurd h2 hne
 ·exact⟨g,0,hA,hg,fun i x hx j u hu=>by rw[Nat.zero_add];exact h.cells hE hA hx hu⟩
theorem Own.lit (w:World)(base:Nat){cs:Array Value}(l:List α){g:Nat}(hE:Enc enc k)(hcs:cs.toList=l.flatMap enc)(hg:w.heap.size=g)(hb:base≤g)(hl:l.length≤100000000000):
  Own e enc k (w.alloc (.cells cs e)) base (some ⟨g,0,none⟩) l.length l:=by
 subst hg;have h1:=World.ownsRow_lit (base:=base) (e:=e) (size:=k) w cs l.length hb (by unfold maxLen;omega) (by rw[←Array.length_toList,hcs,flat_length hE]);rw[hcs]at h1;exact h1
theorem Own.mono (h:Own e enc k w base A c l){base':Nat}(hb:base'≤base):Own e enc k w base' A c l:=by
 refine⟨h.1,?_⟩;rcases h.2 with h2|⟨g,cap,cur,hv,hg,r⟩
 ·exact .inl h2
 ·exact .inr ⟨g,cap,cur,hv,by omega,r⟩
theorem Own.alloc (h:Own e enc k w base A c l)(o:Obj):Own e enc k (w.alloc o) base A c l:=World.ownsRow.alloc h o
theorem Own.drew (h:Own e enc k w base A c l):Own e enc k w.drew base A c l:=h
theorem Own.drewN (h:Own e enc k w base A c l)(n:Nat):Own e enc k (w.drewN n) base A c l:=h
theorem Own.keep (h:Own e enc k w base A c l)(hb:Below B w w')(hB:w.heap.size≤B):Own e enc k w' base A c l:=by
 refine⟨h.1,?_⟩;rcases h.2 with h2|⟨g,cap,cur,hv,hg,hh,r⟩
 ·exact .inl h2
 ·exact .inr ⟨g,cap,cur,hv,hg,by rw[hb.block g (Nat.lt_of_lt_of_le (Array.getElem?_eq_some_iff.1 hh).1 hB)];exact hh,r⟩
theorem set_flat (hE:Enc enc k):∀(l:List α) (i j:Nat) (x y:α) (u:Value),l[i]? =some x→j<k→(enc x).set j u=enc y→(l.flatMap enc).set (i*k+j) u=(l.set i y).flatMap enc
 |[],_,_,_,_,_,h,_,_=>by simp at h
 |z::l,0,j,x,y,u,h,hj,he=>by
  simp at h;subst h;rw[List.flatMap_cons,List.set_append_left _ _ (by rw[hE.1];omega),show 0*k+j=j by omega,he];simp
 |z::l,i+1,j,x,y,u,h,hj,he=>by
  simp only[List.getElem?_cons_succ]at h;rw[List.flatMap_cons,List.set_append_right _ _ (by rw[hE.1,Nat.add_mul];omega),hE.1,show(i+1)*k+j-k=i*k+j by rw[Nat.add_mul];omega,set_flat hE l i j x y u h hj he];simp
theorem Own.stored (h:Own e enc k w base A c l)(hE:Enc enc k){g i j:Nat}{x y:α}{u:Value}(hA:A=some ⟨g,0,none⟩)(hi:l[i]? =some x)(hj:j<k)(he:(enc x).set j u=enc y):
  Own e enc k (w.setCell ⟨g,i*k+j,none⟩ u) base A c (l.set i y):=by
 subst hA;have:=(World.ownsRow.stored h (i*k+j) u).1
 rw[set_flat hE l i j x y u hi hj he]at this;unfold Own;rw[List.length_set];exact this
end
structure TyS (P:Program)(t e k bytes:Nat):Prop where
 under:P.underlying t=some (.slice e)
 info:∃i z,P.info? e=some i∧i.zero=some z∧i.size=k∧i.bytes=bytes∧z.cells.size=k
 pos:0<k
theorem TyS.mk' {P:Program}{t e k bytes:Nat}{z:Value}(h1:P.underlying t=some (.slice e))(h2:(P.info? e).map (fun i=>(i.zero,i.size,i.bytes))=some (some z,k,bytes))(h3:z.cells.size=k)(h4:0<k):TyS P t e k bytes:=by
 obtain⟨i,hi,hz0,hz1,hz2⟩:=info_parts h2;exact⟨h1,⟨i,z,hi,hz0,hz1,hz2,h3⟩,h4⟩
section
variable {α:Type}{enc:α→List Value}{k:Nat}{A:Option Addr}{c:Nat}{l:List α}{P:Program}{t e bytes:Nat}
theorem wpList_app (w:World){ops:Array Oper}{rest:List Oper}{o:Oper}{a:Act}{Q:Exit→Act→World→Prop}(hgd:o.guard=none)(s x:Operand)
  (T:TyS P t e k bytes) (hE:Enc enc k)
  (ho:o.op=.call {callee:=.builtin .append,args:=#[s,x],argTypes:=#[t,t]})
  (base:Nat) (hs:a.eval s=.slice A l.length c) (hown:Own e enc k w base A c l)
  (ad:Addr) (m c':Nat) (new:List α) (hx:a.eval x=.slice (some ad) m c') (hm:new.length=m) (hnews:∀j u,(new.flatMap enc)[j]? =some u→w.cell? (ad.add j)=some u)
  (hbytes:(l.length+m)*bytes≤140737488355328) (hmax:l.length+m≤9000000000000000000) (hbase:base≤w.heap.size)
  (h:∀A' c' w',Own e enc k w' base A' c' (l++new)→Below base w w'→w.heap.size≤w'.heap.size→(∀g,g<w.heap.size→some g≠(Value.slice A l.length c).ownBlock→w'.heap[g]? =w.heap[g]?)→wpList P ops Q rest (a.put o.dst (.slice A' (l++new).length c')) w'):wpList P ops Q (o::rest) a w:=by
 obtain⟨i,z,hi,hz,hsz,hby,hzs⟩:=T.info;refine wpList_append_own w hgd s x t ho base e i z k bytes T.under hi hz hsz hby hzs T.pos (.slice A l.length c) l.length (l.flatMap enc) hs hown ad m c' (new.flatMap enc) hx (by rw[flat_length hE,hm]) hnews ?_ (by unfold maxLen;omega) hbytes hbase ?_
 ·intro u hu;rw[List.mem_flatMap]at hu;obtain⟨y,_,hy⟩:=hu;exact hE.2 y u hy
 ·intro v' w' hown' hg _;have hlen:(l++new).length=l.length+m:=by rw[List.length_append,hm]
  obtain⟨A',c'',hv⟩:∃A' c'',v'=.slice A' (l++new).length c'':=by
   rcases hown'.2 with⟨hv,h0⟩|⟨g,cap,cur,hv,_⟩
   ·exact⟨none,0,by rw[hv,hlen,h0]⟩
   ·exact⟨_,_,by rw[hv,hlen]⟩
  rw[hv];refine h A' c'' w' ?_ ?_ hg.size (fun g hgl hne=>hg.block g hgl hne)
  ·unfold Own;rw[hv,←hlen,←List.flatMap_append]at hown';exact hown'
  ·refine(Below.refl base w).grown hg hbase fun g hgo=> ?_;exact(World.ownsRow.lt hown g (by rw[hgo])).1
theorem wpList_app1 {w0:World}{ops:Array Oper}{rest:List Oper}{o:Oper}{a:Act}{Q:Exit→Act→World→Prop}(hgd:o.guard=none)(s y:Operand)
  (T:TyS P t e k bytes) (hE:Enc enc k)
  (ho:o.op=.call {callee:=.builtin .append,args:=#[s,y],argTypes:=#[t,t]})
  {cs:Array Value} (x:α) (hcs:cs.toList=enc x)
  (base:Nat) {n:Nat} (hs:a.eval s=.slice A n c) (hn:n=l.length) (hown:Own e enc k w0 base A c l)
  {g0:Nat} (hx:a.eval y=.slice (some ⟨g0,0,none⟩) 1 1) (hg0:w0.heap.size=g0)
  (hbytes:(l.length+1)*bytes≤140737488355328) (hmax:l.length≤8000000000000000000) (hbase:base≤w0.heap.size)
  (h:∀A' c' w',Own e enc k w' base A' c' (l++[x])→Below base w0 w'→w0.heap.size<w'.heap.size→(∀p:Addr,p.block<w0.heap.size→(∀g,A=some ⟨g,0,none⟩→p.block≠g)→w'.cell? p=w0.cell? p)→wpList P ops Q rest (a.put o.dst (.slice A' (n+1) c')) w'):wpList P ops Q (o::rest) a (w0.alloc (.cells cs e)):=by
 subst hn;subst hg0;refine wpList_app (w0.alloc (.cells cs e)) hgd s y T hE ho base hs (hown.alloc _) ⟨w0.heap.size,0,none⟩ 1 1 [x] hx rfl ?_ hbytes (by omega) (by simp;omega) ?_
 ·intro j u hu;have hadd:(⟨w0.heap.size,0,none⟩:Addr).add j=⟨w0.heap.size,j,none⟩:=by unfold Addr.add;split<;>simp_all
  rw[hadd,cell_of_row _ _ _ cs e (0,0) (heap_alloc_new w0 _)];simp only[List.flatMap_cons,List.flatMap_nil,List.append_nil]at hu;rw[←hcs]at hu;simpa using hu
 ·intro A' c' w' h1 h2 h3 h4;rw[show(l++[x]).length=l.length+1 by simp];refine h A' c' w' h1 (((Below.refl base w0).alloc hbase _).trans h2) ?_ fun p hp hne=> ?_
  ·simp at h3;omega
  ·refine(World.cell?_of_block (h4 p.block (by simp;omega) fun hh=> ?_)).trans (World.cell?_alloc_lt w0 _ p hp);cases A with
   |none=>simp[Value.ownBlock]at hh
   |some q=>
    rcases hown.form with⟨hA,_⟩|⟨g,hA,_⟩
    ·cases hA
    ·injection hA with hA;subst hA;simp[Value.ownBlock]at hh;exact hne g rfl hh
theorem run_app_nil (w:World)(base:Nat)(ty:TypeId)(T:TyS P t e k bytes)(hown:Own e enc k w base A c l)(d:Nat):(Builtin.append_ #[t,t] ty #[.slice A l.length c,.slice none 0 d]).run P w=.ok (.slice A l.length c) w:=by
 obtain⟨i,z,hi,_⟩:=T.info;rcases hown.2 with⟨h1,h2⟩|⟨g,cap,cur,h1,_,_,hnc,_⟩
 ·rw[h1];simp[Builtin.append_,run_underlying T.under,sizeOf,typeInfo,hi,Builtin.lenOf,Builtin.firstCells]
 ·rw[h1];simp[Builtin.append_,run_underlying T.under,sizeOf,typeInfo,hi,Builtin.lenOf,Builtin.firstCells,hnc,storeCells]
theorem wp_appS {w:World}{o:Oper}{a:Act}{K:Act→World→Prop}{Q:Exit→Act→World→Prop}(s y:Operand)
  (T:TyS P t e k bytes) (hE:Enc enc k)
  (ho:o.op=.call {callee:=.builtin .append,args:=#[s,y],argTypes:=#[t,t]})
  (base:Nat) {n:Nat} (hs:a.eval s=.slice A n c) (hn:n=l.length) (hown:Own e enc k w base A c l)
  {B:Nat} {A2:Option Addr} {m d:Nat} (new:List α) (hx:a.eval y=.slice A2 m d) (hm:m=new.length) (hr:Rd enc k w B A2 new)
  (hbytes:(l.length+new.length)*bytes≤140737488355328) (hmax:l.length+new.length≤8000000000000000000) (hbase:base≤w.heap.size)
  (h:∀A' c' w',Own e enc k w' base A' c' (l++new)→Below base w w'→w.heap.size≤w'.heap.size→(∀p:Addr,p.block<w.heap.size→(∀g,A=some ⟨g,0,none⟩→p.block≠g)→w'.cell? p=w.cell? p)→K (a.put o.dst (.slice A' (n+m) c')) w'):o.wp P a w K Q:=by
 subst hn;subst hm;obtain⟨i,z,hi,hz,hsz,hby,hzs⟩:=T.info;rcases A2 with _|ad
 ·have hnew:new=[]:=by
   rcases Classical.em (new=[])with h0|h0
   ·exact h0
   ·obtain⟨_,_,hA,_⟩:=hr h0;cases hA
  subst hnew;have hrun:=run_app_nil w base o.type T hown d;unfold Oper.wp execOp;simp only[ho,resolve,invoke,builtin,Sem.run_bind,Sem.run_pure,Result.andThen_ok,List.map_toArray,List.map_cons,List.map_nil,hs,hx,List.length_nil,hrun];exact h A c w (by simpa using hown) (Below.refl _ _) (Nat.le_refl _) fun _ _ _=>rfl
 ·refine wp_append_own w s y t ho base e i z k bytes T.under hi hz hsz hby hzs T.pos (.slice A l.length c) l.length (l.flatMap enc) hs hown ad new.length d (new.flatMap enc) hx (flat_length hE new) ?_ ?_ (by unfold maxLen;omega) hbytes hbase ?_
  ·intro j u hu;have hj:j<new.length*k:=by
    have:=(List.getElem?_eq_some_iff.1 hu).1
    rwa [flat_length hE]at this
   have k0:=T.pos;have e1:j/k*k+j%k=j:=by rw[Nat.mul_comm];exact Nat.div_add_mod j k
   have hjk:j%k<k:=Nat.mod_lt _ k0;have hfl:=flat_get hE new (j/k) (j%k) hjk;rw[e1,hu]at hfl;have hne:new≠[]:=by rintro rfl;simp at hu
   obtain⟨b,off,hA,_,hc⟩:=hr hne;injection hA with hA;subst hA;cases hg:new[j/k]? with
   |none=>rw[hg]at hfl;simp at hfl
   |some x=>
    rw[hg]at hfl;simp only[Option.bind_some]at hfl;have:=hc (j/k) x hg (j%k) u hfl.symm
    rw[Nat.add_assoc,e1]at this;have hadd:(⟨b,off,none⟩:Addr).add j=⟨b,off+j,none⟩:=by unfold Addr.add;split<;>simp_all
    rw[hadd];exact this
  ·intro u hu;rw[List.mem_flatMap]at hu;obtain⟨y,_,hy⟩:=hu;exact hE.2 y u hy
  ·intro v' w' hown' hg _;obtain⟨A',c'',hv⟩:∃A' c'',v'=.slice A' (l.length+new.length) c'':=by
    rcases hown'.2 with⟨hv,h0⟩|⟨g,cap,cur,hv,_⟩
    ·exact⟨none,0,by rw[hv,h0]⟩
    ·exact⟨_,_,hv⟩
   rw[hv];refine h A' c'' w' ?_ ?_ hg.size fun p hp hne=>World.cell?_of_block (hg.block p.block hp fun hh=> ?_);rotate_right
   ·cases A with
    |none=>simp[Value.ownBlock]at hh
    |some q=>
     rcases hown.form with⟨hA,_⟩|⟨g,hA,_⟩
     ·cases hA
     ·injection hA with hA;subst hA;simp[Value.ownBlock]at hh;exact hne g rfl hh
   ·unfold Own;rw[hv,←List.flatMap_append]at hown';rw[List.length_append];exact hown'
   ·refine(Below.refl base w).grown hg hbase fun g hgo=> ?_;exact(World.ownsRow.lt hown g (by rw[hgo])).1
theorem wpList_appS {w:World}{ops:Array Oper}{rest:List Oper}{o:Oper}{a:Act}{Q:Exit→Act→World→Prop}(hgd:o.guard=none)(s y:Operand)
  (T:TyS P t e k bytes) (hE:Enc enc k)
  (ho:o.op=.call {callee:=.builtin .append,args:=#[s,y],argTypes:=#[t,t]})
  (base:Nat) {n:Nat} (hs:a.eval s=.slice A n c) (hn:n=l.length) (hown:Own e enc k w base A c l)
  {B:Nat} {A2:Option Addr} {m d:Nat} (new:List α) (hx:a.eval y=.slice A2 m d) (hm:m=new.length) (hr:Rd enc k w B A2 new)
  (hbytes:(l.length+new.length)*bytes≤140737488355328) (hmax:l.length+new.length≤8000000000000000000) (hbase:base≤w.heap.size)
  (h:∀A' c' w',Own e enc k w' base A' c' (l++new)→Below base w w'→w.heap.size≤w'.heap.size→(∀p:Addr,p.block<w.heap.size→(∀g,A=some ⟨g,0,none⟩→p.block≠g)→w'.cell? p=w.cell? p)→wpList P ops Q rest (a.put o.dst (.slice A' (n+m) c')) w'):wpList P ops Q (o::rest) a w:=
 wpList_plain hgd fun _ hK=>wp_appS s y T hE ho base hs hn hown new hx hm hr hbytes hmax hbase fun A' c' w' h1 h2 h3 h4=>hK _ _ (h A' c' w' h1 h2 h3 h4)
end
end
end Go.Proofs.YtimffppffbideaaGreatDoor
