/- Joined texts: StabMath, StabList, Str. -/
import Derived.Sort.LotA
import Derived.Sort.Lot0
import Derived.Shelf.SlSortCmp.Insertion
import Derived.Test.YtelchfijalkibaaGreatDoorJFirst
import Derived.Sort.Walk0
import Derived.Lib.Bytealg
import Derived.Laws.Strings
/- A stable sort by rotations, plain: elements bear tags; the order on tagged elements is strict and total. No program in sight. -/
namespace Go.Proofs.YtelchfijalkibaaGreatDoor
open Go.Sort

section
variable {α : Type} [Inhabited α]

/-- the order on tagged elements -/
def lexB (lt : α → α → Bool) (x y : α × Nat) : Bool := lt x.1 y.1 || (!lt y.1 x.1 && decide (x.2 < y.2))
def fstB (lt : α → α → Bool) (x y : α × Nat) : Bool := lt x.1 y.1
variable {lt : α → α → Bool}
omit [Inhabited α] in
theorem lexB_iff (x y : α × Nat) : lexB lt x y = true ↔ lt x.1 y.1 = true ∨ (lt y.1 x.1 = false ∧ x.2 < y.2) := by simp [lexB]
omit [Inhabited α] in
theorem lexB_no (x y : α × Nat) : lexB lt x y = false ↔ lt x.1 y.1 = false ∧ (lt y.1 x.1 = true ∨ y.2 ≤ x.2) := by
  unfold lexB
  cases lt x.1 y.1 <;> cases lt y.1 x.1 <;> simp
omit [Inhabited α] in
theorem lexB_swo (h : SWO lt) : SWO (lexB lt) where
  irrefl x := by rw [lexB_no]; exact ⟨h.irrefl _, .inr (Nat.le_refl _)⟩
  trans x y z a b := by
    rw [lexB_iff] at a b ⊢
    rcases a with a | ⟨a1, a2⟩ <;> rcases b with b | ⟨b1, b2⟩
    · exact .inl (h.trans _ _ _ a b)
    · cases hxz : lt x.1 z.1
      · exact absurd (h.ntrans _ _ _ hxz b1) (by rw [a]; simp)
      · exact .inl rfl
    · cases hxz : lt x.1 z.1
      · exact absurd (h.ntrans _ _ _ a1 hxz) (by rw [b]; simp)
      · exact .inl rfl
    · exact .inr ⟨h.ntrans _ _ _ b1 a1, by omega⟩
  ntrans x y z a b := by
    rw [lexB_no] at a b ⊢
    refine ⟨h.ntrans _ _ _ a.1 b.1, ?_⟩
    cases hzx : lt z.1 x.1
    · right
      have e1 : lt y.1 x.1 = false := by
        cases e : lt y.1 x.1
        · rfl
        · exact absurd (h.ntrans _ _ _ b.1 hzx) (by rw [e]; simp)
      have e2 : lt z.1 y.1 = false := by
        cases e : lt z.1 y.1
        · rfl
        · exact absurd (h.ntrans _ _ _ hzx a.1) (by rw [e]; simp)
      rcases a.2 with q | q
      · rw [e1] at q; cases q
      · rcases b.2 with r | r
        · rw [e2] at r; cases r
        · omega
    · exact .inl rfl
omit [Inhabited α] in
/-- an earlier one is compared by its value alone -/
theorem lexB_late {x y : α × Nat} (h : y.2 < x.2) : lexB lt x y = fstB lt x y := by
  unfold lexB fstB
  rw [show decide (x.2 < y.2) = false by simp; omega]
  simp
omit [Inhabited α] in
theorem lex_flip (h : SWO lt) {x y : α × Nat} (hxy : lexB lt x y = true) : lexB lt y x = false := (lexB_swo h).asymmA hxy

/-! ### the insertion sort of elements whose tags ascend -/
theorem insInner_lex {a : Nat} : ∀ (j : Nat) (d : Array (α × Nat)), j < d.size → (∀ t, a ≤ t → t < j → d[t]!.2 < d[j]!.2) → insInner (fstB lt) a j d = insInner (lexB lt) a j d
  | 0, _, _, _ => rfl
  | j + 1, d, hj, h => by
    rw [insInner, insInner]
    by_cases ha : j + 1 > a
    · have hl := lexB_late (lt := lt) (h j (by omega) (by omega))
      rw [hl]
      cases hc : fstB lt d[j + 1]! d[j]!
      · simp
      · simp only [ha, decide_true, Bool.and_self, ↓reduceIte]
        refine insInner_lex j (swp d (j + 1) j) (by rw [size_swp]; omega) fun t h1 h2 => ?_
        rw [swp_other _ _ _ _ (by omega) (by omega), swp_right _ _ _ (by omega)]
        exact h t h1 (by omega)
    · simp [ha]
theorem insOuter_lex (hS : SWO lt) {a b : Nat} : ∀ (n i : Nat) (d : Array (α × Nat)), b - i = n → a ≤ i → b ≤ d.size → (∀ s t, a ≤ s → s < t → i ≤ t → t < b → d[s]!.2 < d[t]!.2) → insOuter (fstB lt) a b i d = insOuter (lexB lt) a b i d
  | 0, i, d, hn, _, _, _ => by rw [insOuter_stop _ _ _ _ _ (by omega), insOuter_stop _ _ _ _ _ (by omega)]
  | n + 1, i, d, hn, hai, hb, h => by
    rw [insOuter_go _ _ _ _ _ (by omega : i < b), insOuter_go _ _ _ _ _ (by omega : i < b), insInner_lex i d (by omega) (fun t h1 h2 => h t i h1 h2 (Nat.le_refl _) (by omega))]
    have key : PermIn a (i + 1) d (insInner (lexB lt) a i d) := by
      have : ∀ (j : Nat) (d : Array (α × Nat)), j ≤ i → b ≤ d.size → PermIn a (i + 1) d (insInner (lexB lt) a j d) := by
        intro j
        induction j with
        | zero => intro d _ _; exact permIn_refl _ _ _
        | succ j ih =>
          intro d hj hd
          rw [insInner]
          split
          · rename_i hc
            simp only [gt_iff_lt, Bool.and_eq_true, decide_eq_true_eq] at hc
            refine permIn_trans _ _ _ _ _ (swp_permIn d a (i + 1) (j + 1) j (by omega) (by omega) (by omega) (by omega) (by omega)) (ih _ (by omega) (by rw [size_swp]; exact hd))
          · exact permIn_refl _ _ _
      exact this i d (Nat.le_refl _) hb
    refine insOuter_lex hS n (i + 1) _ (by omega) (by omega) (by rw [key.1]; exact hb) fun s t h1 h2 h3 h4 => ?_
    rw [key.2.1 t (.inr (by omega))]
    by_cases hs : s < i + 1
    · exact permIn_all d _ a (i + 1) (fun x => x.2 < d[t]!.2) (by omega) key (fun u h5 h6 => h u t h5 (by omega) (by omega) h4) s h1 hs
    · rw [key.2.1 s (.inr (by omega))]
      exact h s t h1 h2 (by omega) h4
theorem insSort_lex (hS : SWO lt) {a b : Nat} {d : Array (α × Nat)} (hab : a ≤ b) (hb : b ≤ d.size) (h : ∀ s t, a ≤ s → s < t → t < b → d[s]!.2 < d[t]!.2) :
    PermIn a b d (insertionSort (fstB lt) d a b) ∧ SortedIn (lexB lt) a b (insertionSort (fstB lt) d a b) := by
  have e : insertionSort (fstB lt) d a b = insertionSort (lexB lt) d a b := by
    unfold insertionSort
    exact insOuter_lex hS _ (a + 1) d rfl (by omega) hb fun s t h1 h2 _ h4 => h s t h1 h2 h4
  rw [e]
  exact insertionSort_holds (lexB_swo hS) d a b hab hb
end

/-! ### moves -/
section
variable {β : Type} [Inhabited β]
/-- d' holds at t what d held at f t -/
def Moved (f : Nat → Nat) (d d' : Array β) : Prop := d'.size = d.size ∧ ∀ t, t < d.size → d'[t]! = d[f t]!
theorem Moved.refl (d : Array β) : Moved (fun t => t) d d := ⟨rfl, fun _ _ => rfl⟩
theorem Moved.congr {f g : Nat → Nat} {d d' : Array β} (h : Moved f d d') (e : ∀ t, t < d.size → f t = g t) : Moved g d d' := ⟨h.1, fun t ht => by rw [h.2 t ht, e t ht]⟩
theorem Moved.trans {f g : Nat → Nat} {d d' d'' : Array β} (h : Moved f d d') (k : Moved g d' d'') (hg : ∀ t, t < d.size → g t < d.size) : Moved (fun t => f (g t)) d d'' :=
  ⟨k.1.trans h.1, fun t ht => by rw [k.2 t (by rw [h.1]; exact ht), h.2 _ (hg t ht)]⟩
def swF (i j t : Nat) : Nat := if t = i then j else if t = j then i else t
theorem Moved.swp (d : Array β) {i j : Nat} (hi : i < d.size) (hj : j < d.size) : Moved (swF i j) d (Go.Sort.swp d i j) := by
  refine ⟨size_swp _ _ _, fun t _ => ?_⟩
  unfold swF
  by_cases h1 : t = i
  · rw [if_pos h1, h1]
    by_cases h2 : i = j
    · rw [h2, swp_right _ _ _ hj]
    · rw [swp_left _ _ _ hi h2]
  · rw [if_neg h1]
    by_cases h2 : t = j
    · rw [if_pos h2, h2, swp_right _ _ _ hj]
    · rw [if_neg h2, swp_other _ _ _ _ h1 h2]
/-- two ranges of n exchanged -/
def raF (a b n t : Nat) : Nat := if a ≤ t ∧ t < a + n then t - a + b else if b ≤ t ∧ t < b + n then t - b + a else t
theorem raF_zero (a b t : Nat) : raF a b 0 t = t := by unfold raF; rw [if_neg (by omega), if_neg (by omega)]
theorem Moved.ra {d dk : Array β} {a b n k : Nat} (h : Moved (raF a b k) d dk) (hk : k < n) (hab : a + n ≤ b) (hb : b + n ≤ d.size) : Moved (raF a b (k + 1)) d (Go.Sort.swp dk (a + k) (b + k)) := by
  refine (h.trans (Moved.swp dk (i := a + k) (j := b + k) (by rw [h.1]; omega) (by rw [h.1]; omega)) fun t ht => ?_).congr fun t ht => ?_
  · unfold swF
    repeat' split
    all_goals omega
  · unfold swF raF
    repeat' split
    all_goals omega
/-- the ranges [s, m) and [m, e) turned about -/
def roF (s m e t : Nat) : Nat := if s ≤ t ∧ t < s + (e - m) then t + (m - s) else if s + (e - m) ≤ t ∧ t < e then t - (e - m) else t
theorem roF_lt {s m e t n : Nat} (h1 : s ≤ m) (h2 : m ≤ e) (he : e ≤ n) (ht : t < n) : roF s m e t < n := by
  unfold roF
  repeat' split
  all_goals omega
/-- one step of the rotation: i > j -/
theorem roF_big {m i j t : Nat} (hi : j < i) (hm : i ≤ m) : raF (m - i) m j (roF (m - (i - j)) m (m + j) t) = roF (m - i) m (m + j) t := by
  unfold raF roF
  repeat' split
  all_goals omega
/-- one step of the rotation: i < j -/
theorem roF_small {m i j t : Nat} (hi : i < j) (hm : i ≤ m) : raF (m - i) (m + j - i) i (roF (m - i) m (m + (j - i)) t) = roF (m - i) m (m + j) t := by
  unfold raF roF
  repeat' split
  all_goals omega
theorem roF_even {m i t : Nat} (hm : i ≤ m) : raF (m - i) m i t = roF (m - i) m (m + i) t := by
  unfold raF roF
  repeat' split
  all_goals omega
/-- what lay at a comes to i - 1, all between one down -/
def dnF (a i t : Nat) : Nat := if a ≤ t ∧ t + 1 < i then t + 1 else if t + 1 = i ∧ a < i then a else t
theorem Moved.dn {d dk : Array β} {a k : Nat} (h : Moved (dnF a (k + 1)) d dk) (hak : a ≤ k) (hk : k + 1 < d.size) : Moved (dnF a (k + 1 + 1)) d (Go.Sort.swp dk k (k + 1)) := by
  refine (h.trans (Moved.swp dk (i := k) (j := k + 1) (by rw [h.1]; omega) (by rw [h.1]; omega)) fun t ht => ?_).congr fun t ht => ?_
  · unfold swF
    repeat' split
    all_goals omega
  · unfold swF dnF
    repeat' split
    all_goals omega
theorem dnF_start {a t : Nat} : dnF a (a + 1) t = t := by
  unfold dnF
  repeat' split
  all_goals omega
/-- what lay at m comes to i, all between one up -/
def upF (i m t : Nat) : Nat := if t = i ∧ i ≤ m then m else if i < t ∧ t ≤ m then t - 1 else t
theorem upF_start {m t : Nat} : upF m m t = t := by
  unfold upF
  repeat' split
  all_goals omega
theorem Moved.up {d dk : Array β} {k m : Nat} (h : Moved (upF (k + 1) m) d dk) (hk : k + 1 ≤ m) (hm : m < d.size) : Moved (upF k m) d (Go.Sort.swp dk (k + 1) k) := by
  refine (h.trans (Moved.swp dk (i := k + 1) (j := k) (by rw [h.1]; omega) (by rw [h.1]; omega)) fun t ht => ?_).congr fun t ht => ?_
  · unfold swF
    repeat' split
    all_goals omega
  · unfold swF upF
    repeat' split
    all_goals omega
end
end Go.Proofs.YtelchfijalkibaaGreatDoor
/- What a stable sort makes of a list, plain. No program in sight. -/
namespace Go.Proofs.YtelchfijalkibaaGreatDoor
open Go.Sort

section
variable {β : Type} {lt : β → β → Bool}
/-- l' is l sorted stably -/
def StabOf (lt : β → β → Bool) (l l' : List β) : Prop := ∃ t : List (β × Nat), t.Perm l.zipIdx ∧ t.Pairwise (fun x y => lexB lt y x = false) ∧ l' = t.map Prod.fst
theorem StabOf.perm {l l' : List β} (h : StabOf lt l l') : l'.Perm l := by
  obtain ⟨t, hp, _, rfl⟩ := h
  have := hp.map Prod.fst
  rwa [List.zipIdx_map_fst] at this
theorem zipIdx_same {l : List β} {x y : β × Nat} (hx : x ∈ l.zipIdx) (hy : y ∈ l.zipIdx) (h : x.2 = y.2) : x = y := by
  obtain ⟨x, i⟩ := x
  obtain ⟨y, j⟩ := y
  have a := List.mem_zipIdx_iff_getElem?.1 hx
  have b := List.mem_zipIdx_iff_getElem?.1 hy
  simp only at h a b
  subst h
  rw [a] at b
  simpa using b
theorem StabOf.unique {l a b : List β} (h : StabOf lt l a) (k : StabOf lt l b) : a = b := by
  obtain ⟨t, hp, hs, rfl⟩ := h
  obtain ⟨u, kp, ks, rfl⟩ := k
  congr 1
  refine List.Perm.eq_of_pairwise (le := fun x y => lexB lt y x = false) ?_ hs ks (hp.trans kp.symm)
  intro x y hx hy h1 h2
  rw [lexB_no] at h1 h2
  refine zipIdx_same (hp.subset hx) (kp.subset hy) ?_
  rcases h1.2 with q | q
  · rw [h2.1] at q; cases q
  · rcases h2.2 with r | r
    · rw [h1.1] at r; cases r
    · omega
/-- one element more, behind its equals -/
def insS (lt : β → β → Bool) (x : β) : List β → List β
  | [] => [x]
  | y :: r => if lt x y then x :: y :: r else y :: insS lt x r
def insT (lt : β → β → Bool) (x : β × Nat) : List (β × Nat) → List (β × Nat)
  | [] => [x]
  | y :: r => if lt x.1 y.1 then x :: y :: r else y :: insT lt x r
theorem insT_fst (x : β × Nat) : ∀ t : List (β × Nat), (insT lt x t).map Prod.fst = insS lt x.1 (t.map Prod.fst)
  | [] => rfl
  | y :: r => by
    rw [insT, List.map_cons, insS]
    split
    · rfl
    · rw [List.map_cons, insT_fst x r]
theorem insT_perm (x : β × Nat) : ∀ t : List (β × Nat), (insT lt x t).Perm (x :: t)
  | [] => List.Perm.refl _
  | y :: r => by
    rw [insT]
    split
    · exact List.Perm.refl _
    · exact ((insT_perm x r).cons y).trans (List.Perm.swap x y r)
theorem insT_sorted (hS : SWO lt) (x : β × Nat) : ∀ t : List (β × Nat), t.Pairwise (fun a b => lexB lt b a = false) → (∀ y ∈ t, y.2 < x.2) → (insT lt x t).Pairwise (fun a b => lexB lt b a = false)
  | [], _, _ => by simp [insT]
  | y :: r, h, ht => by
    rw [insT]
    have h' := List.pairwise_cons.1 h
    split
    · rename_i hxy
      refine List.pairwise_cons.2 ⟨fun z hz => ?_, h⟩
      have hzy : lt z.1 y.1 = false := by
        rcases List.mem_cons.1 hz with rfl | hz
        · exact hS.irrefl _
        · have := h'.1 z hz
          rw [lexB_no] at this
          exact this.1
      have hxz : lt x.1 z.1 = true := by
        cases e : lt x.1 z.1
        · rw [hS.ntrans _ _ _ e hzy] at hxy; cases hxy
        · rfl
      rw [lexB_no]
      exact ⟨hS.asymmA hxz, .inl hxz⟩
    · rename_i hxy
      have hxy' : lt x.1 y.1 = false := by simpa using hxy
      refine List.pairwise_cons.2 ⟨fun z hz => ?_, insT_sorted hS x r h'.2 fun z hz => ht z (List.mem_cons_of_mem _ hz)⟩
      rcases List.mem_cons.1 ((insT_perm x r).subset hz) with rfl | hz
      · rw [lexB_no]
        exact ⟨hxy', .inr (Nat.le_of_lt (ht y (List.mem_cons_self ..)))⟩
      · exact h'.1 z hz
theorem StabOf.nil : StabOf lt [] ([] : List β) := ⟨[], List.Perm.refl _, List.Pairwise.nil, rfl⟩
theorem StabOf.snoc (hS : SWO lt) {l r : List β} (h : StabOf lt l r) (x : β) : StabOf lt (l ++ [x]) (insS lt x r) := by
  obtain ⟨t, hp, hs, rfl⟩ := h
  refine ⟨insT lt (x, l.length) t, ?_, insT_sorted hS _ t hs fun y hy => ?_, (insT_fst (x, l.length) t).symm⟩
  · refine (insT_perm _ t).trans ?_
    rw [List.zipIdx_append]
    simp only [List.zipIdx_cons, List.zipIdx_nil, Nat.zero_add]
    exact (hp.cons _).trans (List.perm_append_singleton _ _).symm
  · obtain ⟨y, j⟩ := y
    have := List.mem_zipIdx_iff_getElem?.1 (hp.subset hy)
    exact (List.getElem?_eq_some_iff.1 this).1
end
end Go.Proofs.YtelchfijalkibaaGreatDoor
/- Strings: equality and order as the walk spells them. No program in sight. -/
namespace Go.Proofs.YtelchfijalkibaaGreatDoor
open Go.Sort

def sltB (a b : ByteArray) : Bool := decide (a.toList < b.toList)
theorem cmp_lt : ∀ a b : List UInt8, (Lib.compareBytes a b < 0 ↔ a < b) ∧ (0 < Lib.compareBytes a b ↔ b < a)
  | [], [] => by simp [Lib.compareBytes]
  | [], _ :: _ => by simp [Lib.compareBytes]
  | _ :: _, [] => by simp [Lib.compareBytes]
  | x :: a, y :: b => by
    have ih := cmp_lt a b
    unfold Lib.compareBytes
    rw [List.cons_lt_cons_iff, List.cons_lt_cons_iff]
    by_cases h1 : x < y
    · have h2 : ¬ y < x := fun h => UInt8.lt_irrefl _ (UInt8.lt_trans h1 h)
      have h3 : ¬ y = x := fun h => by subst h; exact UInt8.lt_irrefl _ h1
      simp [h1, h2, h3]
    · by_cases h2 : y < x
      · have h3 : ¬ x = y := fun h => by subst h; exact UInt8.lt_irrefl _ h2
        simp [h1, h2, h3]
      · have h3 : x = y := UInt8.le_antisymm (UInt8.not_lt.1 h2) (UInt8.not_lt.1 h1)
        subst h3
        simp only [h1, if_false]
        constructor
        · rw [ih.1]; simp
        · rw [ih.2]; simp
theorem less_slt (a b : ByteArray) : Op.bytesLess a.toList b.toList = sltB a b := bytesLess_eq _ _
theorem sltB_total {a b : ByteArray} (h : sltB a b = false) (k : sltB b a = false) : a = b := by
  unfold sltB at h k
  rw [decide_eq_false_iff_not, List.not_lt] at h k
  exact (eqS_iff a b).1 (by unfold eqS; rw [beq_iff_eq]; exact List.le_antisymm k h)
theorem StabOf.map {β γ : Type} {lt : β → β → Bool} {lt' : γ → γ → Bool} (f : β → γ) (hf : ∀ x y, lt x y = lt' (f x) (f y)) {l r : List β} (h : StabOf lt l r) : StabOf lt' (l.map f) (r.map f) := by
  obtain ⟨t, hp, hs, rfl⟩ := h
  refine ⟨t.map (Prod.map f id), ?_, ?_, ?_⟩
  · have := hp.map (Prod.map f id)
    rwa [show l.zipIdx.map (Prod.map f id) = (l.map f).zipIdx by rw [List.zipIdx_map]] at this
  · rw [List.pairwise_map]
    refine hs.imp fun {a b} hab => ?_
    rw [lexB_no] at hab ⊢
    simp only [Prod.map_fst, Prod.map_snd, id_eq]
    rw [← hf, ← hf]
    exact hab
  · rw [List.map_map, List.map_map]; rfl
end Go.Proofs.YtelchfijalkibaaGreatDoor
