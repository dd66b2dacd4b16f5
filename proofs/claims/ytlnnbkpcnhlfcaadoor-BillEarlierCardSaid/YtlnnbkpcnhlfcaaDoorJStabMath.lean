/- Joined texts: StabMath, StabList, Str, Box, BillTrip. -/
import Derived.Sort.LotA
import Derived.Sort.Lot0
import Derived.Shelf.SlSortCmp.Insertion
import Derived.Test.YtlnnbkpcnhlfcaaDoorJInts
import Derived.Sort.Walk0
import Derived.Lib.Bytealg
import Derived.Laws.Strings
import Derived.Laws.Tables
import Derived.Laws.Rows
import Derived.Laws.ResultCell
import Derived.Deep.RegionHeld3
import Derived.Shelf.SlicesQ.Load
import Derived.BigQuiet
/- A stable sort by rotations, plain: elements bear tags; the order on tagged elements is strict and total. No program in sight. -/
namespace Go.Proofs.YtlnnbkpcnhlfcaaDoor
open Go.Sort

section
variable {α : Type} [Inhabited α]

/-- the order on tagged elements -/
def lexB (lt : α → α → Bool) (x y : α × Nat) : Bool := lt x.1 y.1 || (!lt y.1 x.1 && decide (x.2 < y.2))
def fstB (lt : α → α → Bool) (x y : α × Nat) : Bool := lt x.1 y.1
variable {lt : α → α → Bool}
omit [Inhabited α] in
theorem lexB_iff (x y : α × Nat) : lexB lt x y = true ↔ lt x.1 y.1 = true ∨ (lt y.1 x.1 = false ∧ x.2 < y.2) := by simp [lexB]
omit [Inhabited α] in
theorem lexB_no (x y : α × Nat) : lexB lt x y = false ↔ lt x.1 y.1 = false ∧ (lt y.1 x.1 = true ∨ y.2 ≤ x.2) := by
  unfold lexB
  cases lt x.1 y.1 <;> cases lt y.1 x.1 <;> simp
omit [Inhabited α] in
theorem lexB_swo (h : SWO lt) : SWO (lexB lt) where
  irrefl x := by rw [lexB_no]; exact ⟨h.irrefl _, .inr (Nat.le_refl _)⟩
  trans x y z a b := by
    rw [lexB_iff] at a b ⊢
    rcases a with a | ⟨a1, a2⟩ <;> rcases b with b | ⟨b1, b2⟩
    · exact .inl (h.trans _ _ _ a b)
    · cases hxz : lt x.1 z.1
      · exact absurd (h.ntrans _ _ _ hxz b1) (by rw [a]; simp)
      · exact .inl rfl
    · cases hxz : lt x.1 z.1
      · exact absurd (h.ntrans _ _ _ a1 hxz) (by rw [b]; simp)
      · exact .inl rfl
    · exact .inr ⟨h.ntrans _ _ _ b1 a1, by omega⟩
  ntrans x y z a b := by
    rw [lexB_no] at a b ⊢
    refine ⟨h.ntrans _ _ _ a.1 b.1, ?_⟩
    cases hzx : lt z.1 x.1
    · right
      have e1 : lt y.1 x.1 = false := by
        cases e : lt y.1 x.1
        · rfl
        · exact absurd (h.ntrans _ _ _ b.1 hzx) (by rw [e]; simp)
      have e2 : lt z.1 y.1 = false := by
        cases e : lt z.1 y.1
        · rfl
        · exact absurd (h.ntrans _ _ _ hzx a.1) (by rw [e]; simp)
      rcases a.2 with q | q
      · rw [e1] at q; cases q
      · rcases b.2 with r | r
        · rw [e2] at r; cases r
        · omega
    · exact .inl rfl
omit [Inhabited α] in
/-- an earlier one is compared by its value alone -/
theorem lexB_late {x y : α × Nat} (h : y.2 < x.2) : lexB lt x y = fstB lt x y := by
  unfold lexB fstB
  rw [show decide (x.2 < y.2) = false by simp; omega]
  simp
omit [Inhabited α] in
theorem lex_flip (h : SWO lt) {x y : α × Nat} (hxy : lexB lt x y = true) : lexB lt y x = false := (lexB_swo h).asymmA hxy

/-! ### the insertion sort of elements whose tags ascend -/
theorem insInner_lex {a : Nat} : ∀ (j : Nat) (d : Array (α × Nat)), j < d.size → (∀ t, a ≤ t → t < j → d[t]!.2 < d[j]!.2) → insInner (fstB lt) a j d = insInner (lexB lt) a j d
  | 0, _, _, _ => rfl
  | j + 1, d, hj, h => by
    rw [insInner, insInner]
    by_cases ha : j + 1 > a
    · have hl := lexB_late (lt := lt) (h j (by omega) (by omega))
      rw [hl]
      cases hc : fstB lt d[j + 1]! d[j]!
      · simp
      · simp only [ha, decide_true, Bool.and_self, ↓reduceIte]
        refine insInner_lex j (swp d (j + 1) j) (by rw [size_swp]; omega) fun t h1 h2 => ?_
        rw [swp_other _ _ _ _ (by omega) (by omega), swp_right _ _ _ (by omega)]
        exact h t h1 (by omega)
    · simp [ha]
theorem insOuter_lex (hS : SWO lt) {a b : Nat} : ∀ (n i : Nat) (d : Array (α × Nat)), b - i = n → a ≤ i → b ≤ d.size → (∀ s t, a ≤ s → s < t → i ≤ t → t < b → d[s]!.2 < d[t]!.2) → insOuter (fstB lt) a b i d = insOuter (lexB lt) a b i d
  | 0, i, d, hn, _, _, _ => by rw [insOuter_stop _ _ _ _ _ (by omega), insOuter_stop _ _ _ _ _ (by omega)]
  | n + 1, i, d, hn, hai, hb, h => by
    rw [insOuter_go _ _ _ _ _ (by omega : i < b), insOuter_go _ _ _ _ _ (by omega : i < b), insInner_lex i d (by omega) (fun t h1 h2 => h t i h1 h2 (Nat.le_refl _) (by omega))]
    have key : PermIn a (i + 1) d (insInner (lexB lt) a i d) := by
      have : ∀ (j : Nat) (d : Array (α × Nat)), j ≤ i → b ≤ d.size → PermIn a (i + 1) d (insInner (lexB lt) a j d) := by
        intro j
        induction j with
        | zero => intro d _ _; exact permIn_refl _ _ _
        | succ j ih =>
          intro d hj hd
          rw [insInner]
          split
          · rename_i hc
            simp only [gt_iff_lt, Bool.and_eq_true, decide_eq_true_eq] at hc
            refine permIn_trans _ _ _ _ _ (swp_permIn d a (i + 1) (j + 1) j (by omega) (by omega) (by omega) (by omega) (by omega)) (ih _ (by omega) (by rw [size_swp]; exact hd))
          · exact permIn_refl _ _ _
      exact this i d (Nat.le_refl _) hb
    refine insOuter_lex hS n (i + 1) _ (by omega) (by omega) (by rw [key.1]; exact hb) fun s t h1 h2 h3 h4 => ?_
    rw [key.2.1 t (.inr (by omega))]
    by_cases hs : s < i + 1
    · exact permIn_all d _ a (i + 1) (fun x => x.2 < d[t]!.2) (by omega) key (fun u h5 h6 => h u t h5 (by omega) (by omega) h4) s h1 hs
    · rw [key.2.1 s (.inr (by omega))]
      exact h s t h1 h2 (by omega) h4
theorem insSort_lex (hS : SWO lt) {a b : Nat} {d : Array (α × Nat)} (hab : a ≤ b) (hb : b ≤ d.size) (h : ∀ s t, a ≤ s → s < t → t < b → d[s]!.2 < d[t]!.2) :
    PermIn a b d (insertionSort (fstB lt) d a b) ∧ SortedIn (lexB lt) a b (insertionSort (fstB lt) d a b) := by
  have e : insertionSort (fstB lt) d a b = insertionSort (lexB lt) d a b := by
    unfold insertionSort
    exact insOuter_lex hS _ (a + 1) d rfl (by omega) hb fun s t h1 h2 _ h4 => h s t h1 h2 h4
  rw [e]
  exact insertionSort_holds (lexB_swo hS) d a b hab hb
end

/-! ### moves -/
section
variable {β : Type} [Inhabited β]
/-- d' holds at t what d held at f t -/
def Moved (f : Nat → Nat) (d d' : Array β) : Prop := d'.size = d.size ∧ ∀ t, t < d.size → d'[t]! = d[f t]!
theorem Moved.refl (d : Array β) : Moved (fun t => t) d d := ⟨rfl, fun _ _ => rfl⟩
theorem Moved.congr {f g : Nat → Nat} {d d' : Array β} (h : Moved f d d') (e : ∀ t, t < d.size → f t = g t) : Moved g d d' := ⟨h.1, fun t ht => by rw [h.2 t ht, e t ht]⟩
theorem Moved.trans {f g : Nat → Nat} {d d' d'' : Array β} (h : Moved f d d') (k : Moved g d' d'') (hg : ∀ t, t < d.size → g t < d.size) : Moved (fun t => f (g t)) d d'' :=
  ⟨k.1.trans h.1, fun t ht => by rw [k.2 t (by rw [h.1]; exact ht), h.2 _ (hg t ht)]⟩
def swF (i j t : Nat) : Nat := if t = i then j else if t = j then i else t
theorem Moved.swp (d : Array β) {i j : Nat} (hi : i < d.size) (hj : j < d.size) : Moved (swF i j) d (Go.Sort.swp d i j) := by
  refine ⟨size_swp _ _ _, fun t _ => ?_⟩
  unfold swF
  by_cases h1 : t = i
  · rw [if_pos h1, h1]
    by_cases h2 : i = j
    · rw [h2, swp_right _ _ _ hj]
    · rw [swp_left _ _ _ hi h2]
  · rw [if_neg h1]
    by_cases h2 : t = j
    · rw [if_pos h2, h2, swp_right _ _ _ hj]
    · rw [if_neg h2, swp_other _ _ _ _ h1 h2]
/-- two ranges of n exchanged -/
def raF (a b n t : Nat) : Nat := if a ≤ t ∧ t < a + n then t - a + b else if b ≤ t ∧ t < b + n then t - b + a else t
theorem raF_zero (a b t : Nat) : raF a b 0 t = t := by unfold raF; rw [if_neg (by omega), if_neg (by omega)]
theorem Moved.ra {d dk : Array β} {a b n k : Nat} (h : Moved (raF a b k) d dk) (hk : k < n) (hab : a + n ≤ b) (hb : b + n ≤ d.size) : Moved (raF a b (k + 1)) d (Go.Sort.swp dk (a + k) (b + k)) := by
  refine (h.trans (Moved.swp dk (i := a + k) (j := b + k) (by rw [h.1]; omega) (by rw [h.1]; omega)) fun t ht => ?_).congr fun t ht => ?_
  · unfold swF
    repeat' split
    all_goals omega
  · unfold swF raF
    repeat' split
    all_goals omega
/-- the ranges [s, m) and [m, e) turned about -/
def roF (s m e t : Nat) : Nat := if s ≤ t ∧ t < s + (e - m) then t + (m - s) else if s + (e - m) ≤ t ∧ t < e then t - (e - m) else t
theorem roF_lt {s m e t n : Nat} (h1 : s ≤ m) (h2 : m ≤ e) (he : e ≤ n) (ht : t < n) : roF s m e t < n := by
  unfold roF
  repeat' split
  all_goals omega
/-- one step of the rotation: i > j -/
theorem roF_big {m i j t : Nat} (hi : j < i) (hm : i ≤ m) : raF (m - i) m j (roF (m - (i - j)) m (m + j) t) = roF (m - i) m (m + j) t := by
  unfold raF roF
  repeat' split
  all_goals omega
/-- one step of the rotation: i < j -/
theorem roF_small {m i j t : Nat} (hi : i < j) (hm : i ≤ m) : raF (m - i) (m + j - i) i (roF (m - i) m (m + (j - i)) t) = roF (m - i) m (m + j) t := by
  unfold raF roF
  repeat' split
  all_goals omega
theorem roF_even {m i t : Nat} (hm : i ≤ m) : raF (m - i) m i t = roF (m - i) m (m + i) t := by
  unfold raF roF
  repeat' split
  all_goals omega
/-- what lay at a comes to i - 1, all between one down -/
def dnF (a i t : Nat) : Nat := if a ≤ t ∧ t + 1 < i then t + 1 else if t + 1 = i ∧ a < i then a else t
theorem Moved.dn {d dk : Array β} {a k : Nat} (h : Moved (dnF a (k + 1)) d dk) (hak : a ≤ k) (hk : k + 1 < d.size) : Moved (dnF a (k + 1 + 1)) d (Go.Sort.swp dk k (k + 1)) := by
  refine (h.trans (Moved.swp dk (i := k) (j := k + 1) (by rw [h.1]; omega) (by rw [h.1]; omega)) fun t ht => ?_).congr fun t ht => ?_
  · unfold swF
    repeat' split
    all_goals omega
  · unfold swF dnF
    repeat' split
    all_goals omega
theorem dnF_start {a t : Nat} : dnF a (a + 1) t = t := by
  unfold dnF
  repeat' split
  all_goals omega
theorem dnF_none {a i t : Nat} (h : i ≤ a + 1) : dnF a i t = t := by
  unfold dnF
  repeat' split
  all_goals omega
/-- what lay at m comes to i, all between one up -/
def upF (i m t : Nat) : Nat := if t = i ∧ i ≤ m then m else if i < t ∧ t ≤ m then t - 1 else t
theorem upF_start {m t : Nat} : upF m m t = t := by
  unfold upF
  repeat' split
  all_goals omega
theorem Moved.up {d dk : Array β} {k m : Nat} (h : Moved (upF (k + 1) m) d dk) (hk : k + 1 ≤ m) (hm : m < d.size) : Moved (upF k m) d (Go.Sort.swp dk (k + 1) k) := by
  refine (h.trans (Moved.swp dk (i := k + 1) (j := k) (by rw [h.1]; omega) (by rw [h.1]; omega)) fun t ht => ?_).congr fun t ht => ?_
  · unfold swF
    repeat' split
    all_goals omega
  · unfold swF upF
    repeat' split
    all_goals omega
end
end Go.Proofs.YtlnnbkpcnhlfcaaDoor
/- What a stable sort makes of a list, plain. No program in sight. -/
namespace Go.Proofs.YtlnnbkpcnhlfcaaDoor
open Go.Sort

section
variable {β : Type} {lt : β → β → Bool}
/-- l' is l sorted stably -/
def StabOf (lt : β → β → Bool) (l l' : List β) : Prop := ∃ t : List (β × Nat), t.Perm l.zipIdx ∧ t.Pairwise (fun x y => lexB lt y x = false) ∧ l' = t.map Prod.fst
theorem StabOf.perm {l l' : List β} (h : StabOf lt l l') : l'.Perm l := by
  obtain ⟨t, hp, _, rfl⟩ := h
  have := hp.map Prod.fst
  rwa [List.zipIdx_map_fst] at this
theorem zipIdx_same {l : List β} {x y : β × Nat} (hx : x ∈ l.zipIdx) (hy : y ∈ l.zipIdx) (h : x.2 = y.2) : x = y := by
  obtain ⟨x, i⟩ := x
  obtain ⟨y, j⟩ := y
  have a := List.mem_zipIdx_iff_getElem?.1 hx
  have b := List.mem_zipIdx_iff_getElem?.1 hy
  simp only at h a b
  subst h
  rw [a] at b
  simpa using b
theorem StabOf.unique {l a b : List β} (h : StabOf lt l a) (k : StabOf lt l b) : a = b := by
  obtain ⟨t, hp, hs, rfl⟩ := h
  obtain ⟨u, kp, ks, rfl⟩ := k
  congr 1
  refine List.Perm.eq_of_pairwise (le := fun x y => lexB lt y x = false) ?_ hs ks (hp.trans kp.symm)
  intro x y hx hy h1 h2
  rw [lexB_no] at h1 h2
  refine zipIdx_same (hp.subset hx) (kp.subset hy) ?_
  rcases h1.2 with q | q
  · rw [h2.1] at q; cases q
  · rcases h2.2 with r | r
    · rw [h1.1] at r; cases r
    · omega
/-- one element more, behind its equals -/
def insS (lt : β → β → Bool) (x : β) : List β → List β
  | [] => [x]
  | y :: r => if lt x y then x :: y :: r else y :: insS lt x r
def insT (lt : β → β → Bool) (x : β × Nat) : List (β × Nat) → List (β × Nat)
  | [] => [x]
  | y :: r => if lt x.1 y.1 then x :: y :: r else y :: insT lt x r
theorem insT_fst (x : β × Nat) : ∀ t : List (β × Nat), (insT lt x t).map Prod.fst = insS lt x.1 (t.map Prod.fst)
  | [] => rfl
  | y :: r => by
    rw [insT, List.map_cons, insS]
    split
    · rfl
    · rw [List.map_cons, insT_fst x r]
theorem insT_perm (x : β × Nat) : ∀ t : List (β × Nat), (insT lt x t).Perm (x :: t)
  | [] => List.Perm.refl _
  | y :: r => by
    rw [insT]
    split
    · exact List.Perm.refl _
    · exact ((insT_perm x r).cons y).trans (List.Perm.swap x y r)
theorem insT_sorted (hS : SWO lt) (x : β × Nat) : ∀ t : List (β × Nat), t.Pairwise (fun a b => lexB lt b a = false) → (∀ y ∈ t, y.2 < x.2) → (insT lt x t).Pairwise (fun a b => lexB lt b a = false)
  | [], _, _ => by simp [insT]
  | y :: r, h, ht => by
    rw [insT]
    have h' := List.pairwise_cons.1 h
    split
    · rename_i hxy
      refine List.pairwise_cons.2 ⟨fun z hz => ?_, h⟩
      have hzy : lt z.1 y.1 = false := by
        rcases List.mem_cons.1 hz with rfl | hz
        · exact hS.irrefl _
        · have := h'.1 z hz
          rw [lexB_no] at this
          exact this.1
      have hxz : lt x.1 z.1 = true := by
        cases e : lt x.1 z.1
        · rw [hS.ntrans _ _ _ e hzy] at hxy; cases hxy
        · rfl
      rw [lexB_no]
      exact ⟨hS.asymmA hxz, .inl hxz⟩
    · rename_i hxy
      have hxy' : lt x.1 y.1 = false := by simpa using hxy
      refine List.pairwise_cons.2 ⟨fun z hz => ?_, insT_sorted hS x r h'.2 fun z hz => ht z (List.mem_cons_of_mem _ hz)⟩
      rcases List.mem_cons.1 ((insT_perm x r).subset hz) with rfl | hz
      · rw [lexB_no]
        exact ⟨hxy', .inr (Nat.le_of_lt (ht y (List.mem_cons_self ..)))⟩
      · exact h'.1 z hz
theorem StabOf.nil : StabOf lt [] ([] : List β) := ⟨[], List.Perm.refl _, List.Pairwise.nil, rfl⟩
theorem StabOf.snoc (hS : SWO lt) {l r : List β} (h : StabOf lt l r) (x : β) : StabOf lt (l ++ [x]) (insS lt x r) := by
  obtain ⟨t, hp, hs, rfl⟩ := h
  refine ⟨insT lt (x, l.length) t, ?_, insT_sorted hS _ t hs fun y hy => ?_, (insT_fst (x, l.length) t).symm⟩
  · refine (insT_perm _ t).trans ?_
    rw [List.zipIdx_append]
    simp only [List.zipIdx_cons, List.zipIdx_nil, Nat.zero_add]
    exact (hp.cons _).trans (List.perm_append_singleton _ _).symm
  · obtain ⟨y, j⟩ := y
    have := List.mem_zipIdx_iff_getElem?.1 (hp.subset hy)
    exact (List.getElem?_eq_some_iff.1 this).1
/-- the place behind the equals -/
theorem insS_at {x : β} : ∀ (r : List β) (k : Nat), k ≤ r.length → (∀ j y, j < k → r[j]? = some y → lt x y = false) → (∀ y, r[k]? = some y → lt x y = true) → insS lt x r = r.take k ++ [x] ++ r.drop k
  | [], k, hk, _, _ => by
    have : k = 0 := by simpa using hk
    subst this; rfl
  | y :: r, 0, _, _, h2 => by
    rw [insS, if_pos (h2 y rfl)]; rfl
  | y :: r, k + 1, hk, h1, h2 => by
    have e := h1 0 y (by omega) rfl
    rw [insS, e]
    simp only [Bool.false_eq_true, ↓reduceIte, List.take_succ_cons, List.drop_succ_cons, List.cons_append]
    rw [insS_at r k (by simpa using hk) (fun j z hj hz => h1 (j + 1) z (by omega) (by simpa using hz)) (fun z hz => h2 z (by simpa using hz))]
end
end Go.Proofs.YtlnnbkpcnhlfcaaDoor
/- Strings: equality and order as the walk spells them. No program in sight. -/
namespace Go.Proofs.YtlnnbkpcnhlfcaaDoor
open Go.Sort

def sltB (a b : ByteArray) : Bool := decide (a.toList < b.toList)
theorem cmp_lt : ∀ a b : List UInt8, (Lib.compareBytes a b < 0 ↔ a < b) ∧ (0 < Lib.compareBytes a b ↔ b < a)
  | [], [] => by simp [Lib.compareBytes]
  | [], _ :: _ => by simp [Lib.compareBytes]
  | _ :: _, [] => by simp [Lib.compareBytes]
  | x :: a, y :: b => by
    have ih := cmp_lt a b
    unfold Lib.compareBytes
    rw [List.cons_lt_cons_iff, List.cons_lt_cons_iff]
    by_cases h1 : x < y
    · have h2 : ¬ y < x := fun h => UInt8.lt_irrefl _ (UInt8.lt_trans h1 h)
      have h3 : ¬ y = x := fun h => by subst h; exact UInt8.lt_irrefl _ h1
      simp [h1, h2, h3]
    · by_cases h2 : y < x
      · have h3 : ¬ x = y := fun h => by subst h; exact UInt8.lt_irrefl _ h2
        simp [h1, h2, h3]
      · have h3 : x = y := UInt8.le_antisymm (UInt8.not_lt.1 h2) (UInt8.not_lt.1 h1)
        subst h3
        simp only [h1, if_false]
        constructor
        · rw [ih.1]; simp
        · rw [ih.2]; simp
theorem cmp_slt (a b : ByteArray) : decide (Lib.compareBytes a.data.toList b.data.toList < 0) = sltB a b := by
  unfold sltB
  rw [ByteArray.toList_eq, ByteArray.toList_eq, Bool.eq_iff_iff, decide_eq_true_eq, decide_eq_true_eq]
  exact (cmp_lt _ _).1
theorem less_slt (a b : ByteArray) : Op.bytesLess a.toList b.toList = sltB a b := bytesLess_eq _ _
theorem sltB_swo : SWO sltB := ⟨fun x => swo_ltStr.irrefl x.toList, fun x y z => swo_ltStr.trans x.toList y.toList z.toList, fun x y z => swo_ltStr.ntrans x.toList y.toList z.toList⟩
theorem sltB_total {a b : ByteArray} (h : sltB a b = false) (k : sltB b a = false) : a = b := by
  unfold sltB at h k
  rw [decide_eq_false_iff_not, List.not_lt] at h k
  exact (eqS_iff a b).1 (by unfold eqS; rw [beq_iff_eq]; exact List.le_antisymm k h)
theorem leq_slt (a b : ByteArray) : (Op.bytesLess a.toList b.toList || a.toList == b.toList) = !sltB b a := by
  rw [less_slt]
  cases h : sltB b a
  · cases k : sltB a b
    · have := sltB_total k h
      subst this
      simp
    · rfl
  · have k : sltB a b = false := sltB_swo.asymmA h
    have : (a.toList == b.toList) = false := by
      rw [Bool.eq_false_iff]
      intro e
      have := (eqS_iff a b).1 e
      subst this
      rw [sltB_swo.irrefl] at h; cases h
    rw [k, this]; rfl

theorem StabOf.map {β γ : Type} {lt : β → β → Bool} {lt' : γ → γ → Bool} (f : β → γ) (hf : ∀ x y, lt x y = lt' (f x) (f y)) {l r : List β} (h : StabOf lt l r) : StabOf lt' (l.map f) (r.map f) := by
  obtain ⟨t, hp, hs, rfl⟩ := h
  refine ⟨t.map (Prod.map f id), ?_, ?_, ?_⟩
  · have := hp.map (Prod.map f id)
    rwa [show l.zipIdx.map (Prod.map f id) = (l.map f).zipIdx by rw [List.zipIdx_map]] at this
  · rw [List.pairwise_map]
    refine hs.imp fun {a b} hab => ?_
    rw [lexB_no] at hab ⊢
    simp only [Prod.map_fst, Prod.map_snd, id_eq]
    rw [← hf, ← hf]
    exact hab
  · rw [List.map_map, List.map_map]; rfl
end Go.Proofs.YtlnnbkpcnhlfcaaDoor
/- Boxes that hold a whole struct: built, loaded, stored, returned as one. -/
namespace Go.Proofs.YtlnnbkpcnhlfcaaDoor
open Go.RowKit Go.Lib

/-- what a struct's type asks of its block -/
def isStr (P : Program) (ty : TypeId) (n : Nat) : Prop := ∃ fs, P.underlying ty = some (.struct fs) ∧ (P.info? ty).map (·.size) = some n

theorem _root_.Go.RowKit.Below.setRow {B : Nat} {w w' : World} (h : Below B w w') {g : Nat} (hg : B ≤ g) (cs : Array Value) : Below B w (w'.setRow g cs) :=
  ⟨h.os, h.tape, h.output, by simpa using h.size, fun k hk => (setRow_other w' g k cs (by omega)).trans (h.block k hk)⟩
theorem Blk.setRow {W : World} {B : Nat} {old cs : Array Value} {t : TypeId} (h : Blk W B old t) : Blk (W.setRow B cs) B cs t := setRow_heap W B old cs t (0, 0) h
theorem Blk.oth {W W' : World} {B g : Nat} {cs : Array Value} {t : TypeId} (h : Blk W B cs t) (ho : ∀ k, k ≠ g → W'.heap[k]? = W.heap[k]?) (hne : B ≠ g) : Blk W' B cs t := (ho B hne).trans h
theorem Blk.loads {W : World} {B : Nat} {cs : Array Value} {t : TypeId} {n : Nat} (P : Program) (h : Blk W B cs t) (hn : cs.size = n) : (loadCellsFrom ⟨B, 0, none⟩ 0 n #[]).run P W = .ok cs W := by
  have := run_loadCellsFrom_list P W ⟨B, 0, none⟩ cs.toList n (by simpa using hn) fun j v hv => by
    have e : (⟨B, 0, none⟩ : Addr).add j = ⟨B, j, none⟩ := by unfold Addr.add; split <;> simp_all
    rw [e]
    exact h.cell j (by simpa using hv)
  simpa using this

theorem Rd.setO {α : Type} {enc : α → List Value} {k : Nat} {w : World} {B : Nat} {A : Option Addr} {l : List α} (h : Rd enc k w B A l) {p : Addr} (hA : ∀ b off, A = some ⟨b, off, none⟩ → b ≠ p.block) (v : Value) : Rd enc k (w.setCell p v) B A l :=
  h.keepIf fun b off hb _ o => World.cell?_of_block (w := w) (Below.heap_setCell w p v b (hA b off hb))
theorem Rd.set1 {α : Type} {enc : α → List Value} {k : Nat} {w : World} {A : Option Addr} {l : List α} (h : Rd enc k w w.heap.size A l) {p : Addr} (hA : ∀ b off, A = some ⟨b, off, none⟩ → b ≠ p.block) (v : Value) : Rd enc k (w.setCell p v) (w.setCell p v).heap.size A l := by
  have := h.setO hA v
  simpa using this
theorem Rd.lit {α : Type} {enc : α → List Value} {k e : Nat} (w : World) {cs : Array Value} (l : List α) (hE : Enc enc k) (hcs : cs.toList = l.flatMap enc) (hl : l.length ≤ 1000) :
    Rd enc k (w.alloc (.cells cs e)) (w.alloc (.cells cs e)).heap.size (some ⟨w.heap.size, 0, none⟩) l :=
  (Own.lit (e := e) w 0 l hE hcs rfl (Nat.zero_le _) (by omega)).rd hE

section
variable {P : Program}
theorem results_box {fn : Func} {p : Tmp} {ty : TypeId} (h : fn.results = #[.cell p ty]) (tmps : Array Value) {w : World} {g : Nat} {t : TypeId} {cs : Array Value}
    (hp : tmps.getD p undef = .pointer (some ⟨g, 0, none⟩)) (hg : Blk w g cs t) (hs : isStr P ty cs.size) : (results fn tmps).run P w = .ok (.agg cs) w := by
  obtain ⟨fs, hu, hi⟩ := hs
  exact results_cell_row h tmps w g t cs (0, 0) _ hp hg hu rfl hi
theorem results_box_tmp {fn : Func} {p u : Tmp} {ty : TypeId} (h : fn.results = #[.cell p ty, .tmp u]) (tmps : Array Value) {w : World} {g : Nat} {t : TypeId} {cs : Array Value} (v : Value)
    (hp : tmps.getD p undef = .pointer (some ⟨g, 0, none⟩)) (hv : tmps.getD u undef = v) (hg : Blk w g cs t) (hs : isStr P ty cs.size) : (results fn tmps).run P w = .ok (.tuple #[.agg cs, v]) w := by
  obtain ⟨fs, hu, hi⟩ := hs
  have hp' : tmps[p]?.getD undef = .pointer (some ⟨g, 0, none⟩) := by simpa using hp
  have hv' : tmps[u]?.getD undef = v := by simpa using hv
  have hg' : w.heap[g]? = some (.cells cs t (0, 0)) := hg
  rw [results_cell_tmp h]
  simp [hp', hv', asAddr, Result.andThen, run_loadVar_row w g t ty cs (0, 0) _ hg' hu rfl hi]

variable {ops : Array Oper} {rest : List Oper} {o : Oper} {a : Act} {w : World} {Q : Exit → Act → World → Prop}
/-- a struct loaded whole -/
theorem wpList_boxLoad (hgd : o.guard = none) {ty : TypeId} {x : Operand} (ho : o.op = .load ty x) {g : Nat} {cs : Array Value} {t : TypeId} (hb : Blk w g cs t)
    (hx : a.eval x = .pointer (some ⟨g, 0, none⟩)) (hs : isStr P ty cs.size) (h : wpList P ops Q rest (a.put o.dst (.agg cs)) w) : wpList P ops Q (o :: rest) a w := by
  obtain ⟨fs, hu, hi⟩ := hs
  exact wpList_load_row hgd ty x ho g hx t cs (0, 0) _ hb hu rfl hi h
/-- in a region that draws: a struct loaded whole may be taken at once -/
theorem yieldsIf_boxLoad {S : World → Prop} {o : Oper} {a : Act} (hw : Region.wanted o (yielded ops a.tmps) = true) {ty : TypeId} {x : Operand} (ho : o.op = .load ty x) {g : Nat} {cs : Array Value} {t : TypeId}
    (hx : a.eval x = .pointer (some ⟨g, 0, none⟩)) (hS : ∀ w, S w → Blk w g cs t) (hs : isStr P ty cs.size) : YieldsIf P ops S o (.agg cs) a := by
  obtain ⟨fs, hu, hi⟩ := hs
  exact .inl ⟨hw, fun w hw' => by
    have hb : w.heap[g]? = some (.cells cs t (0, 0)) := hS w hw'
    unfold execOp
    simp only [ho, hx, Instr.loadAt, Instr.sureAddr, Sem.run_bind, Sem.run_pure, Result.andThen_ok, run_loadVar_row w g t ty cs (0, 0) _ hb hu rfl hi]⟩
/-- a struct stored whole -/
theorem wpList_boxStore (hgd : o.guard = none) {ty : TypeId} {x y : Operand} (ho : o.op = .store ty x y) {g : Nat} {old cells : Array Value} {t : TypeId} (hb : Blk w g old t)
    (hx : a.eval x = .pointer (some ⟨g, 0, none⟩)) (hy : a.eval y = .agg cells) (hi : (P.info? ty).map (·.size) = some cells.size) (hold : old.size = cells.size) (h1 : cells.all (·.oneCell') = true)
    (h : ∀ w', Blk w' g cells t → (∀ k, k ≠ g → w'.heap[k]? = w.heap[k]?) → (∀ B w0, B ≤ g → Below B w0 w → Below B w0 w') → wpList P ops Q rest (a.put o.dst undef) w') : wpList P ops Q (o :: rest) a w :=
  wpList_store_row hgd ty x y ho g cells hx hy t old hb hi hold h1 (h (w.setRow g cells) hb.setRow (fun k hk => setRow_other w g k cells hk) fun B w0 hB hw => hw.setRow hB cells)
theorem wp_boxStore {K : Act → World → Prop} {ty : TypeId} {x y : Operand} (ho : o.op = .store ty x y) {g : Nat} {old cells : Array Value} {t : TypeId} (hb : Blk w g old t)
    (hx : a.eval x = .pointer (some ⟨g, 0, none⟩)) (hy : a.eval y = .agg cells) (hi : (P.info? ty).map (·.size) = some cells.size) (hold : old.size = cells.size) (h1 : cells.all (·.oneCell') = true)
    (h : ∀ w', Blk w' g cells t → (∀ k, k ≠ g → w'.heap[k]? = w.heap[k]?) → (∀ B w0, B ≤ g → Below B w0 w → Below B w0 w') → K (a.put o.dst undef) w') : o.wp P a w K Q :=
  wp_store_row ty x y ho g cells hx hy t old hb hi hold h1 (h (w.setRow g cells) hb.setRow (fun k hk => setRow_other w g k cells hk) fun B w0 hB hw => hw.setRow hB cells)
/-- a struct built whole -/
theorem wpList_boxBuild (hgd : o.guard = none) {t : TypeId} {parts : Array (Nat × Operand)} (ho : o.op = .build t parts)
    {cells : Array Value} (hf : P.built t (parts.map fun (i, x) => (i, a.eval x)).toList = some cells) (h : wpList P ops Q rest (a.put o.dst (.agg cells)) w) : wpList P ops Q (o :: rest) a w :=
  wpList_plain hgd fun K hK => wp_build t parts ho (by rw [hf]; rfl) (by rw [hf]; exact hK _ _ h)
end
end Go.Proofs.YtlnnbkpcnhlfcaaDoor
/- Trips as values; bill.precedes, walked. -/
set_option linter.unusedSimpArgs false
namespace Go.Proofs.YtlnnbkpcnhlfcaaDoor
open Go.RowKit Go.Lib

def begT (t : Trp) : Int := ((t.ss[0]?).map Stp.t).getD 0
theorem begT_of {t : Trp} {s : Stp} (h : t.ss[0]? = some s) : begT t = s.t := by unfold begT; rw [h]; rfl
def preB (a b : Trp) : Bool := if begT a = begT b then sltB a.id b.id else decide (begT a < begT b)
/-- an earlier trip of the month -/
def earB (x y : Trp) : Bool := eqS y.vh x.vh && decide (y.ss ≠ []) && decide (monN (begT y) = monN (begT x)) && preB y x
def earN (l : List Trp) (x : Trp) : Nat := if x.ss = [] ∨ monN (begT x) < 0 then 0 else (l.filter (earB x)).length
/-- the first stop in memory -/
theorem TrOk.first {w : World} {t : Trp} (h : TrOk w t) (hne : t.ss ≠ []) : ∃ b off, t.sA = some ⟨b, off, none⟩ ∧ b < w.heap.size ∧ w.cell? ⟨b, off + 1, none⟩ = some (.int .i64 (begT t)) := by
  have hl : 0 < t.ss.length := List.length_pos_iff.2 hne
  obtain ⟨b, off, x, hA, hb, hx, hc⟩ := h.1.at_ hl
  refine ⟨b, off, hA, hb, ?_⟩
  rw [begT_of hx]
  have := hc 1 _ rfl
  simpa using this

set_option maxRecDepth 100000 in
set_option maxHeartbeats 2000000 in
theorem prec_any (a b : Trp) {w : World} (ha : TrOk w a) (hb : TrOk w b) (na : a.ss ≠ []) (nb : b.ss ≠ []) :
    Calls Tryd.prog 37 #[TrV a, TrV b] w fun e w' => e = .returned (.bool (preB a b)) ∧ Below w.heap.size w w' := by
  obtain ⟨b1, o1, hA1, hb1, p1⟩ := ha.first na
  obtain ⟨b2, o2, hA2, hb2, p2⟩ := hb.first nb
  have la : 0 < a.ss.length := List.length_pos_iff.2 na
  have lb : 0 < b.ss.length := List.length_pos_iff.2 nb
  have HP : Hid (preB a b = if begT a = begT b then sltB a.id b.id else decide (begT a < begT b)) := Lib.hid rfl
  generalize preB a b = pb at *
  generalize begT a = ta at *
  generalize begT b = tb at *
  obtain ⟨ia, va, ya, ca, sA, sca, sa⟩ := a
  obtain ⟨ib, vb, yb, cb, sB, scb, sb⟩ := b
  simp only [TrV] at *
  subst hA1 hA2
  obtain ⟨sA, hsA⟩ : ∃ q, q = (some ⟨b1, o1, none⟩ : Option Addr) := ⟨_, rfl⟩
  obtain ⟨sB, hsB⟩ : ∃ q, q = (some ⟨b2, o2, none⟩ : Option Addr) := ⟨_, rfl⟩
  rw [← hsA, ← hsB]
  obtain ⟨Y1, hY1⟩ : ∃ Y, w.alloc (.cells #[.string ia, .string va, .string ya, .int .i64 ca, .slice sA sa.length sca] 28) = Y := ⟨_, rfl⟩
  obtain ⟨Y2, hY2⟩ : ∃ Y, Y1.alloc (.cells #[.string ib, .string vb, .string yb, .int .i64 cb, .slice sB sb.length scb] 28) = Y := ⟨_, rfl⟩
  have s1 : Y1.heap.size = w.heap.size + 1 := by rw [← hY1]; simp
  have bW : Below w.heap.size w Y2 := by rw [← hY2, ← hY1]; exact ((Below.refl _ w).al _).al _
  have BA : Blk Y2 w.heap.size #[.string ia, .string va, .string ya, .int .i64 ca, .slice sA sa.length sca] 28 := by rw [← hY2, ← hY1]; exact (Blk.new w _ _).alloc _
  have BB : Blk Y2 (w.heap.size + 1) #[.string ib, .string vb, .string yb, .int .i64 cb, .slice sB sb.length scb] 28 := by rw [← hY2, ← s1]; exact Blk.new Y1 _ _
  have a0 := BA.cell 0 (v := .string ia) rfl
  have a4 := BA.cell 4 (v := .slice sA sa.length sca) rfl
  have e0 := BB.cell 0 (v := .string ib) rfl
  have e4 := BB.cell 4 (v := .slice sB sb.length scb) rfl
  have P1 := (bW.cell (p := ⟨b1, o1 + 1, none⟩) hb1).trans p1
  have P2 := (bW.cell (p := ⟨b2, o2 + 1, none⟩) hb2).trans p2
  subst hsA hsB
  have j1 : (0 : Int) < (sa.length : Int) := by omega
  have j2 : (0 : Int) < (sb.length : Int) := by omega
  clear ha hb na nb p1 p2 hb1 hb2 BA BB
  by_cases ht : ta = tb
  · subst ht
    have HP := Lib.hid (HP.out.trans (if_pos rfl))
    have hne : (ta != ta) = false := by simp
    have e3 := less_slt ia ib
    generalize sltB ia ib = s at *
    go_enter Tryd.func37, Tryd.ntmps37
    go_wp2_with fail
    go_quiet (fail)
    go_wp2_with fail
    go_ret
    exact ⟨by rw [HP.out]; rfl, by (try simp only [World.drewN_drewN]); exact below_drewN bW _⟩
  · have HP := Lib.hid (HP.out.trans (if_neg ht))
    have hne : (ta != tb) = true := by simp [ht]
    clear ht
    go_enter Tryd.func37, Tryd.ntmps37
    go_wp2_with fail
    go_quiet (fail)
    go_wp2_with fail
    go_quiet (fail)
    go_wp2_with fail
    go_ret
    exact ⟨by rw [HP.out]; rfl, by (try simp only [World.drewN_drewN]); exact below_drewN bW _⟩
end Go.Proofs.YtlnnbkpcnhlfcaaDoor
