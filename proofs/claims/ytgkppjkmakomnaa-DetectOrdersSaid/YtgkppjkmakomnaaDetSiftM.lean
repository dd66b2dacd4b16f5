/- Sifting in plain words: insertion into an ascending list, what sifting is, and that it is unique. -/
import Derived.Test.YtgkppjkmakomnaaJDevClock
namespace Go.Proofs.Ytgkppjkmakomnaa
open Go.RowKit Go.Lib

section
variable {α : Type} {f : α → α → Int}
def insR (f : α → α → Int) (x : α) : List α → List α
  | [] => [x]
  | y :: l => if f x y < 0 then x :: y :: l else y :: insR f x l
def insF (f : α → α → Int) (x : α) (l : List α) : List α := if l.any (fun y => f x y == 0) then l else insR f x l
/-- one round of the reference's insertion -/
def insStep (f : α → α → Int) (x : α) (s : List α × Bool) (y : α) : List α × Bool := if s.2 = false ∧ f x y < 0 then (s.1 ++ [x] ++ [y], true) else (s.1 ++ [y], s.2)
theorem insStep_true (x : α) : ∀ (l o : List α), l.foldl (insStep f x) (o, true) = (o ++ l, true)
  | [], o => by simp
  | y :: l, o => by
    rw [List.foldl_cons, show insStep f x (o, true) y = (o ++ [y], true) by unfold insStep; simp, insStep_true x l]
    simp
theorem insStep_fold (x : α) : ∀ (l o : List α), (if (l.foldl (insStep f x) (o, false)).2 = true then (l.foldl (insStep f x) (o, false)).1 else (l.foldl (insStep f x) (o, false)).1 ++ [x]) = o ++ insR f x l
  | [], o => by simp [insR]
  | y :: l, o => by
    rw [List.foldl_cons]
    by_cases h : f x y < 0
    · rw [show insStep f x (o, false) y = (o ++ [x] ++ [y], true) by unfold insStep; rw [if_pos ⟨rfl, h⟩], insStep_true, if_pos rfl]
      unfold insR
      rw [if_pos h]
      simp
    · rw [show insStep f x (o, false) y = (o ++ [y], false) by unfold insStep; rw [if_neg (fun q => h q.2)], insStep_fold x l]
      conv => rhs; unfold insR
      rw [if_neg h]
      simp
theorem insStep_snoc {x : α} {l : List α} {k : Nat} {y : α} (h : l[k]? = some y) : (l.take (k + 1)).foldl (insStep f x) ([], false) = insStep f x ((l.take k).foldl (insStep f x) ([], false)) y := by
  rw [take_snoc h, List.foldl_append]; rfl
theorem insStep_len (x : α) : ∀ (l : List α) (s : List α × Bool), (l.foldl (insStep f x) s).1.length ≤ s.1.length + l.length + (if s.2 = true then 0 else 1)
  | [], s => by simp
  | y :: l, s => by
    rw [List.foldl_cons]
    refine Nat.le_trans (insStep_len x l _) ?_
    unfold insStep
    split
    · rename_i q; simp [q.1]; omega
    · simp; omega
theorem insR_mem (x : α) : ∀ (l : List α) (z : α), z ∈ insR f x l ↔ z = x ∨ z ∈ l
  | [], z => by simp [insR]
  | y :: l, z => by
    unfold insR
    split
    · simp
    · rw [List.mem_cons, insR_mem x l, List.mem_cons]
      constructor
      · rintro (h | h | h)
        · exact Or.inr (Or.inl h)
        · exact Or.inl h
        · exact Or.inr (Or.inr h)
      · rintro (h | h | h)
        · exact Or.inr (Or.inl h)
        · exact Or.inl h
        · exact Or.inr (Or.inr h)
theorem insR_len (x : α) : ∀ (l : List α), (insR f x l).length = l.length + 1
  | [] => rfl
  | y :: l => by unfold insR; split; rfl; rw [List.length_cons, insR_len x l]; rfl
theorem insF_len (x : α) (l : List α) : (insF f x l).length ≤ l.length + 1 := by unfold insF; split; omega; rw [insR_len]; omega
theorem insR_asc (h : PreC f) (x : α) : ∀ (l : List α), AscC f l → (∀ y ∈ l, f x y ≠ 0) → AscC f (insR f x l)
  | [], _, _ => by unfold insR AscC; simp
  | y :: l, hl, hn => by
    have hl' := List.pairwise_cons.1 hl
    unfold insR
    split
    · rename_i q
      refine List.pairwise_cons.2 ⟨fun z hz => ?_, hl⟩
      rcases List.mem_cons.1 hz with e | e
      · subst e; exact q
      · exact h.t _ _ _ q (hl'.1 z e)
    · rename_i q
      refine List.pairwise_cons.2 ⟨fun z hz => ?_, insR_asc h x l hl'.2 fun z hz => hn z (by simp [hz])⟩
      rcases (insR_mem x l z).1 hz with e | e
      · subst e
        have h1 := h.s z y
        have h2 := hn y (by simp)
        omega
      · exact hl'.1 z e
theorem insF_mem (hz : ∀ a b, f a b = 0 → a = b) (x : α) (l : List α) (z : α) : z ∈ insF f x l ↔ z = x ∨ z ∈ l := by
  unfold insF
  split
  · rename_i q
    obtain ⟨y, hy, e⟩ := List.any_eq_true.1 q
    have := hz x y (by simpa using e)
    subst this
    exact ⟨Or.inr, fun h => h.elim (fun e => e ▸ hy) id⟩
  · exact insR_mem x l z
theorem insF_asc (h : PreC f) (x : α) {l : List α} (hl : AscC f l) : AscC f (insF f x l) := by
  unfold insF
  split
  · exact hl
  · rename_i q
    refine insR_asc h x l hl fun y hy e => q ?_
    exact List.any_eq_true.2 ⟨y, hy, by simp [e]⟩
theorem insF_yes {x : α} {l : List α} {k : Nat} {y : α} (h : l[k]? = some y) (e : f x y = 0) : insF f x l = l := by
  unfold insF
  rw [if_pos (List.any_eq_true.2 ⟨y, List.mem_of_getElem? h, by simp [e]⟩)]
theorem insF_end {x : α} {l : List α} (h : ∀ y ∈ l, f x y ≠ 0) : insF f x l = if (l.foldl (insStep f x) ([], false)).2 = true then (l.foldl (insStep f x) ([], false)).1 else (l.foldl (insStep f x) ([], false)).1 ++ [x] := by
  unfold insF
  rw [if_neg (by intro q; obtain ⟨y, hy, e⟩ := List.any_eq_true.1 q; exact h y hy (by simpa using e)), insStep_fold]
  rfl
end

/-- whether a detection conflicts with one of a list -/
def conB (ds : List Dt) (d : Dt) : Bool := ds.any fun e => eqS e.dev d.dev && (e.seq == d.seq && !(cmpDt e d == 0))
theorem conB_iff (ds : List Dt) (d : Dt) : conB ds d = true ↔ ∃ e ∈ ds, e.dev = d.dev ∧ e.seq = d.seq ∧ e ≠ d := by
  unfold conB
  rw [List.any_eq_true]
  refine exists_congr fun e => and_congr_right fun _ => ?_
  rw [Bool.and_eq_true, Bool.and_eq_true, eqS_iff, beq_iff_eq, Bool.not_eq_true', beq_eq_false_iff_ne, ne_eq, cmpDt_zero]
/-- the reason, among others -/
def whyF (l : List Dv) (ds : List Dt) (d : Dt) : Int := if conB ds d = true then 4 else corW l d
/-- what sifting is -/
def SiftOf (l : List Dv) (ds : List Dt) (S : List Sn) (R : List Rj) : Prop :=
  AscC cmpSn S ∧ AscC cmpRj R ∧ (∀ s, s ∈ S ↔ ∃ d ∈ ds, whyF l ds d = 0 ∧ s = corS l d) ∧ (∀ r, r ∈ R ↔ ∃ d ∈ ds, whyF l ds d ≠ 0 ∧ r = ⟨d, whyF l ds d⟩)
theorem conB_set {ds es : List Dt} (h : ∀ d, d ∈ ds ↔ d ∈ es) (d : Dt) : conB ds d = conB es d := by
  rw [Bool.eq_iff_iff, conB_iff, conB_iff]
  exact exists_congr fun e => and_congr_left fun _ => h e
theorem whyF_set {l : List Dv} {ds es : List Dt} (h : ∀ d, d ∈ ds ↔ d ∈ es) (d : Dt) : whyF l ds d = whyF l es d := by unfold whyF; rw [conB_set h]
theorem SiftOf.eq {l : List Dv} {ds es : List Dt} (h : ∀ d, d ∈ ds ↔ d ∈ es) {S S2 : List Sn} {R R2 : List Rj} (h1 : SiftOf l ds S R) (h2 : SiftOf l es S2 R2) : S = S2 ∧ R = R2 := by
  obtain ⟨a1, a2, a3, a4⟩ := h1
  obtain ⟨b1, b2, b3, b4⟩ := h2
  refine ⟨AscC.eq cmpSn_pre a1 b1 fun s => ?_, AscC.eq cmpRj_pre a2 b2 fun r => ?_⟩
  · rw [a3, b3]
    exact exists_congr fun d => by rw [h d, whyF_set h d]
  · rw [a4, b4]
    exact exists_congr fun d => by rw [h d, whyF_set h d]
/-- one round of the reference's sifting -/
def siftStep (l : List Dv) (ds : List Dt) (p : List Sn × List Rj) (d : Dt) : List Sn × List Rj :=
  if whyF l ds d ≠ 0 then (p.1, insF cmpRj ⟨d, whyF l ds d⟩ p.2) else (insF cmpSn (corS l d) p.1, p.2)
def siftN (l : List Dv) (ds : List Dt) (k : Nat) : List Sn × List Rj := (ds.take k).foldl (siftStep l ds) ([], [])
theorem siftN_snoc (l : List Dv) {ds : List Dt} {k : Nat} {d : Dt} (h : ds[k]? = some d) : siftN l ds (k + 1) = siftStep l ds (siftN l ds k) d := by
  unfold siftN
  rw [take_snoc h, List.foldl_append]; rfl
theorem siftN_len (l : List Dv) (ds : List Dt) (k : Nat) : (siftN l ds k).1.length ≤ k ∧ (siftN l ds k).2.length ≤ k := by
  induction k with
  | zero => simp [siftN]
  | succ k ih =>
    by_cases hk : k < ds.length
    · rw [siftN_snoc l (List.getElem?_eq_getElem hk)]
      unfold siftStep
      split
      · have := insF_len (f := cmpRj) ⟨ds[k], whyF l ds ds[k]⟩ (siftN l ds k).2
        exact ⟨by simp only; omega, by simp only; omega⟩
      · have := insF_len (f := cmpSn) (corS l ds[k]) (siftN l ds k).1
        exact ⟨by simp only; omega, by simp only; omega⟩
    · have : siftN l ds (k + 1) = siftN l ds k := by
        unfold siftN
        rw [List.take_of_length_le (by omega), List.take_of_length_le (by omega)]
      rw [this]; omega
theorem siftN_of (l : List Dv) (ds : List Dt) : ∀ (k : Nat), AscC cmpSn (siftN l ds k).1 ∧ AscC cmpRj (siftN l ds k).2 ∧ (∀ s, s ∈ (siftN l ds k).1 ↔ ∃ d ∈ ds.take k, whyF l ds d = 0 ∧ s = corS l d) ∧ (∀ r, r ∈ (siftN l ds k).2 ↔ ∃ d ∈ ds.take k, whyF l ds d ≠ 0 ∧ r = ⟨d, whyF l ds d⟩) := by
  intro k
  induction k with
  | zero => simp [siftN, AscC]
  | succ k ih =>
    by_cases hk : k < ds.length
    · obtain ⟨h1, h2, h3, h4⟩ := ih
      have hx := List.getElem?_eq_getElem hk
      rw [siftN_snoc l hx, take_snoc hx]
      generalize ds[k] = d at *
      unfold siftStep
      by_cases hw : whyF l ds d ≠ 0
      · rw [if_pos hw]
        refine ⟨h1, insF_asc cmpRj_pre _ h2, fun s => ?_, fun r => ?_⟩
        · simp only
          rw [h3]
          constructor
          · rintro ⟨e, he, q⟩; exact ⟨e, List.mem_append_left _ he, q⟩
          · rintro ⟨e, he, q1, q2⟩
            rcases List.mem_append.1 he with he | he
            · exact ⟨e, he, q1, q2⟩
            · rw [List.mem_singleton] at he; subst he; exact absurd q1 hw
        · simp only
          rw [insF_mem (fun a b => cmpRj_zero.1), h4]
          constructor
          · rintro (rfl | ⟨e, he, q⟩)
            · exact ⟨d, by simp, hw, rfl⟩
            · exact ⟨e, List.mem_append_left _ he, q⟩
          · rintro ⟨e, he, q1, q2⟩
            rcases List.mem_append.1 he with he | he
            · exact Or.inr ⟨e, he, q1, q2⟩
            · rw [List.mem_singleton] at he; subst he; exact Or.inl q2
      · rw [if_neg hw]
        refine ⟨insF_asc cmpSn_pre _ h1, h2, fun s => ?_, fun r => ?_⟩
        · simp only
          rw [insF_mem (fun a b => cmpSn_zero.1), h3]
          constructor
          · rintro (rfl | ⟨e, he, q⟩)
            · exact ⟨d, by simp, by omega, rfl⟩
            · exact ⟨e, List.mem_append_left _ he, q⟩
          · rintro ⟨e, he, q1, q2⟩
            rcases List.mem_append.1 he with he | he
            · exact Or.inr ⟨e, he, q1, q2⟩
            · rw [List.mem_singleton] at he; subst he; exact Or.inl q2
        · simp only
          rw [h4]
          constructor
          · rintro ⟨e, he, q⟩; exact ⟨e, List.mem_append_left _ he, q⟩
          · rintro ⟨e, he, q1, q2⟩
            rcases List.mem_append.1 he with he | he
            · exact ⟨e, he, q1, q2⟩
            · rw [List.mem_singleton] at he; subst he; exact absurd q1 hw
    · have e1 : siftN l ds (k + 1) = siftN l ds k := by
        unfold siftN
        rw [List.take_of_length_le (by omega), List.take_of_length_le (by omega)]
      have e2 : ds.take (k + 1) = ds.take k := by rw [List.take_of_length_le (by omega), List.take_of_length_le (by omega)]
      rw [e1, e2]; exact ih
theorem siftN_all (l : List Dv) (ds : List Dt) : SiftOf l ds (siftN l ds ds.length).1 (siftN l ds ds.length).2 := by
  have := siftN_of l ds ds.length
  rwa [List.take_length] at this
end Go.Proofs.Ytgkppjkmakomnaa
