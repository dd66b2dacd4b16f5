/- slices.IndexFunc's answer, in plain words. No program in sight. -/
import Derived.Lib.SlBy
import Derived.Test.YtfdnciijibiodaaFirst
namespace Go.Proofs.Ytfdnciijibiodaa

/-- i is the first index at which p holds, or -1 -/
def IdxR {α : Type} (p : α → Bool) (l : List α) (i : Int) : Prop :=
  (i = -1 ∧ ∀ y ∈ l, p y = false) ∨ ∃ (k : Nat) (x : α), l[k]? = some x ∧ i = (k : Int) ∧ p x = true ∧ ∀ y ∈ l.take k, p y = false
theorem idxR_from {α : Type} (p : α → Bool) (d : α) : ∀ (l : List α) (i : Nat), (Lib.idxByFrom (fun _ y => p y) d l i = -1 ∧ ∀ y ∈ l, p y = false) ∨ ∃ (k : Nat) (x : α), l[k]? = some x ∧ Lib.idxByFrom (fun _ y => p y) d l i = ((i + k : Nat) : Int) ∧ p x = true ∧ ∀ y ∈ l.take k, p y = false
  | [], i => .inl ⟨rfl, by simp⟩
  | y :: l, i => by
    cases hy : p y
    · have e : Lib.idxByFrom (fun _ y => p y) d (y :: l) i = Lib.idxByFrom (fun _ y => p y) d l (i + 1) := by simp [Lib.idxByFrom, hy]
      rw [e]
      rcases idxR_from p d l (i + 1) with ⟨h1, h2⟩ | ⟨k, x, h1, h2, h3, h4⟩
      · exact .inl ⟨h1, fun z hz => by rcases List.mem_cons.1 hz with rfl | hz; (exact hy); (exact h2 z hz)⟩
      · refine .inr ⟨k + 1, x, h1, by rw [h2]; congr 1; omega, h3, fun z hz => ?_⟩
        rw [List.take_succ_cons, List.mem_cons] at hz
        rcases hz with rfl | hz
        · exact hy
        · exact h4 z hz
    · exact .inr ⟨0, y, rfl, by simp [Lib.idxByFrom, hy], hy, by simp⟩
theorem idxR_of {α : Type} (p : α → Bool) (d : α) (l : List α) : IdxR p l (Lib.idxBy (fun _ y => p y) l d) := by
  rcases idxR_from p d l 0 with h | ⟨k, x, h1, h2, h3, h4⟩
  · exact .inl h
  · exact .inr ⟨k, x, h1, by unfold Lib.idxBy; rw [h2]; congr 1; omega, h3, h4⟩
theorem IdxR.any_no {α : Type} {p : α → Bool} {l : List α} (h : ∀ y ∈ l, p y = false) : l.any p = false ∧ l.find? p = none :=
  ⟨by rw [List.any_eq_false]; intro y hy; rw [h y hy]; simp, by rw [List.find?_eq_none]; intro y hy; rw [h y hy]; simp⟩
theorem IdxR.any_at {α : Type} {p : α → Bool} {l : List α} {k : Nat} {x : α} (hx : l[k]? = some x) (hp : p x = true) (h : ∀ y ∈ l.take k, p y = false) : l.any p = true ∧ l.find? p = some x := by
  refine ⟨List.any_eq_true.2 ⟨x, List.mem_of_getElem? hx, hp⟩, ?_⟩
  obtain ⟨hk, rfl⟩ := List.getElem?_eq_some_iff.1 hx
  rw [List.find?_eq_some_iff_getElem]
  refine ⟨hp, k, hk, rfl, fun j hj => ?_⟩
  have := h l[j] (by rw [List.mem_take_iff_getElem]; exact ⟨j, by omega, rfl⟩)
  simp [this]
end Go.Proofs.Ytfdnciijibiodaa
