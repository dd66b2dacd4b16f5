/- Lists, element by element; the first error. No program in sight. -/
import Derived.WalkKit
namespace Go.Proofs.YtlnnbkpcnhlfcaaDoor

theorem take_snoc {α : Type} {l : List α} {k : Nat} {x : α} (h : l[k]? = some x) : l.take (k + 1) = l.take k ++ [x] := by
  rw [List.take_add_one, h]; rfl
theorem all_succ' {α : Type} {p : α → Bool} {l : List α} {k : Nat} {x : α} (hx : l[k]? = some x) (h : ∀ y ∈ l.take k, p y = false) (hp : p x = false) : ∀ y ∈ l.take (k + 1), p y = false := by
  intro y hy
  rw [take_snoc hx, List.mem_append] at hy
  rcases hy with hy | hy
  · exact h y hy
  · simp at hy; subst hy; exact hp
theorem all_succ {α : Type} {p : α → Bool} {l : List α} {k : Nat} {x : α} (hx : l[k]? = some x) (h : ∀ y ∈ l.take k, p y = true) (hp : p x = true) : ∀ y ∈ l.take (k + 1), p y = true := by
  intro y hy
  rw [take_snoc hx, List.mem_append] at hy
  rcases hy with hy | hy
  · exact h y hy
  · simp at hy; subst hy; exact hp
theorem all_yes {α : Type} {p : α → Bool} {l : List α} (h : ∀ y ∈ l.take l.length, p y = true) : l.all p = true := by
  rw [List.take_length] at h
  exact List.all_eq_true.2 h
theorem all_no {α : Type} {p : α → Bool} {l : List α} {k : Nat} {x : α} (hx : l[k]? = some x) (hp : p x = false) : l.all p = false := by
  cases h : l.all p
  · rfl
  · have := List.all_eq_true.1 h x (List.mem_of_getElem? hx)
    rw [hp] at this; cases this

def firstE (f : Nat → Int) (n : Nat) : Int := (((List.range n).map f).find? fun e => decide (e ≠ 0)).getD 0
theorem firstE_none {f : Nat → Int} {n : Nat} (h : ∀ j, j < n → f j = 0) : firstE f n = 0 := by
  unfold firstE
  rw [List.find?_eq_none.2]
  · rfl
  · intro e he
    simp only [List.mem_map, List.mem_range] at he
    obtain ⟨j, hj, rfl⟩ := he
    simp [h j hj]
theorem firstE_some {f : Nat → Int} {n k : Nat} (h : ∀ j, j < k → f j = 0) (hk : k < n) (hne : f k ≠ 0) : firstE f n = f k := by
  have key : ∀ (m : Nat), k < m → (((List.range m).map f).find? fun e => decide (e ≠ 0)) = some (f k) := by
    intro m
    induction m with
    | zero => intro hm; omega
    | succ m ih =>
      intro hm
      rw [List.range_succ, List.map_append, List.find?_append]
      rcases (by omega : k < m ∨ k = m) with e | rfl
      · rw [ih e]; rfl
      · rw [List.find?_eq_none.2]
        · simp [hne]
        · intro e he
          simp only [List.mem_map, List.mem_range] at he
          obtain ⟨j, hj, rfl⟩ := he
          simp [h j hj]
  unfold firstE
  rw [key n hk]
  rfl
theorem firstE_up {f : Nat → Int} {k : Nat} (h : ∀ j, j < k → f j = 0) (hk : f k = 0) : ∀ j, j < k + 1 → f j = 0 := fun j hj => by
  rcases (by omega : j < k ∨ j = k) with q | rfl
  · exact h j q
  · exact hk
theorem take_get {α : Type} {l : List α} {i k : Nat} {x : α} (h : l[k]? = some x) (hk : k < i) : (l.take i)[k]? = some x := by
  rw [List.getElem?_take_of_lt hk]; exact h
end Go.Proofs.YtlnnbkpcnhlfcaaDoor
