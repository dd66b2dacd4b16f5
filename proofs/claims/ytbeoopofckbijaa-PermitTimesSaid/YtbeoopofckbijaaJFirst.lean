/- Joined texts: First, Iv, More, ZoneLeaf. -/
import Derived.WalkKit
import Derived.Test.YtbeoopofckbijaaProg
import Derived.Test.YtbeoopofckbijaaBase
import Derived.Test.YtbeoopofckbijaaSpanMath
import Derived.Outline
import Derived.Test.YtbeoopofckbijaaZoneMath
/- Lists, element by element; the first error. No program in sight. -/
namespace Go.Proofs.Ytbeoopofckbijaa

theorem take_snoc {α : Type} {l : List α} {k : Nat} {x : α} (h : l[k]? = some x) : l.take (k + 1) = l.take k ++ [x] := by
  rw [List.take_add_one, h]; rfl
theorem all_succ' {α : Type} {p : α → Bool} {l : List α} {k : Nat} {x : α} (hx : l[k]? = some x) (h : ∀ y ∈ l.take k, p y = false) (hp : p x = false) : ∀ y ∈ l.take (k + 1), p y = false := by
  intro y hy
  rw [take_snoc hx, List.mem_append] at hy
  rcases hy with hy | hy
  · exact h y hy
  · simp at hy; subst hy; exact hp
theorem all_succ {α : Type} {p : α → Bool} {l : List α} {k : Nat} {x : α} (hx : l[k]? = some x) (h : ∀ y ∈ l.take k, p y = true) (hp : p x = true) : ∀ y ∈ l.take (k + 1), p y = true := by
  intro y hy
  rw [take_snoc hx, List.mem_append] at hy
  rcases hy with hy | hy
  · exact h y hy
  · simp at hy; subst hy; exact hp
theorem all_yes {α : Type} {p : α → Bool} {l : List α} (h : ∀ y ∈ l.take l.length, p y = true) : l.all p = true := by
  rw [List.take_length] at h
  exact List.all_eq_true.2 h
theorem all_no {α : Type} {p : α → Bool} {l : List α} {k : Nat} {x : α} (hx : l[k]? = some x) (hp : p x = false) : l.all p = false := by
  cases h : l.all p
  · rfl
  · have := List.all_eq_true.1 h x (List.mem_of_getElem? hx)
    rw [hp] at this; cases this

def firstE (f : Nat → Int) (n : Nat) : Int := (((List.range n).map f).find? fun e => decide (e ≠ 0)).getD 0
theorem firstE_none {f : Nat → Int} {n : Nat} (h : ∀ j, j < n → f j = 0) : firstE f n = 0 := by
  unfold firstE
  rw [List.find?_eq_none.2]
  · rfl
  · intro e he
    simp only [List.mem_map, List.mem_range] at he
    obtain ⟨j, hj, rfl⟩ := he
    simp [h j hj]
theorem firstE_some {f : Nat → Int} {n k : Nat} (h : ∀ j, j < k → f j = 0) (hk : k < n) (hne : f k ≠ 0) : firstE f n = f k := by
  have key : ∀ (m : Nat), k < m → (((List.range m).map f).find? fun e => decide (e ≠ 0)) = some (f k) := by
    intro m
    induction m with
    | zero => intro hm; omega
    | succ m ih =>
      intro hm
      rw [List.range_succ, List.map_append, List.find?_append]
      rcases (by omega : k < m ∨ k = m) with e | rfl
      · rw [ih e]; rfl
      · rw [List.find?_eq_none.2]
        · simp [hne]
        · intro e he
          simp only [List.mem_map, List.mem_range] at he
          obtain ⟨j, hj, rfl⟩ := he
          simp [h j hj]
  unfold firstE
  rw [key n hk]
  rfl
theorem firstE_up {f : Nat → Int} {k : Nat} (h : ∀ j, j < k → f j = 0) (hk : f k = 0) : ∀ j, j < k + 1 → f j = 0 := fun j hj => by
  rcases (by omega : j < k ∨ j = k) with q | rfl
  · exact h j q
  · exact hk
theorem take_get {α : Type} {l : List α} {i k : Nat} {x : α} (h : l[k]? = some x) (hk : k < i) : (l.take i)[k]? = some x := by
  rw [List.getElem?_take_of_lt hk]; exact h
end Go.Proofs.Ytbeoopofckbijaa
/- Intervals as elements of slices. -/
namespace Go.Proofs.Ytbeoopofckbijaa
open Go.RowKit Go.Lib

def encIv (x : Iv) : List Value := [.int .i64 x.1, .int .i64 x.2]
theorem encIv_ok : Enc encIv 2 := ⟨fun _ => rfl, fun x u hu => by simp [encIv] at hu; rcases hu with rfl | rfl <;> rfl⟩
theorem tyIv : TyS Try.prog 33 26 2 16 := TyS.mk' (z := .agg #[.int .i64 0, .int .i64 0]) Try.underlying33 (by kernel_rfl) rfl (by omega)
theorem Rd.iv {w : World} {B : Nat} {A : Option Addr} {l : List Iv} (h : Rd encIv 2 w B A l) {i : Nat} (hi : i < l.length) :
    ∃ b off f t, A = some ⟨b, off, none⟩ ∧ b < B ∧ l[i]? = some (f, t) ∧ w.cell? ⟨b, off + i * 2, none⟩ = some (.int .i64 f) ∧ w.cell? ⟨b, off + i * 2 + 1, none⟩ = some (.int .i64 t) := by
  obtain ⟨b, off, ⟨f, t⟩, hA, hb, hx, hc⟩ := h.at_ hi
  exact ⟨b, off, f, t, hA, hb, hx, hc 0 _ rfl, hc 1 _ rfl⟩
end Go.Proofs.Ytbeoopofckbijaa
/- More words on own slices and on what lies below. -/
namespace Go.Proofs.Ytbeoopofckbijaa
open Go.RowKit Go.Lib

theorem Own.st {α : Type} {e : Nat} {enc : α → List Value} {k : Nat} {w w' : World} {base : Nat} {A : Option Addr} {c : Nat} {l : List α} (h : Own e enc k w base A c l) (hb : Below w.heap.size w w') : Own e enc k w' base A c l := h.keep hb (Nat.le_refl _)
theorem _root_.Go.RowKit.Below.st {a b c : World} (h : Below a.heap.size a b) (k : Below b.heap.size b c) : Below a.heap.size a c := h.trans (k.mono h.size)
theorem Own.cap {α : Type} {e : Nat} {enc : α → List Value} {k : Nat} {w : World} {base : Nat} {A : Option Addr} {c : Nat} {l : List α} (h : Own e enc k w base A c l) : l.length ≤ c := by
  rcases h.2 with ⟨h1, h2⟩ | ⟨g, cap, cur, hv, _, _, hn, _⟩
  · rw [h2]; exact Nat.zero_le _
  · injection hv with p q r
    rw [r]; exact hn

end Go.Proofs.Ytbeoopofckbijaa
/- The small functions of chapter 26, walked: within, valid, isTime, on, Minute. -/
namespace Go.Proofs.Ytbeoopofckbijaa
open Go.RowKit Go.Lib

theorem cvalid_any (x : Wn) (w : World) :
    Calls Try.prog 31 #[.agg #[.int .i64 x.1, .int .i64 x.2.1, .int .i64 x.2.2]] w fun e w' => e = .returned (.bool (vw x)) ∧ w.alloc (.cells #[.int .i64 x.1, .int .i64 x.2.1, .int .i64 x.2.2] 42) = w' := by
  unfold vw
  go_enter Try.func31, Try.ntmps31
  go_wp2
  all_goals (go_ret; exact ⟨ret_bool (by rw [Bool.eq_iff_iff]; simp; omega), rfl⟩)
end Go.Proofs.Ytbeoopofckbijaa
