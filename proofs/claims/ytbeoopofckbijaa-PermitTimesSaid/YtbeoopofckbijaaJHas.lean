/- Joined texts: Has, Idx. -/
import Derived.Test.YtbeoopofckbijaaValid
import Derived.Test.YtbeoopofckbijaaShelf
import Derived.Deep.RegionHeld3
import Derived.Deep.DrawnRows
import Derived.Test.YtbeoopofckbijaaJFirst
import Derived.Lib.SlBy
/- span.Has, walked. -/
namespace Go.Proofs.Ytbeoopofckbijaa
open Go.RowKit Go.Lib Go.Shelf

theorem contains_any (p : Iv → Bool) (g : Nat) (lb : Array Value) (eg : ∀ args w, (callFunc g args).run Try.prog w = .ok (.enter g args) w) {A : Option Addr} (c : Nat) {l : List Iv} {w : World}
    (hp : ∀ (W : World) (x : Iv), Below w.heap.size w W → Calls Try.prog g (#[.agg #[.int .i64 x.1, .int .i64 x.2]] ++ lb) W fun e w' => e = .returned (.bool (p x)) ∧ Below w.heap.size w w')
    (h : Rd encIv 2 w w.heap.size A l) (hl : l.length ≤ 100000000000) :
    Calls Try.prog 36 #[.slice A l.length c, .func (.func g) #[] lb] w fun e w' => e = .returned (.bool (l.any p)) ∧ Below w.heap.size w w' := by
  by_cases hne : l = []
  · subst hne
    clear h hp eg
    go_enter Try.func36, Try.ntmps36
    go_wp2_with go_in
    refine wp_loop_rounds 1 ?_
    rw [rounds_succ]
    go_wp2
    go_ret
    exact ⟨rfl, Below.refl _ _⟩
  · obtain ⟨b, off, rfl, hb, hc⟩ := h hne
    have hcon := AnyQ.slices_ContainsFunc Try.lay_containsf_f36 2 Try.isAgg26 Try.sizeOf26 encIv encIv_ok.1 p g lb eg b off l.length c l w (fun W x hW => hp W x hW) (Nat.le_refl _) (by omega) hb
      (fun j hj i v hi => hc j l[j]! (by rw [getElem!_pos l j hj]; exact List.getElem?_eq_getElem hj) i v hi)
    rw [List.take_length] at hcon
    exact hcon

theorem hasClosure_any (x : Iv) (t : Int) (b : Nat) (W : World) (hb : b < W.heap.size) (hc : W.cell? ⟨b, 0, none⟩ = some (.int .i64 t)) :
    Calls Try.prog 37 #[.agg #[.int .i64 x.1, .int .i64 x.2], .pointer (some ⟨b, 0, none⟩)] W fun e w' => e = .returned (.bool (validB x.1 x.2 && decide (x.1 ≤ t) && decide (t < x.2))) ∧ Below W.heap.size W w' := by
  obtain ⟨f, u⟩ := x
  have hbel := ((Below.refl W.heap.size W).al (.cells #[.int .i64 f, .int .i64 u] 26)).al (.cells #[.int .i64 f, .int .i64 u] 26)
  have hb2 : b < W.heap.size + 1 := by omega
  have hb3 : b ≠ W.heap.size := by omega
  have hb4 : b ≠ W.heap.size + 1 := by omega
  cases hv : validB f u
  · go_enter Try.func37, Try.ntmps37
    go_wp2_with (go_at_call 21; refine (valid_any _ _ _).mono ?_; rintro e w' ⟨rfl, rfl⟩)
    go_ret
    exact ⟨ret_bool (by simp), hbel⟩
  · by_cases h1 : f ≤ t
    · by_cases h2 : t < u
      · have R := Lib.hid (show (true && decide (f ≤ t) && decide (t < u)) = true by simp [h1, h2])
        go_enter Try.func37, Try.ntmps37
        go_wp2_with (go_at_call 21; refine (valid_any _ _ _).mono ?_; rintro e w' ⟨rfl, rfl⟩)
        go_ret
        exact ⟨ret_bool (by first | exact R.out.symm | (rw [R.out]; simp; omega)), hbel⟩
      · have R := Lib.hid (show (true && decide (f ≤ t) && decide (t < u)) = false by simp [h2])
        go_enter Try.func37, Try.ntmps37
        go_wp2_with (go_at_call 21; refine (valid_any _ _ _).mono ?_; rintro e w' ⟨rfl, rfl⟩)
        go_ret
        exact ⟨ret_bool (by first | exact R.out.symm | (rw [R.out]; simp; omega)), hbel⟩
    · have R := Lib.hid (show (true && decide (f ≤ t) && decide (t < u)) = false by simp [h1])
      go_enter Try.func37, Try.ntmps37
      go_wp2_with (go_at_call 21; refine (valid_any _ _ _).mono ?_; rintro e w' ⟨rfl, rfl⟩)
      go_ret
      exact ⟨ret_bool R.out.symm, hbel⟩

theorem has_any {A : Option Addr} (c : Nat) {l : List Iv} (t : Int) {w : World} (h : Rd encIv 2 w w.heap.size A l) (hl : l.length ≤ 100000000000) :
    Calls Try.prog 19 #[.slice A l.length c, .int .i64 t] w fun e w' => e = .returned (.bool (hasB l t)) ∧ Below w.heap.size w w' := by
  have eg : ∀ args w, (callFunc 37 args).run Try.prog w = .ok (.enter 37 args) w := enters_of Try.func37 (by kernel_rfl) rfl
  have hz : w.heap.size < (w.alloc (.cells #[.int .i64 t] 3)).heap.size := by simp
  have hb0 := (Below.refl w.heap.size w).al (.cells #[.int .i64 t] 3)
  have C := Lib.hid (contains_any (fun x => validB x.1 x.2 && decide (x.1 ≤ t) && decide (t < x.2)) 37 #[.pointer (some ⟨w.heap.size, 0, none⟩)] eg c (w := w.alloc (.cells #[.int .i64 t] 3))
    (fun W x hW => (hasClosure_any x t w.heap.size W (Nat.lt_of_lt_of_le hz hW.size) ((hW.cell (p := ⟨w.heap.size, 0, none⟩) hz).trans (by simp))).mono fun e w' ⟨he, hw'⟩ => ⟨he, hW.trans (hw'.mono hW.size)⟩)
    ((h.keep hb0).more (Nat.le_of_lt hz)) hl)
  clear h eg
  go_enter Try.func19, Try.ntmps19
  go_wp2_with fail
  refine C.out.mono ?_
  rintro e w' ⟨rfl, hb⟩
  go_wp2_with fail
  go_ret
  exact ⟨rfl, hb0.trans (hb.mono (Nat.le_of_lt hz))⟩
end Go.Proofs.Ytbeoopofckbijaa
/- slices.IndexFunc's answer, in plain words. No program in sight. -/
namespace Go.Proofs.Ytbeoopofckbijaa

/-- i is the first index at which p holds, or -1 -/
def IdxR {α : Type} (p : α → Bool) (l : List α) (i : Int) : Prop :=
  (i = -1 ∧ ∀ y ∈ l, p y = false) ∨ ∃ (k : Nat) (x : α), l[k]? = some x ∧ i = (k : Int) ∧ p x = true ∧ ∀ y ∈ l.take k, p y = false
theorem idxR_from {α : Type} (p : α → Bool) (d : α) : ∀ (l : List α) (i : Nat), (Lib.idxByFrom (fun _ y => p y) d l i = -1 ∧ ∀ y ∈ l, p y = false) ∨ ∃ (k : Nat) (x : α), l[k]? = some x ∧ Lib.idxByFrom (fun _ y => p y) d l i = ((i + k : Nat) : Int) ∧ p x = true ∧ ∀ y ∈ l.take k, p y = false
  | [], i => .inl ⟨rfl, by simp⟩
  | y :: l, i => by
    cases hy : p y
    · have e : Lib.idxByFrom (fun _ y => p y) d (y :: l) i = Lib.idxByFrom (fun _ y => p y) d l (i + 1) := by simp [Lib.idxByFrom, hy]
      rw [e]
      rcases idxR_from p d l (i + 1) with ⟨h1, h2⟩ | ⟨k, x, h1, h2, h3, h4⟩
      · exact .inl ⟨h1, fun z hz => by rcases List.mem_cons.1 hz with rfl | hz; (exact hy); (exact h2 z hz)⟩
      · refine .inr ⟨k + 1, x, h1, by rw [h2]; congr 1; omega, h3, fun z hz => ?_⟩
        rw [List.take_succ_cons, List.mem_cons] at hz
        rcases hz with rfl | hz
        · exact hy
        · exact h4 z hz
    · exact .inr ⟨0, y, rfl, by simp [Lib.idxByFrom, hy], hy, by simp⟩
theorem idxR_of {α : Type} (p : α → Bool) (d : α) (l : List α) : IdxR p l (Lib.idxBy (fun _ y => p y) l d) := by
  rcases idxR_from p d l 0 with h | ⟨k, x, h1, h2, h3, h4⟩
  · exact .inl h
  · exact .inr ⟨k, x, h1, by unfold Lib.idxBy; rw [h2]; congr 1; omega, h3, h4⟩
theorem IdxR.any_no {α : Type} {p : α → Bool} {l : List α} (h : ∀ y ∈ l, p y = false) : l.any p = false ∧ l.find? p = none :=
  ⟨by rw [List.any_eq_false]; intro y hy; rw [h y hy]; simp, by rw [List.find?_eq_none]; intro y hy; rw [h y hy]; simp⟩
theorem IdxR.any_at {α : Type} {p : α → Bool} {l : List α} {k : Nat} {x : α} (hx : l[k]? = some x) (hp : p x = true) (h : ∀ y ∈ l.take k, p y = false) : l.any p = true ∧ l.find? p = some x := by
  refine ⟨List.any_eq_true.2 ⟨x, List.mem_of_getElem? hx, hp⟩, ?_⟩
  obtain ⟨hk, rfl⟩ := List.getElem?_eq_some_iff.1 hx
  rw [List.find?_eq_some_iff_getElem]
  refine ⟨hp, k, hk, rfl, fun j hj => ?_⟩
  have := h l[j] (by rw [List.mem_take_iff_getElem]; exact ⟨j, by omega, rfl⟩)
  simp [this]
end Go.Proofs.Ytbeoopofckbijaa
