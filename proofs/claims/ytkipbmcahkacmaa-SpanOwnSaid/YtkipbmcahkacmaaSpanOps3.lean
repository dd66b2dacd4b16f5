/- The program's functions of chapter 05, walked: Has, Covers. -/
import Derived.Test.YtkipbmcahkacmaaSpanOps2
namespace Go.Proofs.Ytkipbmcahkacmaa
open Go.RowKit Go.Lib

theorem hasClosure_any (x : Iv) (t : Int) (b : Nat) (W : World) (hb : b < W.heap.size) (hc : W.cell? ⟨b, 0, none⟩ = some (.int .i64 t)) :
    Calls Try.prog 34 #[.agg #[.int .i64 x.1, .int .i64 x.2], .pointer (some ⟨b, 0, none⟩)] W fun e w' => e = .returned (.bool (validB x.1 x.2 && decide (x.1 ≤ t) && decide (t < x.2))) ∧ Below W.heap.size W w' := by
  obtain ⟨f, u⟩ := x
  have hbel := ((Below.refl W.heap.size W).al (.cells #[.int .i64 f, .int .i64 u] 25)).al (.cells #[.int .i64 f, .int .i64 u] 25)
  have hb2 : b < W.heap.size + 1 := by omega
  have hb3 : b ≠ W.heap.size := by omega
  have hb4 : b ≠ W.heap.size + 1 := by omega
  cases hv : validB f u
  · go_enter Try.func34, Try.ntmps34
    go_wp2_with (go_at_call 10; refine (valid_any _ _ _).mono ?_; rintro e w' ⟨rfl, rfl⟩)
    go_ret
    exact ⟨ret_bool (by simp), hbel⟩
  · by_cases h1 : f ≤ t
    · by_cases h2 : t < u
      · have R := Lib.hid (show (true && decide (f ≤ t) && decide (t < u)) = true by simp [h1, h2])
        go_enter Try.func34, Try.ntmps34
        go_wp2_with (go_at_call 10; refine (valid_any _ _ _).mono ?_; rintro e w' ⟨rfl, rfl⟩)
        go_ret
        exact ⟨ret_bool (by first | exact R.out.symm | (rw [R.out]; simp; omega)), hbel⟩
      · have R := Lib.hid (show (true && decide (f ≤ t) && decide (t < u)) = false by simp [h2])
        go_enter Try.func34, Try.ntmps34
        go_wp2_with (go_at_call 10; refine (valid_any _ _ _).mono ?_; rintro e w' ⟨rfl, rfl⟩)
        go_ret
        exact ⟨ret_bool (by first | exact R.out.symm | (rw [R.out]; simp; omega)), hbel⟩
    · have R := Lib.hid (show (true && decide (f ≤ t) && decide (t < u)) = false by simp [h1])
      go_enter Try.func34, Try.ntmps34
      go_wp2_with (go_at_call 10; refine (valid_any _ _ _).mono ?_; rintro e w' ⟨rfl, rfl⟩)
      go_ret
      exact ⟨ret_bool R.out.symm, hbel⟩

theorem has_any {A : Option Addr} (c : Nat) {l : List Iv} (t : Int) {w : World} (h : Rd encIv 2 w w.heap.size A l) (hl : l.length ≤ 100000000000) :
    Calls Try.prog 24 #[.slice A l.length c, .int .i64 t] w fun e w' => e = .returned (.bool (hasB l t)) ∧ Below w.heap.size w w' := by
  have eg : ∀ args w, (callFunc 34 args).run Try.prog w = .ok (.enter 34 args) w := enters_of Try.func34 (by kernel_rfl) rfl
  have hz : w.heap.size < (w.alloc (.cells #[.int .i64 t] 3)).heap.size := by simp
  have hb0 := (Below.refl w.heap.size w).al (.cells #[.int .i64 t] 3)
  have C := Lib.hid (contains_any (fun x => validB x.1 x.2 && decide (x.1 ≤ t) && decide (t < x.2)) 34 #[.pointer (some ⟨w.heap.size, 0, none⟩)] eg c (w := w.alloc (.cells #[.int .i64 t] 3))
    (fun W x hW => (hasClosure_any x t w.heap.size W (Nat.lt_of_lt_of_le hz hW.size) ((hW.cell (p := ⟨w.heap.size, 0, none⟩) hz).trans (by simp))).mono fun e w' ⟨he, hw'⟩ => ⟨he, hW.trans (hw'.mono hW.size)⟩)
    ((h.keep hb0).more (Nat.le_of_lt hz)) hl)
  clear h eg
  go_enter Try.func24, Try.ntmps24
  go_wp2_with fail
  refine C.out.mono ?_
  rintro e w' ⟨rfl, hb⟩
  go_wp2_with fail
  go_ret
  exact ⟨rfl, hb0.trans (hb.mono (Nat.le_of_lt hz))⟩

def covP (i x : Iv) : Bool := decide (x.1 ≤ i.1) && decide (i.2 ≤ x.2)
theorem covClosure_any (i x : Iv) (b : Nat) (W : World) (hb : b < W.heap.size) (hc0 : W.cell? ⟨b, 0, none⟩ = some (.int .i64 i.1)) (hc1 : W.cell? ⟨b, 1, none⟩ = some (.int .i64 i.2)) :
    Calls Try.prog 35 #[.agg #[.int .i64 x.1, .int .i64 x.2], .pointer (some ⟨b, 0, none⟩)] W fun e w' => e = .returned (.bool (covP i x)) ∧ Below W.heap.size W w' := by
  obtain ⟨f, u⟩ := x
  obtain ⟨f', u'⟩ := i
  simp only at hc0 hc1
  have hbel := (Below.refl W.heap.size W).al (.cells #[.int .i64 f, .int .i64 u] 25)
  have hb3 : b ≠ W.heap.size := by omega
  by_cases h1 : f ≤ f'
  · by_cases h2 : u' ≤ u
    · have R := Lib.hid (show covP (f', u') (f, u) = true by simp [covP, h1, h2])
      go_enter Try.func35, Try.ntmps35
      go_wp2
      go_ret
      exact ⟨ret_bool R.out.symm, hbel⟩
    · have R := Lib.hid (show covP (f', u') (f, u) = false by simp [covP, h2])
      go_enter Try.func35, Try.ntmps35
      go_wp2
      go_ret
      exact ⟨ret_bool R.out.symm, hbel⟩
  · have R := Lib.hid (show covP (f', u') (f, u) = false by simp [covP, h1])
    go_enter Try.func35, Try.ntmps35
    go_wp2
    go_ret
    exact ⟨ret_bool R.out.symm, hbel⟩

set_option maxHeartbeats 1000000 in
theorem covers_any {A : Option Addr} (c : Nat) {l : List Iv} (i : Iv) {w : World} (h : Rd encIv 2 w w.heap.size A l) (hl : l.length ≤ 100000000000) :
    Calls Try.prog 26 #[.slice A l.length c, .agg #[.int .i64 i.1, .int .i64 i.2]] w fun e w' => ∃ b : Bool, e = .returned (.bool b) ∧ (b = true ↔ vld i ∧ ∀ t, i.1 ≤ t → t < i.2 → Mem l t) ∧ Below w.heap.size w w' := by
  have eg : ∀ args w, (callFunc 35 args).run Try.prog w = .ok (.enter 35 args) w := enters_of Try.func35 (by kernel_rfl) rfl
  obtain ⟨f, u⟩ := i
  have hz : w.heap.size < (w.alloc (.cells #[.int .i64 f, .int .i64 u] 25)).heap.size := by simp
  have hb0 := ((Below.refl w.heap.size w).al (.cells #[.int .i64 f, .int .i64 u] 25)).al (.cells #[.int .i64 f, .int .i64 u] 25)
  have hz0 : ((w.alloc (.cells #[.int .i64 f, .int .i64 u] 25)).alloc (.cells #[.int .i64 f, .int .i64 u] 25)).heap.size = w.heap.size + 2 := by simp
  have q0 : ((w.alloc (.cells #[.int .i64 f, .int .i64 u] 25)).alloc (.cells #[.int .i64 f, .int .i64 u] 25)).cell? ⟨w.heap.size, 0, none⟩ = some (.int .i64 f) := by simp
  have q1 : ((w.alloc (.cells #[.int .i64 f, .int .i64 u] 25)).alloc (.cells #[.int .i64 f, .int .i64 u] 25)).cell? ⟨w.heap.size, 1, none⟩ = some (.int .i64 u) := by simp
  cases hv : validB f u
  · have hvl : ¬ vld (f, u) := fun k => by rw [(validB_iff f u).2 k] at hv; cases hv
    go_enter Try.func26, Try.ntmps26
    go_wp2_with (go_at_call 10; refine (valid_any _ _ _).mono ?_; rintro e w' ⟨rfl, rfl⟩)
    go_ret
    exact ⟨false, rfl, by simp [hvl], hb0⟩
  · have hvl : vld (f, u) := (validB_iff f u).1 hv
    have HV := Lib.hid hvl
    have C0 := (join1 c (w := (w.alloc (.cells #[.int .i64 f, .int .i64 u] 25)).alloc (.cells #[.int .i64 f, .int .i64 u] 25)) ((h.keep hb0).more hb0.size) hl)
    rw [hz0] at C0
    have C1 := Lib.hid C0
    clear h hvl C0
    go_enter Try.func26, Try.ntmps26
    go_wp2_with (go_at_call 10; refine (valid_any _ _ _).mono ?_; rintro e w' ⟨rfl, rfl⟩)
    refine C1.out.mono ?_
    rintro e w1 ⟨A1, c1, n, rfl, hn, hm, hon, hb1⟩
    have hrd := hon.rd encIv_ok
    have hzw : w.heap.size < w1.heap.size := Nat.lt_of_lt_of_le (by rw [hz0]; omega) hb1.size
    have hzz : w.heap.size < ((w.alloc (.cells #[.int .i64 f, .int .i64 u] 25)).alloc (.cells #[.int .i64 f, .int .i64 u] 25)).heap.size := by rw [hz0]; omega
    have r0 := (hb1.cell (p := ⟨w.heap.size, 0, none⟩) hzz).trans q0
    have r1 := (hb1.cell (p := ⟨w.heap.size, 1, none⟩) hzz).trans q1
    have C2 := Lib.hid (contains_any (covP (f, u)) 35 #[.pointer (some ⟨w.heap.size, 0, none⟩)] eg c1 (w := w1)
      (fun W x hW => (covClosure_any (f, u) x w.heap.size W (Nat.lt_of_lt_of_le hzw hW.size) ((hW.cell (p := ⟨w.heap.size, 0, none⟩) hzw).trans r0) ((hW.cell (p := ⟨w.heap.size, 1, none⟩) hzw).trans r1)).mono fun e w' ⟨he, hw'⟩ => ⟨he, hW.trans (hw'.mono hW.size)⟩)
      hrd (Nat.le_trans hn.length_max (by omega)))
    have hres : n.any (covP (f, u)) = true ↔ vld (f, u) ∧ ∀ t, f ≤ t → t < u → Mem l t := by
      rw [List.any_eq_true]
      have h1 := covers_iff hn HV.out
      simp only [covP, Bool.and_eq_true, decide_eq_true_eq]
      rw [h1]
      constructor
      · intro h2; exact ⟨HV.out, fun t a b => (hm t).1 (h2 t a b)⟩
      · intro h2 t a b; exact (hm t).2 (h2.2 t a b)
    have HR := Lib.hid hres
    clear hrd hres hm hon r0 r1 q0 q1 eg C1
    go_wp2_with fail
    refine C2.out.mono ?_
    rintro e w2 ⟨rfl, hb2⟩
    go_wp2_with fail
    go_ret
    exact ⟨_, rfl, HR.out, (hb0.trans (hb1.mono (by rw [hz0]; omega))).trans (hb2.mono (Nat.le_of_lt hzw))⟩
end Go.Proofs.Ytkipbmcahkacmaa
