/- Joined texts: ZoneOn, ZoneLeafB, ZoneIn. -/
import Derived.Test.YtbeoopofckbijaaJFirst
import Derived.IntWalk
/- Days of windows: clock.on, the reference's On; clock.In. -/
namespace Go.Proofs.Ytbeoopofckbijaa
open Go.RowKit Go.Lib

theorem bit_and {y : Int} (h0 : 0 ≤ y) (h1 : y ≤ 127) : bits BinOp.and IntKind.i64 y 1 = y % 2 := by
  have key : ∀ n : Fin 128, bits BinOp.and IntKind.i64 (n.1 : Int) 1 = (n.1 : Int) % 2 := by decide +kernel
  have := key ⟨y.toNat, by omega⟩
  simp only at this
  rwa [show ((y.toNat : Nat) : Int) = y by omega] at this
theorem div_pow {y : Int} (h0 : 0 ≤ y) (k : Nat) : 0 ≤ y / 2 ^ k ∧ y / 2 ^ k ≤ y := by
  have hp : (0 : Int) < 2 ^ k := Int.pow_pos (by omega)
  exact ⟨Int.ediv_nonneg h0 (Int.le_of_lt hp), Int.ediv_le_self _ h0⟩
theorem div_pow_succ (y : Int) (k : Nat) : y / 2 ^ (k + 1) = y / 2 ^ k / 2 := by
  rw [Int.pow_succ, Int.ediv_ediv_of_nonneg (Int.le_of_lt (Int.pow_pos (by omega)))]
theorem on_any (x : Wn) (d : Int) (w : World) (hv : vw x = true) (hd : 0 ≤ d) :
    Calls Try.prog 32 #[.agg #[.int .i64 x.1, .int .i64 x.2.1, .int .i64 x.2.2], .int .i64 d] w fun e w' => e = .returned (.bool (onD x.1 d)) ∧ w.alloc (.cells #[.int .i64 x.1, .int .i64 x.2.1, .int .i64 x.2.2] 42) = w' := by
  have hw := (vw_iff x).1 hv
  have h1 := div_pow (y := x.1) (by omega) (d % 7).toNat
  go_enter Try.func32, Try.ntmps32
  go_wp2
  all_goals (go_ret; exact ⟨ret_bool (by rw [Bool.eq_iff_iff]; simp; rw [bit_and h1.1 (by omega)]; simp [onD]), rfl⟩)

end Go.Proofs.Ytbeoopofckbijaa
/- More small functions of chapter 26, walked: isTime, Minute. -/
namespace Go.Proofs.Ytbeoopofckbijaa
open Go.RowKit Go.Lib

theorem isTime_any (t : Int) (w : World) :
    Calls Try.prog 38 #[.int .i64 t] w fun e w' => e = .returned (.bool (decide (0 ≤ t ∧ t < 68719476736))) ∧ w' = w := by
  go_enter Try.func38, Try.ntmps38
  go_wp2
  all_goals (go_ret; exact ⟨ret_bool (by rw [Bool.eq_iff_iff]; simp; omega), rfl⟩)
theorem minute_any (t : Int) (w : World) (h0 : 0 ≤ t) (h1 : t < 68719476736) :
    Calls Try.prog 39 #[.int .i64 t] w fun e w' => e = .returned (.int .i64 (t % 86400 / 60)) ∧ w' = w := by
  go_enter Try.func39, Try.ntmps39
  go_wp2_with (go_at_call 38; refine (isTime_any _ _).mono ?_; rintro e w' ⟨rfl, rfl⟩)
  all_goals (go_ret; exact ⟨ret_int (by go_num), rfl⟩)
end Go.Proofs.Ytbeoopofckbijaa
/- clock.In, walked. -/
namespace Go.Proofs.Ytbeoopofckbijaa
open Go.RowKit Go.Lib

theorem in_any (x : Wn) (t : Int) (w : World) :
    Calls Try.prog 20 #[.agg #[.int .i64 x.1, .int .i64 x.2.1, .int .i64 x.2.2], .int .i64 t] w fun e w' => e = .returned (.bool (decide (0 ≤ t ∧ t < 68719476736) && decide (wAt x t))) ∧ Below w.heap.size w w' := by
  have hb : Below w.heap.size w (w.alloc (.cells #[.int .i64 x.1, .int .i64 x.2.1, .int .i64 x.2.2] 42)) := (Below.refl _ w).al _
  generalize hr : (decide (0 ≤ t ∧ t < 68719476736) && decide (wAt x t)) = r
  go_enter Try.func20, Try.ntmps20
  by_cases ht : 0 ≤ t ∧ t < 68719476736
  · cases hv : vw x
    · have R := Lib.hid (show r = false by rw [← hr]; simp [wAt, hv])
      clear hr
      go_wp2_with (first | (go_at_call 38; refine (isTime_any _ _).mono ?_; rw [decide_eq_true ht]; rintro e w' ⟨rfl, rfl⟩) | (go_at_call 31; refine (cvalid_any x _).mono ?_; rw [hv]; rintro e w' ⟨rfl, rfl⟩))
      all_goals (go_ret; rw [R.out]; exact ⟨rfl, hb.al _⟩)
    · have hw := (vw_iff x).1 hv
      have Hv := Lib.hid hv
      cases ho : onD x.1 (t / 86400)
      · have R := Lib.hid (show r = false by rw [← hr]; simp [wAt, ho])
        clear hr
        go_wp2_with (first | (go_at_call 38; refine (isTime_any _ _).mono ?_; rw [decide_eq_true ht]; rintro e w' ⟨rfl, rfl⟩) | (go_at_call 31; refine (cvalid_any x _).mono ?_; rw [Hv.out]; rintro e w' ⟨rfl, rfl⟩) | (go_at_call 32; refine (on_any x _ _ Hv.out (by omega)).mono ?_; rw [ho]; rintro e w' ⟨rfl, rfl⟩))
        all_goals (go_ret; rw [R.out]; exact ⟨rfl, (hb.al _).al _⟩)
      · have R := Lib.hid (show r = decide (x.2.1 ≤ t % 86400 / 60 ∧ t % 86400 / 60 < x.2.2) by
          rw [← hr, Bool.eq_iff_iff]; simp [wAt, ho, Hv.out, ht]; omega)
        clear hr
        go_wp2_with (first | (go_at_call 38; refine (isTime_any _ _).mono ?_; rw [decide_eq_true ht]; rintro e w' ⟨rfl, rfl⟩) | (go_at_call 31; refine (cvalid_any x _).mono ?_; rw [Hv.out]; rintro e w' ⟨rfl, rfl⟩) | (go_at_call 32; refine (on_any x _ _ Hv.out (by omega)).mono ?_; rw [ho]; rintro e w' ⟨rfl, rfl⟩) | (go_at_call 39; refine (minute_any _ _ ht.1 ht.2).mono ?_; rintro e w' ⟨rfl, rfl⟩))
        all_goals (go_ret; rw [R.out]; exact ⟨ret_bool (by rw [Bool.eq_iff_iff]; simp; omega), (hb.al _).al _⟩)
  · have R := Lib.hid (show r = false by rw [← hr, decide_eq_false ht]; rfl)
    clear hr
    go_wp2_with (go_at_call 38; refine (isTime_any _ _).mono ?_; rw [decide_eq_false ht]; rintro e w' ⟨rfl, rfl⟩)
    all_goals (go_ret; rw [R.out]; exact ⟨rfl, hb⟩)
end Go.Proofs.Ytbeoopofckbijaa
