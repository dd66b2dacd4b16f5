/- Joined texts: ZoneLeaf, ZoneOn. -/
import Derived.Test.YtcpfiiapfggmpaaZoneMath
import Derived.Test.YtcpfiiapfggmpaaJInts
import Derived.IntWalk
/- The small functions of chapter 26, walked: within, valid, isTime, on, Minute. -/
namespace Go.Proofs.Ytcpfiiapfggmpaa
open Go.RowKit Go.Lib

theorem zwithin_any (n a b : Int) (w : World) :
    Calls Try.prog 68 #[.int .i64 n, .int .i64 a, .int .i64 b] w fun e w' => e = .returned (.bool (decide (a ≤ n ∧ n ≤ b))) ∧ w' = w := by
  go_enter Try.func68, Try.ntmps68
  go_wp2
  all_goals (go_ret; exact ⟨ret_bool (by rw [Bool.eq_iff_iff]; simp; omega), rfl⟩)
theorem cvalid_any (x : Wn) (w : World) :
    Calls Try.prog 62 #[.agg #[.int .i64 x.1, .int .i64 x.2.1, .int .i64 x.2.2]] w fun e w' => e = .returned (.bool (vw x)) ∧ w.alloc (.cells #[.int .i64 x.1, .int .i64 x.2.1, .int .i64 x.2.2] 112) = w' := by
  unfold vw
  go_enter Try.func62, Try.ntmps62
  go_wp2
  all_goals (go_ret; exact ⟨ret_bool (by rw [Bool.eq_iff_iff]; simp; omega), rfl⟩)
theorem zvalid_any (x : Wn) (w : World) :
    Calls Try.prog 66 #[.agg #[.int .i64 x.1, .int .i64 x.2.1, .int .i64 x.2.2]] w fun e w' => e = .returned (.bool (vw x)) ∧ w.alloc (.cells #[.int .i64 x.1, .int .i64 x.2.1, .int .i64 x.2.2] 112) = w' := by
  unfold vw
  go_enter Try.func66, Try.ntmps66
  go_wp2_with (go_at_call 68; refine (zwithin_any _ _ _ _).mono ?_; rintro e w' ⟨rfl, rfl⟩)
  all_goals (go_ret; exact ⟨ret_bool (by rw [Bool.eq_iff_iff]; simp; omega), rfl⟩)
end Go.Proofs.Ytcpfiiapfggmpaa
/- Days of windows: clock.on, the reference's On; clock.In. -/
namespace Go.Proofs.Ytcpfiiapfggmpaa
open Go.RowKit Go.Lib

theorem bit_and {y : Int} (h0 : 0 ≤ y) (h1 : y ≤ 127) : bits BinOp.and IntKind.i64 y 1 = y % 2 := by
  have key : ∀ n : Fin 128, bits BinOp.and IntKind.i64 (n.1 : Int) 1 = (n.1 : Int) % 2 := by decide +kernel
  have := key ⟨y.toNat, by omega⟩
  simp only at this
  rwa [show ((y.toNat : Nat) : Int) = y by omega] at this
theorem div_pow {y : Int} (h0 : 0 ≤ y) (k : Nat) : 0 ≤ y / 2 ^ k ∧ y / 2 ^ k ≤ y := by
  have hp : (0 : Int) < 2 ^ k := Int.pow_pos (by omega)
  exact ⟨Int.ediv_nonneg h0 (Int.le_of_lt hp), Int.ediv_le_self _ h0⟩
theorem div_pow_succ (y : Int) (k : Nat) : y / 2 ^ (k + 1) = y / 2 ^ k / 2 := by
  rw [Int.pow_succ, Int.ediv_ediv_of_nonneg (Int.le_of_lt (Int.pow_pos (by omega)))]
theorem on_any (x : Wn) (d : Int) (w : World) (hv : vw x = true) (hd : 0 ≤ d) :
    Calls Try.prog 63 #[.agg #[.int .i64 x.1, .int .i64 x.2.1, .int .i64 x.2.2], .int .i64 d] w fun e w' => e = .returned (.bool (onD x.1 d)) ∧ w.alloc (.cells #[.int .i64 x.1, .int .i64 x.2.1, .int .i64 x.2.2] 112) = w' := by
  have hw := (vw_iff x).1 hv
  have h1 := div_pow (y := x.1) (by omega) (d % 7).toNat
  go_enter Try.func63, Try.ntmps63
  go_wp2
  all_goals (go_ret; exact ⟨ret_bool (by rw [Bool.eq_iff_iff]; simp; rw [bit_and h1.1 (by omega)]; simp [onD]), rfl⟩)

end Go.Proofs.Ytcpfiiapfggmpaa
