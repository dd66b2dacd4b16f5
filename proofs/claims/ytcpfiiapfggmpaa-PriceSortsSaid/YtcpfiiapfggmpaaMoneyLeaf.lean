/- money: Fits, size, and bits.Mul64, walked. -/
import Derived.Test.YtcpfiiapfggmpaaJInts
import Derived.Test.YtcpfiiapfggmpaaShelf
namespace Go.Proofs.Ytcpfiiapfggmpaa
open Go.RowKit Go.Lib

def fitsB (n : Int) : Bool := decide (-1125899906842624 ≤ n ∧ n ≤ 1125899906842624)
theorem fits_any (n : Int) (w : World) : Calls Try.prog 15 #[.int .i64 n] w fun e w' => e = .returned (.bool (fitsB n)) ∧ w' = w := by
  unfold fitsB
  go_enter Try.func15, Try.ntmps15
  go_wp2
  all_goals (go_ret; exact ⟨ret_bool (by rw [Bool.eq_iff_iff]; simp; omega), rfl⟩)
theorem fits_yes {n : Int} (h : -1125899906842624 ≤ n ∧ n ≤ 1125899906842624) (w : World) : Calls Try.prog 15 #[.int .i64 n] w fun e w' => e = .returned (.bool true) ∧ w' = w := by
  have := fits_any n w
  rwa [show fitsB n = true by simp [fitsB, h]] at this
theorem fits_no {n : Int} (h : ¬ (-1125899906842624 ≤ n ∧ n ≤ 1125899906842624)) (w : World) : Calls Try.prog 15 #[.int .i64 n] w fun e w' => e = .returned (.bool false) ∧ w' = w := by
  have := fits_any n w
  rwa [show fitsB n = false by unfold fitsB; rw [decide_eq_false_iff_not]; exact h] at this
theorem size_int {x : Int} (h0 : 0 ≤ x) (h1 : x < 9223372036854775808) (w : World) : Calls Try.prog 77 #[.int .i64 x] w fun e w' => e = .returned (.int .u64 x) ∧ w' = w := by
  go_enter Try.func77, Try.ntmps77
  go_wp2
  all_goals (go_ret; exact ⟨rfl, rfl⟩)
theorem size_any {n : Nat} (h : n < 9223372036854775808) (w : World) : Calls Try.prog 77 #[.int .i64 n] w fun e w' => e = .returned (.int .u64 n) ∧ w' = w := size_int (x := (n : Int)) (by omega) (by omega) w
theorem mul_any {n m : Nat} (hn : n < 18446744073709551616) (hm : m < 18446744073709551616) (w : World) :
    Calls Try.prog 78 #[.int .u64 n, .int .u64 m] w fun e w' => e = .returned (.tuple #[.int .u64 ((n * m / 18446744073709551616 : Nat) : Int), .int .u64 ((n * m % 18446744073709551616 : Nat) : Int)]) ∧ w' = w :=
  Any.bits_Mul64 Try.lay_mul64_f78 n m hn hm w
end Go.Proofs.Ytcpfiiapfggmpaa
