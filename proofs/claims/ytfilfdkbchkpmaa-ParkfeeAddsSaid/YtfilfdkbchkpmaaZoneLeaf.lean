/- The small functions of chapter 26, walked: within, valid, isTime, on, Minute. -/
import Derived.Test.YtfilfdkbchkpmaaZoneMath
import Derived.Test.YtfilfdkbchkpmaaIv
import Derived.Test.YtfilfdkbchkpmaaMore
namespace Go.Proofs.Ytfilfdkbchkpmaa
open Go.RowKit Go.Lib

theorem zwithin_any (n a b : Int) (w : World) :
    Calls Try.prog 44 #[.int .i64 n, .int .i64 a, .int .i64 b] w fun e w' => e = .returned (.bool (decide (a ≤ n ∧ n ≤ b))) ∧ w' = w := by
  go_enter Try.func44, Try.ntmps44
  go_wp2
  all_goals (go_ret; exact ⟨ret_bool (by rw [Bool.eq_iff_iff]; simp; omega), rfl⟩)
theorem rIsSpan_any (f t : Int) (w : World) :
    Calls Try.prog 69 #[.agg #[.int .i64 f, .int .i64 t]] w fun e w' => e = .returned (.bool (validB f t)) ∧ w.alloc (.cells #[.int .i64 f, .int .i64 t] 35) = w' := by
  unfold validB
  go_enter Try.func69, Try.ntmps69
  go_wp2
  all_goals (go_ret; exact ⟨ret_bool (by rw [Bool.eq_iff_iff]; simp; omega), rfl⟩)
theorem rIsWindow_any (x : Wn) (w : World) :
    Calls Try.prog 51 #[.agg #[.int .i64 x.1, .int .i64 x.2.1, .int .i64 x.2.2]] w fun e w' => e = .returned (.bool (vw x)) ∧ w.alloc (.cells #[.int .i64 x.1, .int .i64 x.2.1, .int .i64 x.2.2] 80) = w' := by
  unfold vw
  go_enter Try.func51, Try.ntmps51
  go_wp2
  all_goals (go_ret; exact ⟨ret_bool (by rw [Bool.eq_iff_iff]; simp; omega), rfl⟩)
theorem cvalid_any (x : Wn) (w : World) :
    Calls Try.prog 63 #[.agg #[.int .i64 x.1, .int .i64 x.2.1, .int .i64 x.2.2]] w fun e w' => e = .returned (.bool (vw x)) ∧ w.alloc (.cells #[.int .i64 x.1, .int .i64 x.2.1, .int .i64 x.2.2] 80) = w' := by
  unfold vw
  go_enter Try.func63, Try.ntmps63
  go_wp2
  all_goals (go_ret; exact ⟨ret_bool (by rw [Bool.eq_iff_iff]; simp; omega), rfl⟩)
theorem zvalid_any (x : Wn) (w : World) :
    Calls Try.prog 42 #[.agg #[.int .i64 x.1, .int .i64 x.2.1, .int .i64 x.2.2]] w fun e w' => e = .returned (.bool (vw x)) ∧ w.alloc (.cells #[.int .i64 x.1, .int .i64 x.2.1, .int .i64 x.2.2] 80) = w' := by
  unfold vw
  go_enter Try.func42, Try.ntmps42
  go_wp2_with (go_at_call 44; refine (zwithin_any _ _ _ _).mono ?_; rintro e w' ⟨rfl, rfl⟩)
  all_goals (go_ret; exact ⟨ret_bool (by rw [Bool.eq_iff_iff]; simp; omega), rfl⟩)
end Go.Proofs.Ytfilfdkbchkpmaa
