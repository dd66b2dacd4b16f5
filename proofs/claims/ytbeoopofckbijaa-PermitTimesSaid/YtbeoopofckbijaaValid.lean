/- span.Valid, walked. -/
import Derived.Test.YtbeoopofckbijaaJFirst
import Derived.IntWalk
import Derived.BigRegion
namespace Go.Proofs.Ytbeoopofckbijaa
open Go.RowKit Go.Lib

theorem valid_any (f t : Int) (w : World) :
    Calls Try.prog 21 #[.agg #[.int .i64 f, .int .i64 t]] w fun e w' => e = .returned (.bool (validB f t)) ∧ w.alloc (.cells #[.int .i64 f, .int .i64 t] 26) = w' := by
  unfold validB
  go_enter Try.func21, Try.ntmps21
  go_wp2
  all_goals (go_ret; exact ⟨ret_bool (by rw [Bool.eq_iff_iff]; simp; omega), rfl⟩)
end Go.Proofs.Ytbeoopofckbijaa
