import Derived.Test.YtimffppffbideaaGreatDoorRows
import Derived.ProofKit
set_option linter.unusedSimpArgs false
set_option linter.unusedVariables false
set_option maxRecDepth 100000
namespace Go.Proofs.YtimffppffbideaaGreatDoor
open Go.ChangeShapes Go.WideShapes Go.ChangeAt Go.RowKit
theorem topSeen_laid:laidOutB Tryz.checked.prog=true:=by kernel_rfl
theorem topSeen_mapsRowed:mapsRowed Tryz.checked.prog=true:=by kernel_rfl
theorem topSeen_wf:Rows.topSeenRow.wf (OpenSpec.ofChange Rows.topSeenSpec)=true:=by kernel_rfl
theorem topSeen_namedTie:namedTie Tryz.checked.prog Rows.topSeenRow.named Rows.topSeenSpec.vars=true:=by kernel_rfl
theorem topSeen_inPlace:(Rows.topSeenRow.inPlace==Tryz.checked.prog.inPlace 3)=true:=by kernel_rfl
theorem topSeen_unfollowed:(Rows.topSeenRow.unfollowed==Tryz.checked.prog.unfollowed 3)=true:=by kernel_rfl
theorem topSeen_recurses:(Rows.topSeenRow.recurses==Tryz.checked.prog.recurses 3)=true:=by kernel_rfl
theorem topSeen_named:(Rows.topSeenRow.named==Tryz.checked.prog.varsNamed 3)=true:=by kernel_rfl
theorem topSeen_plainKeys:(Rows.topSeenRow.plainKeys==Tryz.checked.prog.plainKeys)=true:=by kernel_rfl
theorem topSeen_facts:joinedFacts Tryz.checked.prog 3 Tryz.f3 Rows.topSeenSpec Rows.topSeenRow=true:=by
 unfold joinedFacts;repeat' (with_reducible refine Bool.and_eq_true_iff.2 ⟨?_,?_⟩)
 all_goals first
  |(with_reducible exact topSeen_laid)
  |(with_reducible exact topSeen_mapsRowed)
  |(with_reducible exact topSeen_wf)
  |(with_reducible exact topSeen_namedTie)
  |(with_reducible exact topSeen_inPlace)
  |(with_reducible exact topSeen_unfollowed)
  |(with_reducible exact topSeen_recurses)
  |(with_reducible exact topSeen_named)
  |(with_reducible exact topSeen_plainKeys)
  |kernel_rfl
end Go.Proofs.YtimffppffbideaaGreatDoor
