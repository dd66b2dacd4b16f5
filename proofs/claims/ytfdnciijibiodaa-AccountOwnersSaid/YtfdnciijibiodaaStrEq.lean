/- Equality of strings, as the walk spells it. No program in sight. -/
import Derived.Lib.Bytealg
import Derived.Laws.Strings
namespace Go.Proofs.Ytfdnciijibiodaa

def eqS (a b : ByteArray) : Bool := a.toList == b.toList
theorem eqS_iff (a b : ByteArray) : eqS a b = true ↔ a = b := by
  unfold eqS
  rw [beq_iff_eq, ByteArray.toList_eq, ByteArray.toList_eq]
  constructor
  · intro h
    cases a; cases b
    simp only [ByteArray.mk.injEq]
    exact Array.ext' h
  · rintro rfl; rfl
theorem eqS_refl (a : ByteArray) : eqS a a = true := (eqS_iff a a).2 rfl
theorem eqS_comm (a b : ByteArray) : eqS a b = eqS b a := by
  rw [Bool.eq_iff_iff, eqS_iff, eqS_iff]; exact eq_comm
end Go.Proofs.Ytfdnciijibiodaa
