/- What the last steps of chapter 05's statements share. -/
import Derived.Test.YtkipbmcahkacmaaSpanRef1
import Derived.Test.YtkipbmcahkacmaaOpen
import Derived.Test.YtkipbmcahkacmaaRows
namespace Go.Proofs.Ytkipbmcahkacmaa
open Go.ChangeShapes Go.WideShapes Go.ChangeAt Go.RowKit Go.Lib Go.Deep
set_option linter.unusedVariables false

theorem lawOwn : ownKnob Try.prog.godebug = none := by kernel_rfl
theorem lawLaid : laidOutB Try.prog = true := by kernel_rfl
def OkIv (x : Iv) : Prop := (-9223372036854775808 ≤ x.1 ∧ x.1 ≤ 9223372036854775807) ∧ (-9223372036854775808 ≤ x.2 ∧ x.2 ≤ 9223372036854775807)
theorem wf_i64 {n : Int} (h : (Lit.int .i64 n).wf = true) : -9223372036854775808 ≤ n ∧ n ≤ 9223372036854775807 := by
  simp [Lit.wf, IntKind.min, IntKind.max, IntKind.signed, IntKind.bits] at h
  omega
theorem wf_u16 {n : Int} (h : (Lit.int .u16 n).wf = true) : 0 ≤ n ∧ n ≤ 65535 := by
  simp [Lit.wf, IntKind.min, IntKind.max, IntKind.signed, IntKind.bits] at h
  omega
theorem openIv {H : Type} {encH : TypeId × Value → H} {w : World} {base : Nat} {spare : Nat → Bool} {held : Bool} : Opens encH Try.prog w base spare held 25 encIv OkIv := by
  intro fuel cs x h
  obtain ⟨xs, n, rfl, hx, hlen, hxl, hf⟩ := DataW.trod_struct Try.underlying25 h
  have hlen2 : cs.length = 2 := hlen.trans (by kernel_rfl)
  have hxl2 : xs.length = 2 := hxl
  have f0 := (hf 0 _ rfl).trans (List.getElem?_eq_getElem (by omega))
  have f1 := (hf 1 _ rfl).trans (List.getElem?_eq_getElem (by omega))
  obtain ⟨a0, h0, _, w0⟩ := DataW.trod_int Try.underlying3 f0
  obtain ⟨a1, h1, _, w1⟩ := DataW.trod_int Try.underlying3 f1
  have c0 : (cs.drop 0).take 1 = [.int .i64 a0] := h0
  have c1 : (cs.drop 1).take 1 = [.int .i64 a1] := h1
  have c2 : cs.drop 2 = [] := List.drop_eq_nil_of_le (by omega)
  refine ⟨(a0, a1), ?_, wf_i64 w0, wf_i64 w1⟩
  have e := pieces cs 0 1 1 rfl
  have e1 := pieces cs 1 1 2 rfl
  rw [e1, c2, c1, c0] at e
  simpa [encIv] using e
end Go.Proofs.Ytkipbmcahkacmaa
