/- A statement of chapter 13: from the walk to the row. -/
import Derived.Test.YtgkppjkmakomnaaDetHolds0
import Derived.Test.YtgkppjkmakomnaaDetLaw4
namespace Go.Proofs.Ytgkppjkmakomnaa
open Go.ChangeShapes Go.WideShapes Go.ChangeAt Go.RowKit Go.Lib Go.Deep
set_option linter.unusedVariables false
set_option maxRecDepth 100000 in
theorem detectOrders_lifted (os : Os) (started : os.Started) (H : Type) (enc : TypeId × Value → H) :
    ReturnsInHanded {} Try.checked os 4 .any (Rows.detectOrdersSpec.pre6 enc Try.prog Try.f4 Rows.detectOrdersRow.domain false) (Rows.detectOrdersSpec.post enc Try.prog Try.f4 false true false false) := by
  refine returnsInHanded_of_change (C := Try.checked) lawOwn started (by kernel_rfl) Try.func4
    (ChangeSpec.witness6 (enc := enc) (C := Try.checked) false ⟨#[], #[.agg #[.string ⟨#[]⟩, .int .i64 0, .int .i64 0, .string ⟨#[]⟩, .string ⟨#[]⟩, .int .i64 0, .int .i64 0, .int .i64 0, .string ⟨#[]⟩, .int .i64 0, .int .i64 0], .agg #[.string ⟨#[]⟩, .int .i64 0, .int .i64 0, .string ⟨#[]⟩, .string ⟨#[]⟩, .int .i64 0, .int .i64 0, .int .i64 0, .string ⟨#[]⟩, .int .i64 0, .int .i64 0]], []⟩ 12 (by kernel_rfl) (by kernel_rfl) (by kernel_rfl) (by kernel_rfl)) ?_
  intro W base args ds gs before hval0 hW hcnd _
  have hval : ∀ (j : Nat) t v, Try.f4.params[j]? = some t → args[j]? = some v → Value.okWide Try.prog W .any base t v := hval0
  have hW' := hW
  obtain ⟨p, q, hA0, hV, rfl, hfz, hnd⟩ := hW
  have hA : DataW.TrodAll enc Try.prog W 0 (fun _ => true) true Try.f4.params.toList args.toList ds p := hA0
  rw [Try.params4] at hA hval
  obtain ⟨v0, vs0, d0, ds0, p0, q0, hargs, rfl, rfl, h0, r0⟩ := trodAll_cons hA
  obtain ⟨v1, vs1, d1, ds1, p1, q1, rfl, rfl, rfl, h1, r1⟩ := trodAll_cons r0
  obtain ⟨rfl, rfl, rfl⟩ := trodAll_nil r1
  obtain rfl : args = #[v0, v1] := by cases args; simp_all
  obtain ⟨rfl, rfl⟩ := trodVars_none hV
  have k0 := h0
  have lt0 : ∀ x ∈ p0, x.block < W.heap.size := by obtain ⟨m, hm⟩ := k0; exact DataW.trod_lt m _ _ _ hm
  obtain ⟨z0, hz0, okz0⟩ : ∃ z : Sn, v0 = SnV z ∧ (fun s : Sn => SeqOk s.d) z := by
    obtain ⟨cs, rfl, _⟩ := okWide_struct Try.underlying29 (hval 0 29 v0 rfl rfl)
    obtain ⟨fuel, hf⟩ := h0
    obtain ⟨z, hz, hok⟩ := openSn fuel _ _ hf
    refine ⟨z, ?_, hok⟩
    have : cs = (encSn z).toArray := by rw [← hz]; simp [Value.cells]
    rw [this]; rfl
  subst hz0
  have k1 := h1
  have lt1 : ∀ x ∈ p1, x.block < W.heap.size := by obtain ⟨m, hm⟩ := k1; exact DataW.trod_lt m _ _ _ hm
  obtain ⟨z1, hz1, okz1⟩ : ∃ z : Sn, v1 = SnV z ∧ (fun s : Sn => SeqOk s.d) z := by
    obtain ⟨cs, rfl, _⟩ := okWide_struct Try.underlying29 (hval 1 29 v1 rfl rfl)
    obtain ⟨fuel, hf⟩ := h1
    obtain ⟨z, hz, hok⟩ := openSn fuel _ _ hf
    refine ⟨z, ?_, hok⟩
    have : cs = (encSn z).toArray := by rw [← hz]; simp [Value.cells]
    rw [this]; rfl
  subst hz1
  clear hA0 hval0
  refine (detectOrders_walk z0 z1 W).mono fun e W' ⟨he, bel⟩ => ?_
  subst he
  exact ⟨_, rfl, _, _, _, [], _, [], hW', trodAll_mk1 (shut_bool Try.underlying4 _), (trodAll_cons_mk (Below.trod lawLaid (by kernel_rfl) (of_decide_eq_true (by kernel_rfl)) k0 bel lt0) (trodAll_cons_mk (Below.trod lawLaid (by kernel_rfl) (of_decide_eq_true (by kernel_rfl)) k1 bel lt1) trodAll_mk0)), rfl, bel.frame _, fun h => by cases h⟩
/-- THE STATEMENT. -/
theorem detectOrders_holds : Rows.DetectOrdersSaid :=
  OpenClaim.holds_of_wide 4 Try.f4 rfl rfl rfl rfl rfl rfl rfl ⟨rfl, rfl, rfl, rfl, rfl⟩ rfl rfl rfl rfl rfl (by kernel_rfl) Try.func4 (by kernel_rfl)
    (of_decide_eq_true (by kernel_rfl)) (by unfold Func.isWrapper; first | (rw [if_pos (by decide +kernel)]; kernel_rfl) | (rw [if_neg (by decide +kernel)]; exact ⟨rfl, rfl⟩))
    (fun os started H enc _ => detectOrders_lifted os started H enc)
end Go.Proofs.Ytgkppjkmakomnaa
