/- A statement of chapter 31: from the walk to the row. -/
import Derived.Test.YtcpfiiapfggmpaaJPrcHolds0
import Derived.Test.YtcpfiiapfggmpaaPrcLaw2
namespace Go.Proofs.Ytcpfiiapfggmpaa
open Go.ChangeShapes Go.WideShapes Go.ChangeAt Go.RowKit Go.Lib Go.Deep
set_option linter.unusedVariables false
set_option maxRecDepth 100000 in
theorem priceSorts_lifted (os : Os) (started : os.Started) (H : Type) (enc : TypeId × Value → H) :
    ReturnsInHanded {} Try.checked os 4 .any (Rows.priceSortsSpec.pre6 enc Try.prog Try.f4 Rows.priceSortsRow.domain false) (Rows.priceSortsSpec.post enc Try.prog Try.f4 false true false false) := by
  refine returnsInHanded_of_change (C := Try.checked) lawOwn started (by kernel_rfl) Try.func4
    (ChangeSpec.witness6 (enc := enc) (C := Try.checked) false ⟨#[], #[.slice none 0 0], []⟩ 12 (by kernel_rfl) (by kernel_rfl) (by kernel_rfl) (by kernel_rfl)) ?_
  intro W base args ds gs before hval0 hW hcnd _
  have hval : ∀ (j : Nat) t v, Try.f4.params[j]? = some t → args[j]? = some v → Value.okWide Try.prog W .any base t v := hval0
  have hW' := hW
  obtain ⟨p, q, hA0, hV, rfl, hfz, hnd⟩ := hW
  have hA : DataW.TrodAll enc Try.prog W 0 (fun _ => true) true Try.f4.params.toList args.toList ds p := hA0
  rw [Try.params4] at hA hval
  obtain ⟨v0, vs0, d0, ds0, p0, q0, hargs, rfl, rfl, h0, r0⟩ := trodAll_cons hA
  obtain ⟨rfl, rfl, rfl⟩ := trodAll_nil r0
  obtain rfl : args = #[v0] := by cases args; simp_all
  obtain ⟨rfl, rfl⟩ := trodVars_none hV
  have k0 := h0
  have lt0 : ∀ x ∈ p0, x.block < W.heap.size := by obtain ⟨m, hm⟩ := k0; exact DataW.trod_lt m _ _ _ hm
  obtain ⟨A0, cp0, l0, hl0, hlc0, hcm0, hr0, hok0⟩ : ∃ A c l, v0 = .slice A (List.length l) c ∧ l.length ≤ c ∧ c ≤ maxLen ∧ Rd encCg 7 W W.heap.size A l ∧ ∀ x ∈ l, CgOk W x := by
    obtain ⟨a, len, cap, rfl⟩ := okWide_slice Try.underlying30 (hval 0 30 v0 rfl rfl)
    obtain ⟨fuel, hf⟩ := h0
    obtain ⟨A, c, l, h1, h2, h3, h4, h5⟩ := open_list Try.underlying30 (by kernel_rfl) (by omega) encCg_ok.1 openCg hf
    simp [Value.cells] at h1
    obtain ⟨rfl, rfl, rfl⟩ := h1
    exact ⟨a, cap, l, rfl, h2, h3, h4, h5⟩
  subst hl0
  have hm0 : l0.length ≤ 9223372036854775807 := by unfold maxLen at hcm0; omega
  have hc0 : cp0 ≤ 9223372036854775807 := by unfold maxLen at hcm0; omega
  clear hA0 hval0
  refine (priceSorts_walk cp0 hr0 hok0 hm0).mono fun e W' ⟨he, bel⟩ => ?_
  subst he
  exact ⟨_, rfl, _, _, _, [], _, [], hW', trodAll_mk1 (shut_bool Try.underlying4 _), (trodAll_cons_mk (Below.trod lawLaid (by kernel_rfl) (of_decide_eq_true (by kernel_rfl)) k0 bel lt0) trodAll_mk0), rfl, bel.frame _, fun h => by cases h⟩
/-- THE STATEMENT. -/
theorem priceSorts_holds : Rows.PriceSortsSaid :=
  OpenClaim.holds_of_wide 4 Try.f4 rfl rfl rfl rfl rfl rfl rfl ⟨rfl, rfl, rfl, rfl, rfl⟩ rfl rfl rfl rfl rfl (by kernel_rfl) Try.func4 (by kernel_rfl)
    (of_decide_eq_true (by kernel_rfl)) (by unfold Func.isWrapper; first | (rw [if_pos (by decide +kernel)]; kernel_rfl) | (rw [if_neg (by decide +kernel)]; exact ⟨rfl, rfl⟩))
    (fun os started H enc _ => priceSorts_lifted os started H enc)
end Go.Proofs.Ytcpfiiapfggmpaa
