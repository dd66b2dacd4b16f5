/- A statement of chapter 29: from the walk to the row. -/
import Derived.Test.YtbeoopofckbijaaPerHolds0
import Derived.Test.YtbeoopofckbijaaPerLaw
import Derived.Test.YtbeoopofckbijaaPerAwake
namespace Go.Proofs.Ytbeoopofckbijaa
open Go.ChangeShapes Go.WideShapes Go.ChangeAt Go.RowKit Go.Lib Go.Deep
set_option linter.unusedVariables false
set_option maxRecDepth 100000 in
theorem permitTimes_lifted (os : Os) (started : os.Started) (H : Type) (enc : TypeId × Value → H) :
    ReturnsInHanded {} Try.checked os 3 .any (Rows.permitTimesSpec.pre6 enc Try.prog Try.f3 Rows.permitTimesRow.domain false) (Rows.permitTimesSpec.post enc Try.prog Try.f3 false true false false) := by
  refine returnsInHanded_of_change (C := Try.checked) lawOwn started (by kernel_rfl) Try.func3
    (ChangeSpec.witness6 (enc := enc) (C := Try.checked) false ⟨#[], #[.slice none 0 0, .agg #[.string ⟨#[]⟩, .string ⟨#[]⟩], .agg #[.int .i64 0, .int .i64 0], .int .i64 0], []⟩ 12 (by kernel_rfl) (by kernel_rfl) (by kernel_rfl) (by kernel_rfl)) ?_
  intro W base args ds gs before hval0 hW hcnd _
  have hval : ∀ (j : Nat) t v, Try.f3.params[j]? = some t → args[j]? = some v → Value.okWide Try.prog W .any base t v := hval0
  have hW' := hW
  obtain ⟨p, q, hA0, hV, rfl, hfz, hnd⟩ := hW
  have hA : DataW.TrodAll enc Try.prog W 0 (fun _ => true) true Try.f3.params.toList args.toList ds p := hA0
  rw [Try.params3] at hA hval
  obtain ⟨v0, vs0, d0, ds0, p0, q0, hargs, rfl, rfl, h0, r0⟩ := trodAll_cons hA
  obtain ⟨v1, vs1, d1, ds1, p1, q1, rfl, rfl, rfl, h1, r1⟩ := trodAll_cons r0
  obtain ⟨v2, vs2, d2, ds2, p2, q2, rfl, rfl, rfl, h2, r2⟩ := trodAll_cons r1
  obtain ⟨v3, vs3, d3, ds3, p3, q3, rfl, rfl, rfl, h3, r3⟩ := trodAll_cons r2
  obtain ⟨rfl, rfl, rfl⟩ := trodAll_nil r3
  obtain rfl : args = #[v0, v1, v2, v3] := by cases args; simp_all
  obtain ⟨rfl, rfl⟩ := trodVars_none hV
  have k0 := h0
  have lt0 : ∀ x ∈ p0, x.block < W.heap.size := by obtain ⟨m, hm⟩ := k0; exact DataW.trod_lt m _ _ _ hm
  obtain ⟨A0, cp0, l0, hl0, hlc0, hcm0, hr0, hok0⟩ : ∃ A c l, v0 = .slice A (List.length l) c ∧ l.length ≤ c ∧ c ≤ maxLen ∧ Rd encPm 7 W W.heap.size A l ∧ ∀ x ∈ l, POk W x := by
    obtain ⟨a, len, cap, rfl⟩ := okWide_slice Try.underlying22 (hval 0 22 v0 rfl rfl)
    obtain ⟨fuel, hf⟩ := h0
    obtain ⟨A, c, l, h1, h2, h3, h4, h5⟩ := open_list Try.underlying22 (by kernel_rfl) (by omega) encPm_ok.1 openPm hf
    simp [Value.cells] at h1
    obtain ⟨rfl, rfl, rfl⟩ := h1
    exact ⟨a, cap, l, rfl, h2, h3, h4, h5⟩
  subst hl0
  have hm0 : l0.length ≤ 9223372036854775807 := by unfold maxLen at hcm0; omega
  have hc0 : cp0 ≤ 9223372036854775807 := by unfold maxLen at hcm0; omega
  have k1 := h1
  have lt1 : ∀ x ∈ p1, x.block < W.heap.size := by obtain ⟨m, hm⟩ := k1; exact DataW.trod_lt m _ _ _ hm
  obtain ⟨z1, hz1, okz1⟩ : ∃ z : Ve, v1 = VeV z ∧ (fun _ : Ve => True) z := by
    obtain ⟨cs, rfl, _⟩ := okWide_struct Try.underlying24 (hval 1 24 v1 rfl rfl)
    obtain ⟨fuel, hf⟩ := h1
    obtain ⟨z, hz, hok⟩ := openVe fuel _ _ hf
    refine ⟨z, ?_, hok⟩
    have : cs = (encVe z).toArray := by rw [← hz]; simp [Value.cells]
    rw [this]; rfl
  subst hz1
  have k2 := h2
  have lt2 : ∀ x ∈ p2, x.block < W.heap.size := by obtain ⟨m, hm⟩ := k2; exact DataW.trod_lt m _ _ _ hm
  obtain ⟨z2, hz2, okz2⟩ : ∃ z : Iv, v2 = IvV z ∧ (fun _ : Iv => True) z := by
    obtain ⟨cs, rfl, _⟩ := okWide_struct Try.underlying26 (hval 2 26 v2 rfl rfl)
    obtain ⟨fuel, hf⟩ := h2
    obtain ⟨z, hz, hok⟩ := openIv fuel _ _ hf
    refine ⟨z, ?_, hok⟩
    have : cs = (encIv z).toArray := by rw [← hz]; simp [Value.cells]
    rw [this]; rfl
  subst hz2
  have k3 := h3
  have lt3 : ∀ x ∈ p3, x.block < W.heap.size := by obtain ⟨m, hm⟩ := k3; exact DataW.trod_lt m _ _ _ hm
  obtain ⟨n3, rfl, rfl, rfl, wn3⟩ := open_int Try.underlying3 (hval 3 3 v3 rfl rfl) h3
  clear hA0 hval0
  refine (times_walk cp0 z1.a z1.b z2.1 z2.2 n3 hr0 hok0 awake_any).mono fun e W' ⟨he, bel⟩ => ?_
  subst he
  exact ⟨_, rfl, _, _, _, [], _, [], hW', trodAll_mk1 (shut_bool Try.underlying4 _), (trodAll_cons_mk (Below.trod lawLaid (by kernel_rfl) (of_decide_eq_true (by kernel_rfl)) k0 bel lt0) (trodAll_cons_mk (Below.trod lawLaid (by kernel_rfl) (of_decide_eq_true (by kernel_rfl)) k1 bel lt1) (trodAll_cons_mk (Below.trod lawLaid (by kernel_rfl) (of_decide_eq_true (by kernel_rfl)) k2 bel lt2) (trodAll_cons_mk (Below.trod lawLaid (by kernel_rfl) (of_decide_eq_true (by kernel_rfl)) k3 bel lt3) trodAll_mk0)))), rfl, bel.frame _, fun h => by cases h⟩
/-- THE STATEMENT. -/
theorem permitTimes_holds : Rows.PermitTimesSaid :=
  OpenClaim.holds_of_wide 3 Try.f3 rfl rfl rfl rfl rfl rfl rfl ⟨rfl, rfl, rfl, rfl, rfl⟩ rfl rfl rfl rfl rfl (by kernel_rfl) Try.func3 (by kernel_rfl)
    (of_decide_eq_true (by kernel_rfl)) (by unfold Func.isWrapper; first | (rw [if_pos (by decide +kernel)]; kernel_rfl) | (rw [if_neg (by decide +kernel)]; exact ⟨rfl, rfl⟩))
    (fun os started H enc _ => permitTimes_lifted os started H enc)
end Go.Proofs.Ytbeoopofckbijaa
