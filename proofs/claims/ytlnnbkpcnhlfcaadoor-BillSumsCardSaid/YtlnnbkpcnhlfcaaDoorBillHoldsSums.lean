/- A statement of chapter 34: from the walk to the row and its card. -/
import Derived.Test.YtlnnbkpcnhlfcaaDoorBillHolds0
import Derived.Test.YtlnnbkpcnhlfcaaDoorBillLaw8
import Derived.Test.YtlnnbkpcnhlfcaaDoorTie
import Derived.Test.YtlnnbkpcnhlfcaaDoorCards
namespace Go.Proofs.YtlnnbkpcnhlfcaaDoor
open Go.ChangeShapes Go.WideShapes Go.ChangeAt Go.RowKit Go.Lib Go.Deep
set_option linter.unusedVariables false
set_option maxRecDepth 100000 in
theorem billSums_lifted (os : Os) (started : os.Started) (H : Type) (enc : TypeId × Value → H) :
    ReturnsInHanded {} Tryd.checked os 11 .any (fun w args => (Rows.billSumsSpec.pre enc Tryd.prog Tryd.f11 [] false w args ∧ laidMetH Tryd.prog lawMonths w) ∧ sizedMet enc Tryd.prog Tryd.f11 (OpenSpec.ofChange Rows.billSumsSpec) false w args) (Rows.billSumsSpec.post enc Tryd.prog Tryd.f11 false true false false) := by
  refine returnsInHanded_of_change_and (C := Tryd.checked) (X := fun w _ => laidMetH Tryd.prog lawMonths w) (fun _ _ _ hh h => h.of_heap hh) lawOwn started (by kernel_rfl) Tryd.func11
    (ChangeSpec.witness_shaped (enc := enc) (C := Tryd.checked) (os := os) (X := fun w _ => laidMetH Tryd.prog lawMonths w) false (World.doorLaid Tryd.prog 400 os) #[.slice none 0 0] 12 rfl (World.shaped_of_RefB (by kernel_rfl) (by kernel_rfl)) (by kernel_rfl) (by kernel_rfl) (by kernel_rfl) (door_met os _)) ?_
  intro W base args ds gs before hval0 hW _ _ hL _
  have hval : ∀ (j : Nat) t v, Tryd.f11.params[j]? = some t → args[j]? = some v → Value.okWide Tryd.prog W .any base t v := hval0
  have hW' := hW
  obtain ⟨p, q, hA0, hV, rfl, hfz, hnd⟩ := hW
  have hA : DataW.TrodAll enc Tryd.prog W 0 (fun _ => true) true Tryd.f11.params.toList args.toList ds p := hA0
  rw [Tryd.params11] at hA hval
  obtain ⟨v0, vs0, d0, ds0, p0, q0, hargs, rfl, rfl, h0, r0⟩ := trodAll_cons hA
  obtain ⟨rfl, rfl, rfl⟩ := trodAll_nil r0
  obtain rfl : args = #[v0] := by cases args; simp_all
  obtain ⟨rfl, rfl⟩ := trodVars_none hV
  have k0 := h0
  have lt0 : ∀ x ∈ p0, x.block < W.heap.size := by obtain ⟨m, hm⟩ := k0; exact DataW.trod_lt m _ _ _ hm
  obtain ⟨A0, cp0, l0, hl0, hlc0, hcm0, hr0, hok0⟩ : ∃ A c l, v0 = .slice A (List.length l) c ∧ l.length ≤ c ∧ c ≤ maxLen ∧ Rd encCg 7 W W.heap.size A l ∧ ∀ x ∈ l, CgOk W x := by
    obtain ⟨a, len, cap, rfl⟩ := okWide_slice Tryd.underlying33 (hval 0 33 v0 rfl rfl)
    obtain ⟨fuel, hf⟩ := h0
    obtain ⟨A, c, l, h1, h2, h3, h4, h5⟩ := open_list Tryd.underlying33 (by kernel_rfl) (by omega) encCg_ok.1 openCg hf
    simp [Value.cells] at h1
    obtain ⟨rfl, rfl, rfl⟩ := h1
    exact ⟨a, cap, l, rfl, h2, h3, h4, h5⟩
  subst hl0
  have hm0 : l0.length ≤ 9223372036854775807 := by unfold maxLen at hcm0; omega
  have hc0 : cp0 ≤ 9223372036854775807 := by unfold maxLen at hcm0; omega
  clear hA0 hval0
  refine (billSums_walk cp0 hr0 hm0 (mon_of hL)).mono fun e W' ⟨he, bel⟩ => ?_
  subst he
  exact ⟨_, rfl, _, _, _, [], _, [], hW', trodAll_mk1 (shut_bool Tryd.underlying4 _), (trodAll_cons_mk (Below.trod lawLaid (by kernel_rfl) (of_decide_eq_true (by kernel_rfl)) k0 bel lt0) trodAll_mk0), rfl, bel.frame _, fun h => by cases h⟩
/-- THE STATEMENT. -/
theorem billSums_holds : Rows.BillSumsSaid :=
  OpenClaim.holds_of_wide 11 Tryd.f11 rfl rfl rfl rfl rfl rfl rfl ⟨rfl, rfl, rfl, rfl, rfl⟩ rfl rfl rfl rfl rfl (by kernel_rfl) Tryd.func11 (by kernel_rfl)
    (of_decide_eq_true (by kernel_rfl)) (by unfold Func.isWrapper; first | (rw [if_pos (by decide +kernel)]; kernel_rfl) | (rw [if_neg (by decide +kernel)]; exact ⟨rfl, rfl⟩))
    (fun os started H enc _ => billSums_lifted os started H enc)
/-- THE CARD. -/
theorem billSums_card : Rows.BillSumsCardSaid :=
  Claim7.holds_tied_plain_at .later [] [.data] true (true, "c948e859963a234cbec449290cd7758fa7de30a0157f77e881f28a8059854f8f") false
    billSums_holds (fun _ h => by cases h) (by kernel_rfl) (fun _ h => by cases h) billSums_row_tie rfl ⟨rfl, rfl⟩ (by kernel_rfl) rfl
    (fun f fn hf hfn => by
      obtain rfl : f = 11 := Option.some.inj ((show Tryd.prog.funcNamed "tollway/tollwaylaw34.BillSums" = some 11 by kernel_rfl).symm.trans hf) |>.symm
      obtain rfl : fn = Tryd.f11 := (Option.some.inj (Tryd.func11.symm.trans hfn)).symm
      exact ⟨by kernel_rfl, fun j t ht => by
        rw [Tryd.params11] at ht
        have hm : t ∈ [33] := by simpa using Array.mem_of_getElem? ht
        have hall : ([33].all fun u => !Tryd.prog.wantsStandIn u) = true := by kernel_rfl
        exact (show Tryd.prog.wantsStandIn t = false by simpa using List.all_eq_true.1 hall t hm)⟩)
    (by kernel_rfl)
end Go.Proofs.YtlnnbkpcnhlfcaaDoor
