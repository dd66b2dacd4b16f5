/- TopCaps: from the walk to the row and its card. -/
import Derived.Test.YtelchfijalkibaaGreatDoorTopHolds0
import Derived.Test.YtelchfijalkibaaGreatDoorTopLaw
import Derived.Test.YtelchfijalkibaaGreatDoorTie
import Derived.Test.YtelchfijalkibaaGreatDoorCards
namespace Go.Proofs.YtelchfijalkibaaGreatDoor
open Go.ChangeShapes Go.WideShapes Go.ChangeAt Go.RowKit Go.Lib Go.Deep
set_option linter.unusedVariables false
set_option maxRecDepth 100000 in
theorem topCaps_lifted (os : Os) (started : os.Started) (H : Type) (enc : TypeId × Value → H) :
    ReturnsInHanded {} Tryz.checked os 3 .any (fun w args => (Rows.topCapsSpec.pre enc Tryz.prog Tryz.f3 [] false w args ∧ laidMetH Tryz.prog lawMonths w) ∧ sizedMet enc Tryz.prog Tryz.f3 (OpenSpec.ofChange Rows.topCapsSpec) false w args) (Rows.topCapsSpec.post enc Tryz.prog Tryz.f3 false true false false) := by
  refine returnsInHanded_of_change_and (C := Tryz.checked) (X := fun w _ => laidMetH Tryz.prog lawMonths w) (fun _ _ _ hh h => h.of_heap hh) lawOwn started (by kernel_rfl) Tryz.func3
    (ChangeSpec.witness_shaped (enc := enc) (C := Tryz.checked) (os := os) (X := fun w _ => laidMetH Tryz.prog lawMonths w) false (World.doorLaid Tryz.prog 400 os) #[.agg #[.slice none 0 0, .slice none 0 0, .slice none 0 0, .slice none 0 0, .slice none 0 0, .slice none 0 0, .int .i64 0, .int .i64 0, .slice none 0 0, .int .i64 0, .slice none 0 0, .slice none 0 0, .slice none 0 0, .slice none 0 0, .slice none 0 0, .slice none 0 0, .slice none 0 0, .slice none 0 0, .slice none 0 0, .slice none 0 0, .slice none 0 0, .slice none 0 0, .int .i64 0, .slice none 0 0, .string ⟨#[]⟩], .slice none 0 0, .int .u8 0] 12 rfl (World.shaped_of_RefB (by kernel_rfl) (by kernel_rfl)) (by kernel_rfl) (by kernel_rfl) (by kernel_rfl) (door_met os _)) ?_
  intro W base args ds gs before hval0 hW hcnd hsz hL _
  have hval : ∀ (j : Nat) t v, Tryz.f3.params[j]? = some t → args[j]? = some v → Value.okWide Tryz.prog W .any base t v := hval0
  have hW' := hW
  obtain ⟨p, q, hA0, hV, rfl, hfz, hnd⟩ := hW
  have hA : DataW.TrodAll enc Tryz.prog W 0 (fun _ => true) true Tryz.f3.params.toList args.toList ds p := hA0
  rw [Tryz.params3] at hA hval
  obtain ⟨v0, vs0, d0, ds0, p0, q0, hargs, rfl, rfl, h0, r0⟩ := trodAll_cons hA
  obtain ⟨v1, vs1, d1, ds1, p1, q1, rfl, rfl, rfl, h1, r1⟩ := trodAll_cons r0
  obtain ⟨v2, vs2, d2, ds2, p2, q2, rfl, rfl, rfl, h2, r2⟩ := trodAll_cons r1
  obtain ⟨rfl, rfl, rfl⟩ := trodAll_nil r2
  obtain rfl : args = #[v0, v1, v2] := by cases args; simp_all
  obtain ⟨rfl, rfl⟩ := trodVars_none hV
  have k0 := h0
  have lt0 : ∀ x ∈ p0, x.block < W.heap.size := by obtain ⟨m, hm⟩ := k0; exact DataW.trod_lt m _ _ _ hm
  obtain ⟨z0, hz0, okz0⟩ : ∃ z : CfT, v0 = CfTV z ∧ CfTGood W z := by
    obtain ⟨cs, rfl, _⟩ := okWide_struct Tryz.underlying46 (hval 0 46 v0 rfl rfl)
    obtain ⟨fuel, hf⟩ := h0
    obtain ⟨z, hz, hok⟩ := openCfT.s fuel _ _ hf (Sized.of hsz (j := 0) (by kernel_rfl) rfl)
    refine ⟨z, ?_, hok⟩
    have : cs = (encCfT z).toArray := by rw [← hz]; simp [Value.cells]
    rw [this]; rfl
  subst hz0
  have k1 := h1
  have lt1 : ∀ x ∈ p1, x.block < W.heap.size := by obtain ⟨m, hm⟩ := k1; exact DataW.trod_lt m _ _ _ hm
  obtain ⟨A1, cp1, l1, hl1, hlc1, hcm1, hr1, hok1⟩ : ∃ A c l, v1 = .slice A (List.length l) c ∧ l.length ≤ c ∧ c ≤ maxLen ∧ Rd encTr 5 W W.heap.size A l ∧ ∀ x ∈ l, TrSz W x := by
    obtain ⟨a, len, cap, rfl⟩ := okWide_slice Tryz.underlying47 (hval 1 47 v1 rfl rfl)
    obtain ⟨fuel, hf⟩ := h1
    obtain ⟨A, c, l, h1, h2, h3, h4, h5, _⟩ := open_listS Tryz.underlying47 (by kernel_rfl) (by omega) encTr_ok.1 openTrpS hf (Sized.of hsz (j := 1) (by kernel_rfl) rfl)
    simp [Value.cells] at h1
    obtain ⟨rfl, rfl, rfl⟩ := h1
    exact ⟨a, cap, l, rfl, h2, h3, h4, h5⟩
  subst hl1
  have hm1 : l1.length ≤ 9223372036854775807 := by unfold maxLen at hcm1; omega
  have hc1 : cp1 ≤ 9223372036854775807 := by unfold maxLen at hcm1; omega
  have k2 := h2
  have lt2 : ∀ x ∈ p2, x.block < W.heap.size := by obtain ⟨m, hm⟩ := k2; exact DataW.trod_lt m _ _ _ hm
  obtain ⟨n2, rfl, rfl, rfl, wn2⟩ := open_int Tryz.underlying5 (hval 2 5 v2 rfl rfl) h2
  clear hA0 hval0
  refine (topCaps_walk z0.t.n.pc z0.t.n.lc z0.t.sc z0.tc z0.s.uc z0.s.dc z0.s.qc z0.kc z0.cc cp1 z0.s.pe z0.o3 z0.o4 z0.o5 z0.o6 z0.o7 z0.o15 z0.o16 z0.o17 z0.o18 z0.o19 z0.o20 z0.o21 z0.o22 z0.o23 z0.o24 n2 okz0 hr1 hok1 (u8_range wn2).1 (u8_range wn2).2 (mon_of hL)).mono fun e W' ⟨he, bel⟩ => ?_
  subst he
  exact ⟨_, rfl, _, _, _, [], _, [], hW', trodAll_mk1 (shut_bool Tryz.underlying4 _), (trodAll_cons_mk (Below.trod lawLaid (by kernel_rfl) (of_decide_eq_true (by kernel_rfl)) k0 bel lt0) (trodAll_cons_mk (Below.trod lawLaid (by kernel_rfl) (of_decide_eq_true (by kernel_rfl)) k1 bel lt1) (trodAll_cons_mk (Below.trod lawLaid (by kernel_rfl) (of_decide_eq_true (by kernel_rfl)) k2 bel lt2) trodAll_mk0))), rfl, bel.frame _, fun h => by cases h⟩
/-- THE STATEMENT. -/
theorem topCaps_holds : Rows.TopCapsSaid :=
  OpenClaim.holds_of_wide 3 Tryz.f3 rfl rfl rfl rfl rfl rfl rfl ⟨rfl, rfl, rfl, rfl, rfl⟩ rfl rfl rfl rfl rfl (by kernel_rfl) Tryz.func3 (by kernel_rfl)
    (of_decide_eq_true (by kernel_rfl)) (by unfold Func.isWrapper; first | (rw [if_pos (by decide +kernel)]; kernel_rfl) | (rw [if_neg (by decide +kernel)]; exact ⟨rfl, rfl⟩))
    (fun os started H enc _ => topCaps_lifted os started H enc)
/-- THE CARD. -/
theorem topCaps_card : Rows.TopCapsCardSaid :=
  Claim7.holds_tied_plain_at .later [] [.data] true (true, "fecb29d9ec37bb4fe723cb5291258a4273d5c0fddd575d5fea0e3e3dba8cb3b1") false
    topCaps_holds (fun _ h => by cases h) (by kernel_rfl) (fun _ h => by cases h) topCaps_row_tie rfl ⟨rfl, rfl⟩ (by kernel_rfl) rfl
    (fun f fn hf hfn => by
      obtain rfl : f = 3 := Option.some.inj ((show Tryz.prog.funcNamed "tollway/tollwaytop.TopCaps" = some 3 by kernel_rfl).symm.trans hf) |>.symm
      obtain rfl : fn = Tryz.f3 := (Option.some.inj (Tryz.func3.symm.trans hfn)).symm
      exact ⟨by kernel_rfl, fun j t ht => by
        rw [Tryz.params3] at ht
        have hm : t ∈ [46, 47, 5] := by simpa using Array.mem_of_getElem? ht
        have hall : ([46, 47, 5].all fun u => !Tryz.prog.wantsStandIn u) = true := by kernel_rfl
        exact (show Tryz.prog.wantsStandIn t = false by simpa using List.all_eq_true.1 hall t hm)⟩)
    (by kernel_rfl)
end Go.Proofs.YtelchfijalkibaaGreatDoor
