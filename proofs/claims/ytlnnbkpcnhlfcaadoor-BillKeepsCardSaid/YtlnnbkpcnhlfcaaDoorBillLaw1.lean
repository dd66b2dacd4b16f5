/- The laws BillMonths and BillCapped, walked. -/
import Derived.Test.YtlnnbkpcnhlfcaaDoorBillAwake
import Derived.Test.YtlnnbkpcnhlfcaaDoorJBillFew
import Derived.Test.YtlnnbkpcnhlfcaaDoorBillRCap
import Derived.Test.YtlnnbkpcnhlfcaaDoorBillSames
set_option linter.unusedSimpArgs false
set_option linter.unusedSimpArgs false
namespace Go.Proofs.YtlnnbkpcnhlfcaaDoor
open Go.RowKit Go.Lib

theorem CgRs.drew {w : World} {l : List Cg} (h : CgRs w l) : CgRs w.drew l := h
theorem Rd.drw {α : Type} {enc : α → List Value} {k : Nat} {w : World} {A : Option Addr} {l : List α} (h : Rd enc k w w.heap.size A l) : Rd enc k w.drew w.drew.heap.size A l := h

set_option maxRecDepth 100000 in
set_option maxHeartbeats 2000000 in
theorem billMonths_walk (t : Int) {w : World} (hm : Mon w) : Calls Tryd.prog 3 #[.int .i64 t] w fun e w' => e = .returned (.bool true) ∧ Below w.heap.size w w' := by
  have C1 := Lib.hid (month_any t hm)
  have C2 := Lib.hid (rmonth_any t w)
  have HM := Lib.hid hm
  have bW := Below.refl w.heap.size w
  clear hm
  go_enter Tryd.func3, Tryd.ntmps3
  go_wp2_with fail
  refine C1.out.mono ?_
  rintro e we ⟨rfl, hwe⟩
  rw [hwe]
  clear hwe we
  go_wp2_with fail
  refine C2.out.mono ?_
  rintro e we ⟨rfl, hwe⟩
  rw [hwe]
  clear hwe we
  go_wp2_with fail; refine (awake_any (HM.out.st bW HM.out.1)).mono ?_; rintro e wl ⟨rfl, hbl⟩; have bL := bW.st hbl; go_wp2_with fail; go_ret; exact ⟨rfl, bL⟩

set_option maxRecDepth 100000 in
set_option maxHeartbeats 4000000 in
theorem billCapped_walk {aA cA A : Option Addr} {acs : List Ac} {caps : List Cp} {l : List Cg} (ac cc c : Nat) {w : World} (h : BRaw w aA ac acs cA caps A l) (hlc : l.length ≤ c) (hm : Mon w) :
    Calls Tryd.prog 5 #[.agg #[.slice aA acs.length ac, .slice cA caps.length cc, .slice A l.length c]] w fun e w' => e = .returned (.bool true) ∧ Below w.heap.size w w' := by
  obtain ⟨Y, hY⟩ : ∃ Y, w.alloc (.cells #[.slice aA acs.length ac, .slice cA caps.length cc, .slice A l.length c] 35) = Y := ⟨_, rfl⟩
  have bW : Below w.heap.size w Y := by rw [← hY]; exact (Below.refl _ w).al _
  have BP : Blk Y w.heap.size #[.slice aA acs.length ac, .slice cA caps.length cc, .slice A l.length c] 35 := by rw [← hY]; exact Blk.new w _ _
  have CF := Lib.hid (few_any ac cc c (h.st bW))
  have HM := Lib.hid hm
  have H := Lib.hid h
  have HLC := Lib.hid hlc
  clear h hm hlc
  have z0 := BP.cell 0 (v := .slice aA acs.length ac) rfl; have z1 := BP.cell 1 (v := .slice cA caps.length cc) rfl; have z2 := BP.cell 2 (v := .slice A l.length c) rfl
  go_enter Tryd.func5, Tryd.ntmps5
  go_wp2_with fail
  clear hY
  refine CF.out.mono ?_
  rintro e w2 ⟨⟨bb, rfl, hbb⟩, hbn⟩
  have bW := bW.st hbn
  have BP := BP.below hbn BP.lt
  clear hbn CF z0 z1 z2
  cases bb
  · go_wp2_with fail; refine (awake_any (HM.out.st bW HM.out.1)).mono ?_; rintro e wl ⟨rfl, hbl⟩; have bL := bW.st hbl; go_wp2_with fail; go_ret; exact ⟨rfl, bL⟩
  · have HF := Lib.hid (hbb rfl)
    clear hbb
    go_wp2_with fail
    have HBP := Lib.hid BP; have HBW := Lib.hid bW; refine wp_region_held_drew (S := (fun w' : World => Blk w' w.heap.size #[.slice aA acs.length ac, .slice cA caps.length cc, .slice A l.length c] 35 ∧ w'.cell? ⟨w.heap.size, 2, none⟩ = some (.slice A l.length c))) (by kernel_rfl) ?_ (fun hHeld => ?_); (focus exact ⟨HBP.out, HBP.out.cell 2 rfl⟩); have hSS : (fun w' : World => Blk w' w.heap.size #[.slice aA acs.length ac, .slice cA caps.length cc, .slice A l.length c] 35 ∧ w'.cell? ⟨w.heap.size, 2, none⟩ = some (.slice A l.length c)) (w2).drew := ⟨HBP.out.drew, HBP.out.drew.cell 2 rfl⟩; have HBP := Lib.hid HBP.out.drew; have HBW : Hid (Below w.heap.size w (w2).drew) := Lib.hid (below_drewN HBW.out 1)
    clear BP bW
    generalize w2.drew = W0 at hSS hHeld HBP HBW ⊢
    change wpAnyH _ _ _ _ _ 10 _ _ _
    refine wpAnyH_take (i := 0) (v := .agg #[.slice aA acs.length ac, .slice cA caps.length cc, .slice A l.length c]) (by simp only [List.getElem?_toArray, List.getElem?_cons_zero, List.getElem?_cons_succ]; rfl) (by kernel_rfl) (by kernel_rfl) (by kernel_rfl) (by intro _ _ _ h; exact h) (yieldsIf_boxLoad (by rfl) rfl rfl (fun _ hw => hw.1) ⟨_, Tryd.underlying35, by kernel_rfl⟩) (by assumption) ?_; (try simp only [Act.put, List.setIfInBounds_toArray, List.set_cons_zero, List.set_cons_succ, List.getElem_toArray, List.getElem_cons_zero, List.getElem_cons_succ])
    refine wpAnyH_take (i := 2) (v := ?_) (by simp only [List.getElem?_toArray, List.getElem?_cons_zero, List.getElem?_cons_succ]; rfl) (by kernel_rfl) (by kernel_rfl) (by kernel_rfl) (by intro _ _ _ h; exact h) (Or.inl ⟨by rfl, ?_⟩) (by assumption) ?_; rotate_left; (focus (intro w1 hSw; (try dsimp only at hSw); go_simp; (try with_reducible rfl))); (try simp only [Act.put, List.setIfInBounds_toArray, List.set_cons_zero, List.set_cons_succ, List.getElem_toArray, List.getElem_cons_zero, List.getElem_cons_succ])
    refine wpAnyH_take (i := 3) (v := ?_) (by simp only [List.getElem?_toArray, List.getElem?_cons_zero, List.getElem?_cons_succ]; rfl) (by kernel_rfl) (by kernel_rfl) (by kernel_rfl) (by intro _ _ _ h; exact h) (Or.inl ⟨by rfl, ?_⟩) (by assumption) ?_; rotate_left; (focus (intro w1 hSw; (try dsimp only at hSw); go_simp; (try with_reducible rfl))); (try simp only [Act.put, List.setIfInBounds_toArray, List.set_cons_zero, List.set_cons_succ, List.getElem_toArray, List.getElem_cons_zero, List.getElem_cons_succ])
    refine wpAnyH_ready (rs := [1]) (by kernel_rfl) (by simp) ?_; refine AllReadyH.cons (by simp only [List.getElem?_toArray, List.getElem?_cons_zero, List.getElem?_cons_succ]; rfl) (fun K hK => ?_) AllReadyH.nil
    rw [if_pos (by rfl)]; go_wp2_with fail
    refine (conf_any (l := l) (A := A) ac cc c _).mono ?_
    rintro e W1 ⟨rfl, hbn⟩
    have HBP := Lib.hid (HBP.out.below hbn HBP.out.lt); have HBW := Lib.hid (HBW.out.st hbn)
    clear hbn
    go_wp2_with fail; refine hK.out _ _ ?_ (fun hHeld => ?_); (focus exact ⟨HBP.out, HBP.out.cell 2 rfl⟩); clear hK K; (try simp only [Act.put, List.setIfInBounds_toArray, List.set_cons_zero, List.set_cons_succ, List.getElem_toArray, List.getElem_cons_zero, List.getElem_cons_succ])
    refine wpAnyH_ready (rs := [4]) (by kernel_rfl) (by simp) ?_; refine AllReadyH.cons (by simp only [List.getElem?_toArray, List.getElem?_cons_zero, List.getElem?_cons_succ]; rfl) (fun K hK => ?_) AllReadyH.nil
    rw [if_pos (by rfl)]; go_wp2_with fail
    refine (capped_any ac cc c ((H.out.ok HF.out HM.out).st HBW.out) (fun x hx => (by have := HF.out.2.2.2.2 x hx; omega))).mono ?_
    rintro e W2 ⟨A2, c2, r2, rfl, h2, g2, o2, m2, hbn⟩
    have HBP := Lib.hid (HBP.out.below hbn HBP.out.lt); have HBW := Lib.hid (HBW.out.st hbn)
    have H2 := Lib.hid (And.intro h2 g2)
    have O2 := Lib.hid o2
    have M2 := Lib.hid m2
    clear hbn h2 g2 o2 m2
    go_wp2_with fail; refine hK.out _ _ ?_ (fun hHeld => ?_); (focus exact ⟨HBP.out, HBP.out.cell 2 rfl⟩); clear hK K; (try simp only [Act.put, List.setIfInBounds_toArray, List.set_cons_zero, List.set_cons_succ, List.getElem_toArray, List.getElem_cons_zero, List.getElem_cons_succ])
    refine wpAnyH_take (i := 5) (v := ?_) (by simp only [List.getElem?_toArray, List.getElem?_cons_zero, List.getElem?_cons_succ]; rfl) (by kernel_rfl) (by kernel_rfl) (by kernel_rfl) (by intro _ _ _ h; exact h) (Or.inl ⟨by rfl, ?_⟩) (by assumption) ?_; rotate_left; (focus (intro w1 hSw; (try dsimp only at hSw); go_simp; (try with_reducible rfl))); (try simp only [Act.put, List.setIfInBounds_toArray, List.set_cons_zero, List.set_cons_succ, List.getElem_toArray, List.getElem_cons_zero, List.getElem_cons_succ])
    refine wpAnyH_take (i := 6) (v := ?_) (by simp only [List.getElem?_toArray, List.getElem?_cons_zero, List.getElem?_cons_succ]; rfl) (by kernel_rfl) (by kernel_rfl) (by kernel_rfl) (by intro _ _ _ h; exact h) (Or.inl ⟨by rfl, ?_⟩) (by assumption) ?_; rotate_left; (focus (intro w1 hSw; (try dsimp only at hSw); go_simp; (try with_reducible rfl))); (try simp only [Act.put, List.setIfInBounds_toArray, List.set_cons_zero, List.set_cons_succ, List.getElem_toArray, List.getElem_cons_zero, List.getElem_cons_succ])
    refine wpAnyH_take (i := 7) (v := ?_) (by simp only [List.getElem?_toArray, List.getElem?_cons_zero, List.getElem?_cons_succ]; rfl) (by kernel_rfl) (by kernel_rfl) (by kernel_rfl) (by intro _ _ _ h; exact h) (Or.inl ⟨by rfl, ?_⟩) (by assumption) ?_; rotate_left; (focus (intro w1 hSw; (try dsimp only at hSw); go_simp; (try with_reducible rfl))); (try simp only [Act.put, List.setIfInBounds_toArray, List.set_cons_zero, List.set_cons_succ, List.getElem_toArray, List.getElem_cons_zero, List.getElem_cons_succ])
    refine wpAnyH_take (i := 8) (v := ?_) (by simp only [List.getElem?_toArray, List.getElem?_cons_zero, List.getElem?_cons_succ]; rfl) (by kernel_rfl) (by kernel_rfl) (by kernel_rfl) (by intro _ _ _ h; exact h) (Or.inl ⟨by rfl, ?_⟩) (by assumption) ?_; rotate_left; (focus (intro w1 hSw; (try dsimp only at hSw); go_simp; (try with_reducible rfl))); (try simp only [Act.put, List.setIfInBounds_toArray, List.set_cons_zero, List.set_cons_succ, List.getElem_toArray, List.getElem_cons_zero, List.getElem_cons_succ])
    refine wpAnyH_take (i := 9) (v := ?_) (by simp only [List.getElem?_toArray, List.getElem?_cons_zero, List.getElem?_cons_succ]; rfl) (by kernel_rfl) (by kernel_rfl) (by kernel_rfl) (by intro _ _ _ h; exact h) (Or.inl ⟨by rfl, ?_⟩) (by assumption) ?_; rotate_left; (focus (intro w1 hSw; (try dsimp only at hSw); go_simp; (try with_reducible rfl))); (try simp only [Act.put, List.setIfInBounds_toArray, List.set_cons_zero, List.set_cons_succ, List.getElem_toArray, List.getElem_cons_zero, List.getElem_cons_succ])
    refine wpAnyH_done (by kernel_rfl) ?_ _
    have BP := HBP.out
    have bW := HBW.out
    have z0 := BP.cell 0 (v := .slice aA acs.length ac) rfl; have z1 := BP.cell 1 (v := .slice cA caps.length cc) rfl; have z2 := BP.cell 2 (v := .slice A l.length c) rfl
    clear HBP HBW hSS hHeld
    go_wp2_with fail
    have HBP := Lib.hid BP; have HBW := Lib.hid bW; refine wp_region_held_drew (S := (fun w' : World => Blk w' w.heap.size #[.slice aA acs.length ac, .slice cA caps.length cc, .slice A l.length c] 35 ∧ w'.cell? ⟨w.heap.size, 2, none⟩ = some (.slice A l.length c))) (by kernel_rfl) ?_ (fun hHeld => ?_); (focus exact ⟨HBP.out, HBP.out.cell 2 rfl⟩); have hSS : (fun w' : World => Blk w' w.heap.size #[.slice aA acs.length ac, .slice cA caps.length cc, .slice A l.length c] 35 ∧ w'.cell? ⟨w.heap.size, 2, none⟩ = some (.slice A l.length c)) (W2).drew := ⟨HBP.out.drew, HBP.out.drew.cell 2 rfl⟩; have HBP := Lib.hid HBP.out.drew; have HBW : Hid (Below w.heap.size w (W2).drew) := Lib.hid (below_drewN HBW.out 1)
    clear BP bW z0 z1 z2
    have O2 := Lib.hid (Rd.drw (O2.out.rd encCg_ok))
    have M2 := Lib.hid (CgRs.drew M2.out)
    generalize W2.drew = W3 at hSS hHeld HBP HBW O2 M2 ⊢
    change wpAnyH _ _ _ _ _ 10 _ _ _
    refine wpAnyH_take (i := 0) (v := .agg #[.slice aA acs.length ac, .slice cA caps.length cc, .slice A l.length c]) (by simp only [List.getElem?_toArray, List.getElem?_cons_zero, List.getElem?_cons_succ]; rfl) (by kernel_rfl) (by kernel_rfl) (by kernel_rfl) (by intro _ _ _ h; exact h) (yieldsIf_boxLoad (by rfl) rfl rfl (fun _ hw => hw.1) ⟨_, Tryd.underlying35, by kernel_rfl⟩) (by assumption) ?_; (try simp only [Act.put, List.setIfInBounds_toArray, List.set_cons_zero, List.set_cons_succ, List.getElem_toArray, List.getElem_cons_zero, List.getElem_cons_succ])
    refine wpAnyH_take (i := 2) (v := ?_) (by simp only [List.getElem?_toArray, List.getElem?_cons_zero, List.getElem?_cons_succ]; rfl) (by kernel_rfl) (by kernel_rfl) (by kernel_rfl) (by intro _ _ _ h; exact h) (Or.inl ⟨by rfl, ?_⟩) (by assumption) ?_; rotate_left; (focus (intro w1 hSw; (try dsimp only at hSw); go_simp; (try with_reducible rfl))); (try simp only [Act.put, List.setIfInBounds_toArray, List.set_cons_zero, List.set_cons_succ, List.getElem_toArray, List.getElem_cons_zero, List.getElem_cons_succ])
    refine wpAnyH_take (i := 3) (v := ?_) (by simp only [List.getElem?_toArray, List.getElem?_cons_zero, List.getElem?_cons_succ]; rfl) (by kernel_rfl) (by kernel_rfl) (by kernel_rfl) (by intro _ _ _ h; exact h) (Or.inl ⟨by rfl, ?_⟩) (by assumption) ?_; rotate_left; (focus (intro w1 hSw; (try dsimp only at hSw); go_simp; (try with_reducible rfl))); (try simp only [Act.put, List.setIfInBounds_toArray, List.set_cons_zero, List.set_cons_succ, List.getElem_toArray, List.getElem_cons_zero, List.getElem_cons_succ])
    refine wpAnyH_ready (rs := [1]) (by kernel_rfl) (by simp) ?_; refine AllReadyH.cons (by simp only [List.getElem?_toArray, List.getElem?_cons_zero, List.getElem?_cons_succ]; rfl) (fun K hK => ?_) AllReadyH.nil
    rw [if_pos (by rfl)]; go_wp2_with fail
    refine (conf_any (l := l) (A := A) ac cc c _).mono ?_
    rintro e W4 ⟨rfl, hbn⟩
    have HBP := Lib.hid (HBP.out.below hbn HBP.out.lt); have HBW := Lib.hid (HBW.out.st hbn)
    have O2 := Lib.hid (O2.out.st hbn)
    have M2 := Lib.hid (M2.out.st hbn)
    clear hbn
    go_wp2_with fail; refine hK.out _ _ ?_ (fun hHeld => ?_); (focus exact ⟨HBP.out, HBP.out.cell 2 rfl⟩); clear hK K; (try simp only [Act.put, List.setIfInBounds_toArray, List.set_cons_zero, List.set_cons_succ, List.getElem_toArray, List.getElem_cons_zero, List.getElem_cons_succ])
    refine wpAnyH_ready (rs := [4]) (by kernel_rfl) (by simp) ?_; refine AllReadyH.cons (by simp only [List.getElem?_toArray, List.getElem?_cons_zero, List.getElem?_cons_succ]; rfl) (fun K hK => ?_) AllReadyH.nil
    rw [if_pos (by rfl)]; go_wp2_with fail
    refine (rcapped_any ac cc c HLC.out ((H.out.ok HF.out HM.out).st HBW.out) (fun x hx => (by have := HF.out.2.2.2.2 x hx; omega))).mono ?_
    rintro e W5 ⟨A5, c5, r5, rfl, h5, g5, o5, m5, hbn⟩
    have HBP := Lib.hid (HBP.out.below hbn HBP.out.lt); have HBW := Lib.hid (HBW.out.st hbn)
    have H5 := Lib.hid (And.intro h5 g5)
    have O5 := Lib.hid (o5.rd encCg_ok)
    have M5 := Lib.hid m5
    have O2 := Lib.hid (O2.out.st hbn)
    have M2 := Lib.hid (M2.out.st hbn)
    clear hbn h5 g5 o5 m5
    go_wp2_with fail; refine hK.out _ _ ?_ (fun hHeld => ?_); (focus exact ⟨HBP.out, HBP.out.cell 2 rfl⟩); clear hK K; (try simp only [Act.put, List.setIfInBounds_toArray, List.set_cons_zero, List.set_cons_succ, List.getElem_toArray, List.getElem_cons_zero, List.getElem_cons_succ])
    refine wpAnyH_take (i := 5) (v := ?_) (by simp only [List.getElem?_toArray, List.getElem?_cons_zero, List.getElem?_cons_succ]; rfl) (by kernel_rfl) (by kernel_rfl) (by kernel_rfl) (by intro _ _ _ h; exact h) (Or.inl ⟨by rfl, ?_⟩) (by assumption) ?_; rotate_left; (focus (intro w1 hSw; (try dsimp only at hSw); go_simp; (try with_reducible rfl))); (try simp only [Act.put, List.setIfInBounds_toArray, List.set_cons_zero, List.set_cons_succ, List.getElem_toArray, List.getElem_cons_zero, List.getElem_cons_succ])
    refine wpAnyH_take (i := 6) (v := ?_) (by simp only [List.getElem?_toArray, List.getElem?_cons_zero, List.getElem?_cons_succ]; rfl) (by kernel_rfl) (by kernel_rfl) (by kernel_rfl) (by intro _ _ _ h; exact h) (Or.inl ⟨by rfl, ?_⟩) (by assumption) ?_; rotate_left; (focus (intro w1 hSw; (try dsimp only at hSw); go_simp; (try with_reducible rfl))); (try simp only [Act.put, List.setIfInBounds_toArray, List.set_cons_zero, List.set_cons_succ, List.getElem_toArray, List.getElem_cons_zero, List.getElem_cons_succ])
    refine wpAnyH_take (i := 7) (v := ?_) (by simp only [List.getElem?_toArray, List.getElem?_cons_zero, List.getElem?_cons_succ]; rfl) (by kernel_rfl) (by kernel_rfl) (by kernel_rfl) (by intro _ _ _ h; exact h) (Or.inl ⟨by rfl, ?_⟩) (by assumption) ?_; rotate_left; (focus (intro w1 hSw; (try dsimp only at hSw); go_simp; (try with_reducible rfl))); (try simp only [Act.put, List.setIfInBounds_toArray, List.set_cons_zero, List.set_cons_succ, List.getElem_toArray, List.getElem_cons_zero, List.getElem_cons_succ])
    refine wpAnyH_take (i := 8) (v := ?_) (by simp only [List.getElem?_toArray, List.getElem?_cons_zero, List.getElem?_cons_succ]; rfl) (by kernel_rfl) (by kernel_rfl) (by kernel_rfl) (by intro _ _ _ h; exact h) (Or.inl ⟨by rfl, ?_⟩) (by assumption) ?_; rotate_left; (focus (intro w1 hSw; (try dsimp only at hSw); go_simp; (try with_reducible rfl))); (try simp only [Act.put, List.setIfInBounds_toArray, List.set_cons_zero, List.set_cons_succ, List.getElem_toArray, List.getElem_cons_zero, List.getElem_cons_succ])
    refine wpAnyH_take (i := 9) (v := ?_) (by simp only [List.getElem?_toArray, List.getElem?_cons_zero, List.getElem?_cons_succ]; rfl) (by kernel_rfl) (by kernel_rfl) (by kernel_rfl) (by intro _ _ _ h; exact h) (Or.inl ⟨by rfl, ?_⟩) (by assumption) ?_; rotate_left; (focus (intro w1 hSw; (try dsimp only at hSw); go_simp; (try with_reducible rfl))); (try simp only [Act.put, List.setIfInBounds_toArray, List.set_cons_zero, List.set_cons_succ, List.getElem_toArray, List.getElem_cons_zero, List.getElem_cons_succ])
    refine wpAnyH_done (by kernel_rfl) ?_ _
    have bW := HBW.out
    have he : cvs r2 = cvs r5 := by
      by_cases q : applyE caps (cvs l) = 0
      · rw [H2.out.1 q, H5.out.1 q]
      · rw [H2.out.2 q, H5.out.2 q]
    have hln : r2.length ≤ 1000000 := by
      by_cases q : applyE caps (cvs l) = 0
      · rw [← cvs_len, H2.out.1 q, cappedL_len, cvs_len]
        have := HF.out.2.2.2.1
        omega
      · rw [H2.out.2 q]; simp
    have CS := Lib.hid (sames_true c2 c5 O2.out O5.out M2.out M5.out he hln)
    clear HBP HBW hSS hHeld O2 O5 M2 M5 H2 H5 he hln
    generalize applyE caps (cvs l) = E
    go_wp2_with fail
    refine CS.out.mono ?_
    rintro e W6 ⟨rfl, hbn⟩
    have bW := bW.st hbn
    go_wp2_with fail; refine (awake_any (HM.out.st bW HM.out.1)).mono ?_; rintro e wl ⟨rfl, hbl⟩; have bL := bW.st hbl; go_wp2_with fail; go_ret; exact ⟨rfl, bL⟩
end Go.Proofs.YtlnnbkpcnhlfcaaDoor
