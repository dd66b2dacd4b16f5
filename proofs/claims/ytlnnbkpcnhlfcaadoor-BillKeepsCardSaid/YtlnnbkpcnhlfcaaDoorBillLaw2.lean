/- The law BillAgain, walked. -/
import Derived.Test.YtlnnbkpcnhlfcaaDoorBillLaw1
import Derived.Test.YtlnnbkpcnhlfcaaDoorCapHist
set_option linter.unusedSimpArgs false
set_option linter.unusedSimpArgs false
namespace Go.Proofs.YtlnnbkpcnhlfcaaDoor
open Go.RowKit Go.Lib

theorem apply_good {caps : List Cp} {cs : List CV} (h : applyE caps cs = 0) : (∀ c ∈ caps, 0 ≤ c.ct) ∧ (∀ x ∈ cs, chE x = 0) ∧ ∀ x ∈ cs, 0 ≤ x.ct ∧ x.ct ≤ 1125899906842624 := by
  obtain ⟨-, -, h1, h2⟩ := applyE_ok h
  refine ⟨fun c hc => ?_, h2, fun x hx => ?_⟩
  · have := h1 c hc
    unfold capE amB at this
    split at this
    · exact absurd this (by decide)
    · split at this
      · exact absurd this (by decide)
      · split at this
        · exact absurd this (by decide)
        · rename_i q; simp only [decide_eq_false_iff_not, Classical.not_not] at q; exact q.1
  · have := h2 x hx
    unfold chE amB at this
    split at this
    · exact absurd this (by decide)
    · rename_i q; simp only [decide_eq_false_iff_not, Classical.not_not] at q; exact q
theorem capped_few {ac : List Av} {caps : List Cp} {l r : List Cg} (h : ∀ x ∈ l, x.c.lns.length ≤ 8) (hr : cvs r = cappedL ac caps (cvs l)) : ∀ x ∈ r, x.c.lns.length ≤ 900 := by
  intro x hx
  have hm : x.c ∈ cappedL ac caps (cvs l) := by rw [← hr]; exact List.mem_map_of_mem hx
  unfold cappedL at hm
  obtain ⟨i, hi, he⟩ := List.mem_map.1 hm
  have hi := List.mem_range.1 hi
  rw [cvs_len] at hi
  have hb : (chAt (cvs l) i).lns.length ≤ 8 := by
    rw [chAt_of (cvs_at (List.getElem?_eq_getElem hi))]
    exact h _ (List.getElem_mem hi)
  rw [← he]
  unfold capOne lessC
  split
  · split
    · simp; omega
    · omega
  · omega
theorem BLO.put {w : World} {aA : Option Addr} {ac : Nat} {acs : List Ac} {cA : Option Addr} {caps : List Cp} {A A2 : Option Addr} {l r : List Cg} (h : BLO w aA ac acs cA caps A l) (h1 : Rd encCg 7 w w.heap.size A2 r) (h2 : CgRs w r) (h3 : r.length ≤ 1000) : BLO w aA ac acs cA caps A2 r :=
  ⟨h.al, h.sm, h.cp, h1, h2, h.mon, h.cpl, h3, h.nms⟩
theorem cappedR_len {ac : List Av} {caps : List Cp} {l r : List Cg} (h : (applyE caps (cvs l) = 0 → cvs r = cappedL ac caps (cvs l)) ∧ (applyE caps (cvs l) ≠ 0 → r = [])) (hl : l.length ≤ 30) : r.length ≤ 30 := by
  by_cases q : applyE caps (cvs l) = 0
  · rw [← cvs_len, h.1 q, cappedL_len, cvs_len]; exact hl
  · rw [h.2 q]; simp
theorem cappedR_few {ac : List Av} {caps : List Cp} {l r : List Cg} (h : (applyE caps (cvs l) = 0 → cvs r = cappedL ac caps (cvs l)) ∧ (applyE caps (cvs l) ≠ 0 → r = [])) (hl : ∀ x ∈ l, x.c.lns.length ≤ 8) : ∀ x ∈ r, x.c.lns.length ≤ 900 := by
  by_cases q : applyE caps (cvs l) = 0
  · exact capped_few hl (h.1 q)
  · rw [h.2 q]; simp

set_option maxRecDepth 100000 in
set_option maxHeartbeats 4000000 in
theorem billAgain_walk {aA cA A : Option Addr} {acs : List Ac} {caps : List Cp} {l : List Cg} (ac cc c : Nat) {w : World} (h : BRaw w aA ac acs cA caps A l) (hm : Mon w) :
    Calls Tryd.prog 9 #[.agg #[.slice aA acs.length ac, .slice cA caps.length cc, .slice A l.length c]] w fun e w' => e = .returned (.bool true) ∧ Below w.heap.size w w' := by
  obtain ⟨Y, hY⟩ : ∃ Y, w.alloc (.cells #[.slice aA acs.length ac, .slice cA caps.length cc, .slice A l.length c] 35) = Y := ⟨_, rfl⟩
  have bW : Below w.heap.size w Y := by rw [← hY]; exact (Below.refl _ w).al _
  have BP : Blk Y w.heap.size #[.slice aA acs.length ac, .slice cA caps.length cc, .slice A l.length c] 35 := by rw [← hY]; exact Blk.new w _ _
  have CF := Lib.hid (few_any ac cc c (h.st bW))
  have HM := Lib.hid hm
  have H := Lib.hid h
  clear h hm
  have z0 := BP.cell 0 (v := .slice aA acs.length ac) rfl; have z1 := BP.cell 1 (v := .slice cA caps.length cc) rfl; have z2 := BP.cell 2 (v := .slice A l.length c) rfl
  go_enter Tryd.func9, Tryd.ntmps9
  go_wp2_with fail
  clear hY
  refine CF.out.mono ?_
  rintro e w2 ⟨⟨bb, rfl, hbb⟩, hbn⟩
  have bW := bW.st hbn
  have BP := BP.below hbn BP.lt
  clear hbn CF z0 z1 z2
  cases bb
  · go_wp2_with fail; refine (awake_any (HM.out.st bW HM.out.1)).mono ?_; rintro e wl ⟨rfl, hbl⟩; have bL := bW.st hbl; go_wp2_with fail; go_ret; exact ⟨rfl, bL⟩
  · have HF := Lib.hid (hbb rfl)
    clear hbb
    go_wp2_with fail
    have HBP := Lib.hid BP; have HBW := Lib.hid bW; refine wp_region_held_drew (S := (fun w' : World => Blk w' w.heap.size #[.slice aA acs.length ac, .slice cA caps.length cc, .slice A l.length c] 35 ∧ w'.cell? ⟨w.heap.size, 2, none⟩ = some (.slice A l.length c))) (by kernel_rfl) ?_ (fun hHeld => ?_); (focus exact ⟨HBP.out, HBP.out.cell 2 rfl⟩); have hSS : (fun w' : World => Blk w' w.heap.size #[.slice aA acs.length ac, .slice cA caps.length cc, .slice A l.length c] 35 ∧ w'.cell? ⟨w.heap.size, 2, none⟩ = some (.slice A l.length c)) (w2).drew := ⟨HBP.out.drew, HBP.out.drew.cell 2 rfl⟩; have HBP := Lib.hid HBP.out.drew; have HBW : Hid (Below w.heap.size w (w2).drew) := Lib.hid (below_drewN HBW.out 1)
    clear BP bW
    generalize w2.drew = W0 at hSS hHeld HBP HBW ⊢
    change wpAnyH _ _ _ _ _ 10 _ _ _
    refine wpAnyH_take (i := 0) (v := .agg #[.slice aA acs.length ac, .slice cA caps.length cc, .slice A l.length c]) (by simp only [List.getElem?_toArray, List.getElem?_cons_zero, List.getElem?_cons_succ]; rfl) (by kernel_rfl) (by kernel_rfl) (by kernel_rfl) (by intro _ _ _ h; exact h) (yieldsIf_boxLoad (by rfl) rfl rfl (fun _ hw => hw.1) ⟨_, Tryd.underlying35, by kernel_rfl⟩) (by assumption) ?_; (try simp only [Act.put, List.setIfInBounds_toArray, List.set_cons_zero, List.set_cons_succ, List.getElem_toArray, List.getElem_cons_zero, List.getElem_cons_succ])
    refine wpAnyH_take (i := 2) (v := ?_) (by simp only [List.getElem?_toArray, List.getElem?_cons_zero, List.getElem?_cons_succ]; rfl) (by kernel_rfl) (by kernel_rfl) (by kernel_rfl) (by intro _ _ _ h; exact h) (Or.inl ⟨by rfl, ?_⟩) (by assumption) ?_; rotate_left; (focus (intro w1 hSw; (try dsimp only at hSw); go_simp; (try with_reducible rfl))); (try simp only [Act.put, List.setIfInBounds_toArray, List.set_cons_zero, List.set_cons_succ, List.getElem_toArray, List.getElem_cons_zero, List.getElem_cons_succ])
    refine wpAnyH_take (i := 3) (v := ?_) (by simp only [List.getElem?_toArray, List.getElem?_cons_zero, List.getElem?_cons_succ]; rfl) (by kernel_rfl) (by kernel_rfl) (by kernel_rfl) (by intro _ _ _ h; exact h) (Or.inl ⟨by rfl, ?_⟩) (by assumption) ?_; rotate_left; (focus (intro w1 hSw; (try dsimp only at hSw); go_simp; (try with_reducible rfl))); (try simp only [Act.put, List.setIfInBounds_toArray, List.set_cons_zero, List.set_cons_succ, List.getElem_toArray, List.getElem_cons_zero, List.getElem_cons_succ])
    refine wpAnyH_ready (rs := [1]) (by kernel_rfl) (by simp) ?_; refine AllReadyH.cons (by simp only [List.getElem?_toArray, List.getElem?_cons_zero, List.getElem?_cons_succ]; rfl) (fun K hK => ?_) AllReadyH.nil
    rw [if_pos (by rfl)]; go_wp2_with fail
    refine (conf_any (l := l) (A := A) ac cc c _).mono ?_
    rintro e W1 ⟨rfl, hbn⟩
    have HBP := Lib.hid (HBP.out.below hbn HBP.out.lt); have HBW := Lib.hid (HBW.out.st hbn)
    clear hbn
    go_wp2_with fail; refine hK.out _ _ ?_ (fun hHeld => ?_); (focus exact ⟨HBP.out, HBP.out.cell 2 rfl⟩); clear hK K; (try simp only [Act.put, List.setIfInBounds_toArray, List.set_cons_zero, List.set_cons_succ, List.getElem_toArray, List.getElem_cons_zero, List.getElem_cons_succ])
    refine wpAnyH_ready (rs := [4]) (by kernel_rfl) (by simp) ?_; refine AllReadyH.cons (by simp only [List.getElem?_toArray, List.getElem?_cons_zero, List.getElem?_cons_succ]; rfl) (fun K hK => ?_) AllReadyH.nil
    rw [if_pos (by rfl)]; go_wp2_with fail
    refine (capped_any ac cc c ((H.out.ok HF.out HM.out).st HBW.out) (fun x hx => (by have := HF.out.2.2.2.2 x hx; omega))).mono ?_
    rintro e W2 ⟨A2, c2, r2, rfl, h2, g2, o2, m2, hbn⟩
    have HBP := Lib.hid (HBP.out.below hbn HBP.out.lt); have HBW := Lib.hid (HBW.out.st hbn)
    have H2 := Lib.hid (And.intro h2 g2)
    have O2 := Lib.hid o2
    have M2 := Lib.hid m2
    clear hbn h2 g2 o2 m2
    go_wp2_with fail; refine hK.out _ _ ?_ (fun hHeld => ?_); (focus exact ⟨HBP.out, HBP.out.cell 2 rfl⟩); clear hK K; (try simp only [Act.put, List.setIfInBounds_toArray, List.set_cons_zero, List.set_cons_succ, List.getElem_toArray, List.getElem_cons_zero, List.getElem_cons_succ])
    refine wpAnyH_take (i := 5) (v := ?_) (by simp only [List.getElem?_toArray, List.getElem?_cons_zero, List.getElem?_cons_succ]; rfl) (by kernel_rfl) (by kernel_rfl) (by kernel_rfl) (by intro _ _ _ h; exact h) (Or.inl ⟨by rfl, ?_⟩) (by assumption) ?_; rotate_left; (focus (intro w1 hSw; (try dsimp only at hSw); go_simp; (try with_reducible rfl))); (try simp only [Act.put, List.setIfInBounds_toArray, List.set_cons_zero, List.set_cons_succ, List.getElem_toArray, List.getElem_cons_zero, List.getElem_cons_succ])
    refine wpAnyH_take (i := 6) (v := ?_) (by simp only [List.getElem?_toArray, List.getElem?_cons_zero, List.getElem?_cons_succ]; rfl) (by kernel_rfl) (by kernel_rfl) (by kernel_rfl) (by intro _ _ _ h; exact h) (Or.inl ⟨by rfl, ?_⟩) (by assumption) ?_; rotate_left; (focus (intro w1 hSw; (try dsimp only at hSw); go_simp; (try with_reducible rfl))); (try simp only [Act.put, List.setIfInBounds_toArray, List.set_cons_zero, List.set_cons_succ, List.getElem_toArray, List.getElem_cons_zero, List.getElem_cons_succ])
    refine wpAnyH_take (i := 7) (v := ?_) (by simp only [List.getElem?_toArray, List.getElem?_cons_zero, List.getElem?_cons_succ]; rfl) (by kernel_rfl) (by kernel_rfl) (by kernel_rfl) (by intro _ _ _ h; exact h) (Or.inl ⟨by rfl, ?_⟩) (by assumption) ?_; rotate_left; (focus (intro w1 hSw; (try dsimp only at hSw); go_simp; (try with_reducible rfl))); (try simp only [Act.put, List.setIfInBounds_toArray, List.set_cons_zero, List.set_cons_succ, List.getElem_toArray, List.getElem_cons_zero, List.getElem_cons_succ])
    refine wpAnyH_take (i := 8) (v := ?_) (by simp only [List.getElem?_toArray, List.getElem?_cons_zero, List.getElem?_cons_succ]; rfl) (by kernel_rfl) (by kernel_rfl) (by kernel_rfl) (by intro _ _ _ h; exact h) (Or.inl ⟨by rfl, ?_⟩) (by assumption) ?_; rotate_left; (focus (intro w1 hSw; (try dsimp only at hSw); go_simp; (try with_reducible rfl))); (try simp only [Act.put, List.setIfInBounds_toArray, List.set_cons_zero, List.set_cons_succ, List.getElem_toArray, List.getElem_cons_zero, List.getElem_cons_succ])
    refine wpAnyH_take (i := 9) (v := ?_) (by simp only [List.getElem?_toArray, List.getElem?_cons_zero, List.getElem?_cons_succ]; rfl) (by kernel_rfl) (by kernel_rfl) (by kernel_rfl) (by intro _ _ _ h; exact h) (Or.inl ⟨by rfl, ?_⟩) (by assumption) ?_; rotate_left; (focus (intro w1 hSw; (try dsimp only at hSw); go_simp; (try with_reducible rfl))); (try simp only [Act.put, List.setIfInBounds_toArray, List.set_cons_zero, List.set_cons_succ, List.getElem_toArray, List.getElem_cons_zero, List.getElem_cons_succ])
    refine wpAnyH_done (by kernel_rfl) ?_ _
    have BP := HBP.out
    have bW := HBW.out
    have z0 := BP.cell 0 (v := .slice aA acs.length ac) rfl; have z1 := BP.cell 1 (v := .slice cA caps.length cc) rfl; have z2 := BP.cell 2 (v := .slice A l.length c) rfl
    have hlen := cappedR_len H2.out HF.out.2.2.2.1
    have HB2 := Lib.hid (((H.out.ok HF.out HM.out).st bW).put (O2.out.rd encCg_ok) M2.out (by omega))
    have HFW := Lib.hid (cappedR_few H2.out HF.out.2.2.2.2)
    have O2 := Lib.hid (O2.out.rd encCg_ok)
    clear HBP HBW hSS hHeld
    by_cases q : applyE caps (cvs l) = 0
    · have hg := apply_good q
      have e2 := H2.out.1 q
      have q3 : applyE caps (cvs r2) = 0 := by rw [e2]; exact cappedL_ok q hg.1 hg.2.1 hg.2.2
      have hcc : cappedL (vals acs) caps (cvs r2) = cvs r2 := by rw [e2]; exact capped_twice hg.1 (fun x hx => (hg.2.2 x hx).1)
      have HCC := Lib.hid hcc
      have Q3 := Lib.hid q3
      rw [q]
      clear q hg e2 hcc q3 H2
      go_wp2_with fail
      refine (conf_any (l := l) (A := A) ac cc c _).mono ?_
      rintro e W3 ⟨rfl, hbn⟩
      have bW := bW.st hbn
      have O2 := Lib.hid (O2.out.st hbn)
      have M2 := Lib.hid (M2.out.st hbn)
      have HB2 := Lib.hid (HB2.out.st hbn)
      clear hbn z0 z1 z2
      go_wp2_with fail
      refine (capped_any ac cc c2 HB2.out HFW.out).mono ?_
      rintro e W4 ⟨A4, c4, r4, rfl, h4, -, o4, m4, hbn⟩
      have bW := bW.st hbn
      have CS := Lib.hid (sames_true c2 c4 (O2.out.st hbn) (o4.rd encCg_ok) (M2.out.st hbn) m4 ((h4 Q3.out).trans HCC.out).symm (by omega))
      rw [Q3.out]
      clear hbn h4 o4 m4 HCC Q3 O2 M2 HB2
      go_wp2_with fail
      refine CS.out.mono ?_
      rintro e W6 ⟨rfl, hbn⟩
      have bW := bW.st hbn
      go_wp2_with fail; refine (awake_any (HM.out.st bW HM.out.1)).mono ?_; rintro e wl ⟨rfl, hbl⟩; have bL := bW.st hbl; go_wp2_with fail; go_ret; exact ⟨rfl, bL⟩
    · generalize applyE caps (cvs l) = E at *
      have q1 : (E != 0) = true := by simpa using q
      have q2 : decide (E = 0) = false := by simpa using q
      clear H2
      go_wp2_with fail
      refine (conf_any (l := l) (A := A) ac cc c _).mono ?_
      rintro e W3 ⟨rfl, hbn⟩
      have bW := bW.st hbn
      have HB2 := Lib.hid (HB2.out.st hbn)
      clear hbn z0 z1 z2
      go_wp2_with fail
      refine (capped_any ac cc c2 HB2.out HFW.out).mono ?_
      rintro e W4 ⟨A4, c4, r4, rfl, -, -, -, -, hbn⟩
      have bW := bW.st hbn
      go_wp2_with fail; refine (awake_any (HM.out.st bW HM.out.1)).mono ?_; rintro e wl ⟨rfl, hbl⟩; have bL := bW.st hbl; go_wp2_with fail; go_ret; exact ⟨rfl, bL⟩
end Go.Proofs.YtlnnbkpcnhlfcaaDoor
