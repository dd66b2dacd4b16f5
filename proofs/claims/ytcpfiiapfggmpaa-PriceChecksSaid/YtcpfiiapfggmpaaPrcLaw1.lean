/- The law PriceChecks, walked. -/
import Derived.Test.YtcpfiiapfggmpaaPrcAwake
set_option linter.unusedSimpArgs false
set_option linter.unusedSimpArgs false
namespace Go.Proofs.Ytcpfiiapfggmpaa
open Go.RowKit Go.Lib

set_option maxRecDepth 100000 in
set_option maxHeartbeats 8000000 in
theorem priceChecks_walk (x : CV) {lA : Option Addr} (lc : Nat) {w : World} (h : Rd encLn 2 w w.heap.size lA x.lns) (hl : x.lns.length ≤ 9223372036854775807) :
    Calls Try.prog 3 #[CHV x lA lc] w fun e w' => e = .returned (.bool true) ∧ Below w.heap.size w w' := by
  obtain ⟨Y, hY⟩ : ∃ Y, w.alloc (.cells #[.string x.key, .string x.veh, .string x.sys, .int .i64 x.cls, .int .i64 x.tm, .slice lA x.lns.length lc, .int .i64 x.ct] 24) = Y := ⟨_, rfl⟩
  have bW : Below w.heap.size w Y := by rw [← hY]; exact (Below.refl _ w).al _
  have BP : Blk Y w.heap.size #[.string x.key, .string x.veh, .string x.sys, .int .i64 x.cls, .int .i64 x.tm, .slice lA x.lns.length lc, .int .i64 x.ct] 24 := by rw [← hY]; exact Blk.new w _ _
  have HR := Lib.hid h
  have C1 := Lib.hid (fun (X : World) (hX : Below w.heap.size w X) (q : x.lns.length ≤ 1000) => pchk_any x lc (HR.out.st hX) q)
  have C2 := Lib.hid (fun (X : World) (hX : Below w.heap.size w X) (q : x.lns.length ≤ 1000) => rchk_any x lc (HR.out.st hX) q)
  clear h
  generalize chkE x = E at *
  obtain ⟨key, veh, sys, cls, tm, lns, cn⟩ := x
  simp only [CHV] at *
  have p5 := BP.cell 5 (v := .slice lA lns.length lc) rfl
  by_cases hq : 100 < lns.length
  · have hq2 : (100 : Int) < (lns.length : Int) := by omega
    go_enter Try.func3, Try.ntmps3
    go_wp2_with fail
    refine (awake_any _).mono ?_
    rintro e w2 ⟨rfl, hbn⟩
    have bW := bW.st hbn
    go_wp2_with fail
    go_ret
    exact ⟨rfl, bW⟩
  · have hq2 : ¬ (100 : Int) < (lns.length : Int) := by omega
    have hq3 : lns.length ≤ 1000 := by omega
    go_enter Try.func3, Try.ntmps3
    go_wp2_with fail
    refine wp_region_held_drew (S := (fun w' : World => Blk w' w.heap.size #[.string key, .string veh, .string sys, .int .i64 cls, .int .i64 tm, .slice lA lns.length lc, .int .i64 cn] 24 ∧ w'.cell? ⟨w.heap.size, 5, none⟩ = some (.slice lA lns.length lc))) (by kernel_rfl) ?_ (fun hHeld => ?_)
    focus exact ⟨BP, p5⟩
    have hSS : (fun w' : World => Blk w' w.heap.size #[.string key, .string veh, .string sys, .int .i64 cls, .int .i64 tm, .slice lA lns.length lc, .int .i64 cn] 24 ∧ w'.cell? ⟨w.heap.size, 5, none⟩ = some (.slice lA lns.length lc)) Y.drew := ⟨BP.drew, p5⟩
    have HBP := Lib.hid BP.drew
    have HBW : Hid (Below w.heap.size w Y.drew) := Lib.hid (below_drewN bW 1)
    clear hY BP bW p5
    generalize Y.drew = W0 at hSS hHeld HBP HBW ⊢
    change wpAnyH _ _ _ _ _ 9 _ _ _
    refine wpAnyH_take (i := 0) (v := .agg #[.string key, .string veh, .string sys, .int .i64 cls, .int .i64 tm, .slice lA lns.length lc, .int .i64 cn]) (by simp only [List.getElem?_toArray, List.getElem?_cons_zero, List.getElem?_cons_succ]; rfl) (by kernel_rfl) (by kernel_rfl) (by kernel_rfl) (by intro _ _ _ h; exact h) (yieldsIf_boxLoad (by rfl) rfl rfl (fun _ hw => hw.1) ⟨_, Try.underlying24, by kernel_rfl⟩) (by assumption) ?_; (try simp only [Act.put, List.setIfInBounds_toArray, List.set_cons_zero, List.set_cons_succ, List.getElem_toArray, List.getElem_cons_zero, List.getElem_cons_succ])
    refine wpAnyH_take (i := 2) (v := .agg #[.string key, .string veh, .string sys, .int .i64 cls, .int .i64 tm, .slice lA lns.length lc, .int .i64 cn]) (by simp only [List.getElem?_toArray, List.getElem?_cons_zero, List.getElem?_cons_succ]; rfl) (by kernel_rfl) (by kernel_rfl) (by kernel_rfl) (by intro _ _ _ h; exact h) (yieldsIf_boxLoad (by rfl) rfl rfl (fun _ hw => hw.1) ⟨_, Try.underlying24, by kernel_rfl⟩) (by assumption) ?_; (try simp only [Act.put, List.setIfInBounds_toArray, List.set_cons_zero, List.set_cons_succ, List.getElem_toArray, List.getElem_cons_zero, List.getElem_cons_succ])
    refine wpAnyH_ready (rs := [1]) (by kernel_rfl) (by simp) ?_; refine AllReadyH.cons (by simp only [List.getElem?_toArray, List.getElem?_cons_zero, List.getElem?_cons_succ]; rfl) (fun K hK => ?_) AllReadyH.nil
    rw [if_pos (by rfl)]; go_wp2_with fail
    refine (C1.out _ HBW.out hq3).mono ?_
    rintro e W1 ⟨rfl, hbn⟩
    have HBP := Lib.hid (HBP.out.below hbn HBP.out.lt)
    have HBW := Lib.hid (HBW.out.st hbn)
    clear hbn
    go_wp2_with fail
    refine hK.out _ _ ?_ (fun hHeld => ?_)
    focus exact ⟨HBP.out, HBP.out.cell 5 rfl⟩
    clear hK K
    (try simp only [Act.put, List.setIfInBounds_toArray, List.set_cons_zero, List.set_cons_succ, List.getElem_toArray, List.getElem_cons_zero, List.getElem_cons_succ])
    refine wpAnyH_ready (rs := [3]) (by kernel_rfl) (by simp) ?_; refine AllReadyH.cons (by simp only [List.getElem?_toArray, List.getElem?_cons_zero, List.getElem?_cons_succ]; rfl) (fun K hK => ?_) AllReadyH.nil
    rw [if_pos (by rfl)]; go_wp2_with fail
    refine (C2.out _ HBW.out hq3).mono ?_
    rintro e W2 ⟨rfl, hbn⟩
    have HBP := Lib.hid (HBP.out.below hbn HBP.out.lt)
    have HBW := Lib.hid (HBW.out.st hbn)
    clear hbn
    go_wp2_with fail
    refine hK.out _ _ ?_ (fun hHeld => ?_)
    focus exact ⟨HBP.out, HBP.out.cell 5 rfl⟩
    clear hK K
    (try simp only [Act.put, List.setIfInBounds_toArray, List.set_cons_zero, List.set_cons_succ, List.getElem_toArray, List.getElem_cons_zero, List.getElem_cons_succ])
    refine wpAnyH_take (i := 4) (v := ?_) (by simp only [List.getElem?_toArray, List.getElem?_cons_zero, List.getElem?_cons_succ]; rfl) (by kernel_rfl) (by kernel_rfl) (by kernel_rfl) (by intro _ _ _ h; exact h) (Or.inl ⟨by rfl, ?_⟩) (by assumption) ?_; rotate_left; (focus (intro w1 hSw; (try dsimp only at hSw); go_simp; (try with_reducible rfl))); (try simp only [Act.put, List.setIfInBounds_toArray, List.set_cons_zero, List.set_cons_succ, List.getElem_toArray, List.getElem_cons_zero, List.getElem_cons_succ])
    refine wpAnyH_take (i := 5) (v := ?_) (by simp only [List.getElem?_toArray, List.getElem?_cons_zero, List.getElem?_cons_succ]; rfl) (by kernel_rfl) (by kernel_rfl) (by kernel_rfl) (by intro _ _ _ h; exact h) (Or.inl ⟨by rfl, ?_⟩) (by assumption) ?_; rotate_left; (focus (intro w1 hSw; (try dsimp only at hSw); go_simp; (try with_reducible rfl))); (try simp only [Act.put, List.setIfInBounds_toArray, List.set_cons_zero, List.set_cons_succ, List.getElem_toArray, List.getElem_cons_zero, List.getElem_cons_succ])
    refine wpAnyH_ready (rs := [6]) (by kernel_rfl) (by simp) ?_; refine AllReadyH.cons (by simp only [List.getElem?_toArray, List.getElem?_cons_zero, List.getElem?_cons_succ]; rfl) (fun K hK => ?_) AllReadyH.nil
    rw [if_pos (by rfl)]; go_wp2_with fail
    refine (awake_any _).mono ?_
    rintro e W3 ⟨rfl, hbn⟩
    have HBP := Lib.hid (HBP.out.below hbn HBP.out.lt)
    have HBW := Lib.hid (HBW.out.st hbn)
    clear hbn
    go_wp2_with fail
    refine hK.out _ _ ?_ (fun hHeld => ?_)
    focus exact ⟨HBP.out, HBP.out.cell 5 rfl⟩
    clear hK K
    (try simp only [Act.put, List.setIfInBounds_toArray, List.set_cons_zero, List.set_cons_succ, List.getElem_toArray, List.getElem_cons_zero, List.getElem_cons_succ])
    refine wpAnyH_take (i := 7) (v := ?_) (by simp only [List.getElem?_toArray, List.getElem?_cons_zero, List.getElem?_cons_succ]; rfl) (by kernel_rfl) (by kernel_rfl) (by kernel_rfl) (by intro _ _ _ h; exact h) (Or.inl ⟨by rfl, ?_⟩) (by assumption) ?_; rotate_left; (focus (intro w1 hSw; (try dsimp only at hSw); go_simp; (try with_reducible rfl))); (try simp only [Act.put, List.setIfInBounds_toArray, List.set_cons_zero, List.set_cons_succ, List.getElem_toArray, List.getElem_cons_zero, List.getElem_cons_succ])
    refine wpAnyH_take (i := 8) (v := ?_) (by simp only [List.getElem?_toArray, List.getElem?_cons_zero, List.getElem?_cons_succ]; rfl) (by kernel_rfl) (by kernel_rfl) (by kernel_rfl) (by intro _ _ _ h; exact h) (Or.inl ⟨by rfl, ?_⟩) (by assumption) ?_; rotate_left; (focus (intro w1 hSw; (try dsimp only at hSw); go_simp; (try with_reducible rfl))); (try simp only [Act.put, List.setIfInBounds_toArray, List.set_cons_zero, List.set_cons_succ, List.getElem_toArray, List.getElem_cons_zero, List.getElem_cons_succ])
    refine wpAnyH_done (by kernel_rfl) ?_ _
    go_wp2_with fail
    go_ret
    exact ⟨rfl, HBW.out⟩
end Go.Proofs.Ytcpfiiapfggmpaa
