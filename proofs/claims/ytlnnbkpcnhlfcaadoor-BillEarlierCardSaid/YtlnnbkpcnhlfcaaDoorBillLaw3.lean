/- The law BillEarlier, walked. -/
import Derived.Test.YtlnnbkpcnhlfcaaDoorBillAwake
import Derived.Test.YtlnnbkpcnhlfcaaDoorJBefore
set_option linter.unusedSimpArgs false
set_option linter.unusedSimpArgs false
namespace Go.Proofs.YtlnnbkpcnhlfcaaDoor
open Go.RowKit Go.Lib

theorem tk_allT {l : List Trp} {k : Nat} {x : Trp} (h : ∀ y ∈ l.take k, y.id.size ≤ 1000) (hx : l[k]? = some x) (hp : x.id.size ≤ 1000) : ∀ y ∈ l.take (k + 1), y.id.size ≤ 1000 := by
  intro y hy
  rw [take_snoc hx] at hy
  rcases List.mem_append.1 hy with q | q
  · exact h y q
  · rw [List.mem_singleton] at q; subst q; exact hp

set_option maxRecDepth 100000 in
set_option maxHeartbeats 4000000 in
theorem billEarlier_walk {A : Option Addr} (c : Nat) {l : List Trp} (x : Trp) {w : World} (hr : Rd encTr 5 w w.heap.size A l) (hok : TrsOk w l) (hx : TrOk w x) (hll : l.length ≤ 9223372036854775807) (hm : Mon w) :
    Calls Tryd.prog 4 #[.slice A l.length c, TrV x] w fun e w' => e = .returned (.bool true) ∧ Below w.heap.size w w' := by
  have HR := Lib.hid hr
  have HO := Lib.hid hok
  have HX := Lib.hid hx
  have HM := Lib.hid hm
  have hxl := hx.2
  have C1 := Lib.hid (fun (q : l.length ≤ 1000) (X : World) (hX : Below w.heap.size w X) => earlier_any c x (HR.out.st hX) (HO.out.st hX) (HX.out.st hX) (HM.out.st hX HM.out.1) q)
  have C2 := Lib.hid (fun (p : x.id.size ≤ 1000 ∧ ∀ y ∈ l, y.id.size ≤ 1000) (q : l.length ≤ 1000) (X : World) (hX : Below w.heap.size w X) => rearlier_any c x (HR.out.st hX) (HO.out.st hX) (HX.out.st hX) p q)
  generalize hN : earN l x = N at C1 C2
  clear hN
  obtain ⟨xi, xv, xy, xc, xA, xd, xs⟩ := x
  simp only [TrV] at C1 C2 ⊢
  simp only at hxl
  clear hr hok hx hm
  obtain ⟨Y, hY⟩ : ∃ Y, w.alloc (.cells #[.string xi, .string xv, .string xy, .int .i64 xc, .slice xA xs.length xd] 28) = Y := ⟨_, rfl⟩
  have bW : Below w.heap.size w Y := by rw [← hY]; exact (Below.refl _ w).al _
  have BP : Blk Y w.heap.size #[.string xi, .string xv, .string xy, .int .i64 xc, .slice xA xs.length xd] 28 := by rw [← hY]; exact Blk.new w _ _
  have z0 := BP.cell 0 (v := .string xi) rfl
  have z1 := BP.cell 1 (v := .string xv) rfl
  have z4 := BP.cell 4 (v := .slice xA xs.length xd) rfl
  go_enter Tryd.func4, Tryd.ntmps4
  by_cases q1 : 30 < (l.length : Int)
  · go_wp2_with fail; refine (awake_any (HM.out.st bW HM.out.1)).mono ?_; rintro e wl ⟨rfl, hbl⟩; have bL := bW.st hbl; go_wp2_with fail; go_ret; exact ⟨rfl, bL⟩
  by_cases q2 : 8 < (xs.length : Int)
  · go_wp2_with fail; refine (awake_any (HM.out.st bW HM.out.1)).mono ?_; rintro e wl ⟨rfl, hbl⟩; have bL := bW.st hbl; go_wp2_with fail; go_ret; exact ⟨rfl, bL⟩
  by_cases q3 : 80 < (xi.size : Int)
  · go_wp2_with fail; refine (awake_any (HM.out.st bW HM.out.1)).mono ?_; rintro e wl ⟨rfl, hbl⟩; have bL := bW.st hbl; go_wp2_with fail; go_ret; exact ⟨rfl, bL⟩
  by_cases q4 : 40 < (xv.size : Int)
  · go_wp2_with fail; refine (awake_any (HM.out.st bW HM.out.1)).mono ?_; rintro e wl ⟨rfl, hbl⟩; have bL := bW.st hbl; go_wp2_with fail; go_ret; exact ⟨rfl, bL⟩
  have hl30 : l.length ≤ 30 := by omega
  have HXI : Hid (xi.size ≤ 1000) := Lib.hid (by omega)
  go_wp2_with fail
  clear hY
  go_loopw [5] (fun i wr => ∃ k : Nat, k ≤ l.length ∧ i = .int .i64 k ∧ Hid (∀ y ∈ l.take k, y.id.size ≤ 1000) ∧ wr = Y) (fun i _ => l.length - (RowKit.intOf i).toNat)
  case atStart => exact ⟨0, Nat.zero_le _, rfl, (by unfold Hid; simp), rfl⟩
  case round =>
    obtain ⟨k, hk, rfl, HQ, hw⟩ := hrel
    have hw := hw.symm
    subst hw
    have k1 : (0 : Int) ≤ (k : Int) := by omega
    by_cases hi : k < l.length
    · have k2 : (k : Int) < (l.length : Int) := by omega
      obtain ⟨b, off, y, hA1, hb, hy, d0, d1, d2, d3, d4⟩ := (HR.out.st bW).tp hi
      subst hA1
      have hyl := (HO.out y (List.mem_of_getElem? hy)).2
      have HK := Lib.hid hi
      have HY := Lib.hid hy
      clear hy hi hb
      by_cases q5 : 8 < (y.ss.length : Int)
      · go_wp2_with fail; refine (awake_any (HM.out.st bW HM.out.1)).mono ?_; rintro e wl ⟨rfl, hbl⟩; have bL := bW.st hbl; go_wp2_with fail; go_ret; exact ⟨rfl, bL⟩
      by_cases q6 : 80 < (y.id.size : Int)
      · go_wp2_with fail; refine (awake_any (HM.out.st bW HM.out.1)).mono ?_; rintro e wl ⟨rfl, hbl⟩; have bL := bW.st hbl; go_wp2_with fail; go_ret; exact ⟨rfl, bL⟩
      by_cases q7 : 40 < (y.vh.size : Int)
      · go_wp2_with fail; refine (awake_any (HM.out.st bW HM.out.1)).mono ?_; rintro e wl ⟨rfl, hbl⟩; have bL := bW.st hbl; go_wp2_with fail; go_ret; exact ⟨rfl, bL⟩
      have R := Lib.hid (tk_allT HQ.out HY.out (by omega))
      go_wp2_with fail
      go_roundw
      case rel => exact ⟨k + 1, HK.out, by go_num, R, by first | rfl | trivial⟩
      case measure => have := HK.out; simp [RowKit.intOf]; omega
    · obtain rfl : k = l.length := by omega
      have R : Hid (xi.size ≤ 1000 ∧ ∀ y ∈ l, y.id.size ≤ 1000) := Lib.hid ⟨HXI.out, by have := HQ.out; rwa [List.take_length] at this⟩
      have C1 := Lib.hid (C1.out (by omega))
      have C2 := Lib.hid (C2.out R.out (by omega))
      clear HQ R HXI
      have HBP := Lib.hid BP
      have HBW := Lib.hid bW
      go_wp2_with fail
      refine wp_region_held_drew (S := (fun w' : World => Blk w' w.heap.size #[.string xi, .string xv, .string xy, .int .i64 xc, .slice xA xs.length xd] 28 ∧ w'.cell? ⟨w.heap.size, 0, none⟩ = some (.string xi))) (by kernel_rfl) ?_ (fun hHeld => ?_)
      · exact ⟨HBP.out, HBP.out.cell 0 rfl⟩
      have hSS : (fun w' : World => Blk w' w.heap.size #[.string xi, .string xv, .string xy, .int .i64 xc, .slice xA xs.length xd] 28 ∧ w'.cell? ⟨w.heap.size, 0, none⟩ = some (.string xi)) Y.drew := ⟨HBP.out.drew, HBP.out.drew.cell 0 rfl⟩
      have HBP := Lib.hid HBP.out.drew
      have HBW : Hid (Below w.heap.size w Y.drew) := Lib.hid (below_drewN HBW.out 1)
      clear BP bW z0 z1 z4
      generalize Y.drew = W0 at hSS hHeld HBP HBW ⊢
      change wpAnyH _ _ _ _ _ 11 _ _ _
      refine wpAnyH_take (i := 0) (v := ?_) (by simp only [List.getElem?_toArray, List.getElem?_cons_zero, List.getElem?_cons_succ]; rfl) (by kernel_rfl) (by kernel_rfl) (by kernel_rfl) (by intro _ _ _ h; exact h) (Or.inl ⟨by rfl, ?_⟩) (by assumption) ?_; rotate_left; (focus (intro w1 hSw; (try dsimp only at hSw); go_simp; (try with_reducible rfl))); (try simp only [Act.put, List.setIfInBounds_toArray, List.set_cons_zero, List.set_cons_succ, List.getElem_toArray, List.getElem_cons_zero, List.getElem_cons_succ])
      refine wpAnyH_take (i := 1) (v := .agg #[.string xi, .string xv, .string xy, .int .i64 xc, .slice xA xs.length xd]) (by simp only [List.getElem?_toArray, List.getElem?_cons_zero, List.getElem?_cons_succ]; rfl) (by kernel_rfl) (by kernel_rfl) (by kernel_rfl) (by intro _ _ _ h; exact h) (yieldsIf_boxLoad (by rfl) rfl rfl (fun _ hw => hw.1) ⟨_, Tryd.underlying28, by kernel_rfl⟩) (by assumption) ?_; (try simp only [Act.put, List.setIfInBounds_toArray, List.set_cons_zero, List.set_cons_succ, List.getElem_toArray, List.getElem_cons_zero, List.getElem_cons_succ])
      refine wpAnyH_take (i := 3) (v := ?_) (by simp only [List.getElem?_toArray, List.getElem?_cons_zero, List.getElem?_cons_succ]; rfl) (by kernel_rfl) (by kernel_rfl) (by kernel_rfl) (by intro _ _ _ h; exact h) (Or.inl ⟨by rfl, ?_⟩) (by assumption) ?_; rotate_left; (focus (intro w1 hSw; (try dsimp only at hSw); go_simp; (try with_reducible rfl))); (try simp only [Act.put, List.setIfInBounds_toArray, List.set_cons_zero, List.set_cons_succ, List.getElem_toArray, List.getElem_cons_zero, List.getElem_cons_succ])
      refine wpAnyH_take (i := 4) (v := .agg #[.string xi, .string xv, .string xy, .int .i64 xc, .slice xA xs.length xd]) (by simp only [List.getElem?_toArray, List.getElem?_cons_zero, List.getElem?_cons_succ]; rfl) (by kernel_rfl) (by kernel_rfl) (by kernel_rfl) (by intro _ _ _ h; exact h) (yieldsIf_boxLoad (by rfl) rfl rfl (fun _ hw => hw.1) ⟨_, Tryd.underlying28, by kernel_rfl⟩) (by assumption) ?_; (try simp only [Act.put, List.setIfInBounds_toArray, List.set_cons_zero, List.set_cons_succ, List.getElem_toArray, List.getElem_cons_zero, List.getElem_cons_succ])
      refine wpAnyH_ready (rs := [2]) (by kernel_rfl) (by simp) ?_; refine AllReadyH.cons (by simp only [List.getElem?_toArray, List.getElem?_cons_zero, List.getElem?_cons_succ]; rfl) (fun K hK => ?_) AllReadyH.nil
      rw [if_pos (by rfl)]; go_wp2_with fail
      refine (C1.out _ HBW.out).mono ?_
      rintro e W1 ⟨rfl, hbn⟩
      have HBP := Lib.hid (HBP.out.below hbn HBP.out.lt); have HBW := Lib.hid (HBW.out.st hbn)
      clear hbn
      go_wp2_with fail; refine hK.out _ _ ?_ (fun hHeld => ?_); (focus exact ⟨HBP.out, HBP.out.cell 0 rfl⟩); clear hK K; (try simp only [Act.put, List.setIfInBounds_toArray, List.set_cons_zero, List.set_cons_succ, List.getElem_toArray, List.getElem_cons_zero, List.getElem_cons_succ])
      refine wpAnyH_ready (rs := [5]) (by kernel_rfl) (by simp) ?_; refine AllReadyH.cons (by simp only [List.getElem?_toArray, List.getElem?_cons_zero, List.getElem?_cons_succ]; rfl) (fun K hK => ?_) AllReadyH.nil
      rw [if_pos (by rfl)]; go_wp2_with fail
      refine (C2.out _ HBW.out).mono ?_
      rintro e W2 ⟨rfl, hbn⟩
      have HBP := Lib.hid (HBP.out.below hbn HBP.out.lt); have HBW := Lib.hid (HBW.out.st hbn)
      clear hbn
      go_wp2_with fail; refine hK.out _ _ ?_ (fun hHeld => ?_); (focus exact ⟨HBP.out, HBP.out.cell 0 rfl⟩); clear hK K; (try simp only [Act.put, List.setIfInBounds_toArray, List.set_cons_zero, List.set_cons_succ, List.getElem_toArray, List.getElem_cons_zero, List.getElem_cons_succ])
      refine wpAnyH_take (i := 6) (v := ?_) (by simp only [List.getElem?_toArray, List.getElem?_cons_zero, List.getElem?_cons_succ]; rfl) (by kernel_rfl) (by kernel_rfl) (by kernel_rfl) (by intro _ _ _ h; exact h) (Or.inl ⟨by rfl, ?_⟩) (by assumption) ?_; rotate_left; (focus (intro w1 hSw; (try dsimp only at hSw); go_simp; (try with_reducible rfl))); (try simp only [Act.put, List.setIfInBounds_toArray, List.set_cons_zero, List.set_cons_succ, List.getElem_toArray, List.getElem_cons_zero, List.getElem_cons_succ])
      refine wpAnyH_take (i := 7) (v := ?_) (by simp only [List.getElem?_toArray, List.getElem?_cons_zero, List.getElem?_cons_succ]; rfl) (by kernel_rfl) (by kernel_rfl) (by kernel_rfl) (by intro _ _ _ h; exact h) (Or.inl ⟨by rfl, ?_⟩) (by assumption) ?_; rotate_left; (focus (intro w1 hSw; (try dsimp only at hSw); go_simp; (try with_reducible rfl))); (try simp only [Act.put, List.setIfInBounds_toArray, List.set_cons_zero, List.set_cons_succ, List.getElem_toArray, List.getElem_cons_zero, List.getElem_cons_succ])
      refine wpAnyH_ready (rs := [8]) (by kernel_rfl) (by simp) ?_; refine AllReadyH.cons (by simp only [List.getElem?_toArray, List.getElem?_cons_zero, List.getElem?_cons_succ]; rfl) (fun K hK => ?_) AllReadyH.nil
      rw [if_pos (by rfl)]; go_wp2_with fail
      refine (awake_any (HM.out.st HBW.out HM.out.1)).mono ?_
      rintro e W3 ⟨rfl, hbn⟩
      have HBP := Lib.hid (HBP.out.below hbn HBP.out.lt); have HBW := Lib.hid (HBW.out.st hbn)
      clear hbn
      go_wp2_with fail; refine hK.out _ _ ?_ (fun hHeld => ?_); (focus exact ⟨HBP.out, HBP.out.cell 0 rfl⟩); clear hK K; (try simp only [Act.put, List.setIfInBounds_toArray, List.set_cons_zero, List.set_cons_succ, List.getElem_toArray, List.getElem_cons_zero, List.getElem_cons_succ])
      refine wpAnyH_take (i := 9) (v := ?_) (by simp only [List.getElem?_toArray, List.getElem?_cons_zero, List.getElem?_cons_succ]; rfl) (by kernel_rfl) (by kernel_rfl) (by kernel_rfl) (by intro _ _ _ h; exact h) (Or.inl ⟨by rfl, ?_⟩) (by assumption) ?_; rotate_left; (focus (intro w1 hSw; (try dsimp only at hSw); go_simp; (try with_reducible rfl))); (try simp only [Act.put, List.setIfInBounds_toArray, List.set_cons_zero, List.set_cons_succ, List.getElem_toArray, List.getElem_cons_zero, List.getElem_cons_succ])
      refine wpAnyH_take (i := 10) (v := ?_) (by simp only [List.getElem?_toArray, List.getElem?_cons_zero, List.getElem?_cons_succ]; rfl) (by kernel_rfl) (by kernel_rfl) (by kernel_rfl) (by intro _ _ _ h; exact h) (Or.inl ⟨by rfl, ?_⟩) (by assumption) ?_; rotate_left; (focus (intro w1 hSw; (try dsimp only at hSw); go_simp; (try with_reducible rfl))); (try simp only [Act.put, List.setIfInBounds_toArray, List.set_cons_zero, List.set_cons_succ, List.getElem_toArray, List.getElem_cons_zero, List.getElem_cons_succ])
      refine wpAnyH_done (by kernel_rfl) ?_ _
      have bW := HBW.out
      go_wp2_with fail
      go_ret
      exact ⟨rfl, bW⟩
end Go.Proofs.YtlnnbkpcnhlfcaaDoor
