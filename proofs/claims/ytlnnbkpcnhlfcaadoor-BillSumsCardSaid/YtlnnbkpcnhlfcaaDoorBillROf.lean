/- The reference's Of, walked. -/
import Derived.Test.YtlnnbkpcnhlfcaaDoorJBillOf
set_option linter.unusedSimpArgs false
set_option linter.unusedSimpArgs false
namespace Go.Proofs.YtlnnbkpcnhlfcaaDoor
open Go.RowKit Go.Lib

set_option maxRecDepth 100000 in
set_option maxHeartbeats 2000000 in
theorem rof_any {aA cA A : Option Addr} {acs : List Ac} {caps : List Cp} {l : List Cg} (ac cc c : Nat) (nm : ByteArray) {w : World} (h : BLO w aA ac acs cA caps A l) :
    Calls Tryd.prog 25 #[.agg #[.slice none 0 0, .slice none 0 0, .slice none 0 0, .slice none 0 0, .slice none 0 0, .slice none 0 0, .int .i64 0, .int .i64 0, .slice none 0 0, .int .i64 0, .slice none 0 0, .slice none 0 0, .slice none 0 0, .slice none 0 0, .slice cA caps.length cc, .slice none 0 0, .slice none 0 0, .slice aA acs.length ac, .slice none 0 0, .slice none 0 0, .slice none 0 0, .slice none 0 0, .int .i64 0, .slice none 0 0, .string ⟨#[]⟩], .string nm, .slice A l.length c] w fun e w' => OfR (vals acs) nm (cvs l) w w' e := by
  have H := Lib.hid h
  have hl1 : l.length ≤ 1000 := h.cll
  obtain ⟨Y, hY⟩ : ∃ Y, w.alloc (.cells #[.slice none 0 0, .slice none 0 0, .slice none 0 0, .slice none 0 0, .slice none 0 0, .slice none 0 0, .int .i64 0, .int .i64 0, .slice none 0 0, .int .i64 0, .slice none 0 0, .slice none 0 0, .slice none 0 0, .slice none 0 0, .slice cA caps.length cc, .slice none 0 0, .slice none 0 0, .slice aA acs.length ac, .slice none 0 0, .slice none 0 0, .slice none 0 0, .slice none 0 0, .int .i64 0, .slice none 0 0, .string ⟨#[]⟩] 62) = Y := ⟨_, rfl⟩
  have BC : Blk Y w.heap.size #[.slice none 0 0, .slice none 0 0, .slice none 0 0, .slice none 0 0, .slice none 0 0, .slice none 0 0, .int .i64 0, .int .i64 0, .slice none 0 0, .int .i64 0, .slice none 0 0, .slice none 0 0, .slice none 0 0, .slice none 0 0, .slice cA caps.length cc, .slice none 0 0, .slice none 0 0, .slice aA acs.length ac, .slice none 0 0, .slice none 0 0, .slice none 0 0, .slice none 0 0, .int .i64 0, .slice none 0 0, .string ⟨#[]⟩] 62 := by rw [← hY]; exact Blk.new w _ _
  have bW : Below w.heap.size w Y := by rw [← hY]; exact (Below.refl _ w).al _
  have s1 : Y.heap.size = w.heap.size + 1 := by rw [← hY]; simp
  have HBC := Lib.hid BC
  have HbW := Lib.hid bW
  clear h
  go_enter Tryd.func25, Tryd.ntmps25
  go_wp2_with fail
  clear hY BC bW
  go_loopw [7, 8] (fun o i wr => ∃ (k : Nat) (r : List Cg) (A' : Option Addr) (c' : Nat), k ≤ l.length ∧ i = .int .i64 k ∧ o = .slice A' r.length c' ∧ Hid (r.length ≤ k) ∧ Hid (cvs r = ofL (vals acs) nm ((cvs l).take k)) ∧ Own 82 encCg 7 wr (w.heap.size + 1) A' c' r ∧ Hid (∀ x ∈ r, x ∈ l) ∧ Below (w.heap.size + 1) Y wr) (fun _ i _ => l.length - (RowKit.intOf i).toNat)
  case atStart => exact ⟨0, [], none, 0, Nat.zero_le _, rfl, rfl, (by unfold Hid; simp), Lib.hid (by simp [cvs, ofL]), Own.nil _ _, (by unfold Hid; simp), by rw [← s1]; exact Below.refl _ _⟩
  case round =>
    obtain ⟨k, r, A', c', hk, rfl, rfl, HRL, HRV, hown, HRN, bY⟩ := hrel
    by_cases hi : k < l.length
    · have bW : Below w.heap.size w wr := HbW.out.trans (bY.mono (by omega))
      obtain ⟨b, off, x, rfl, hb, hx, d0, d1, d2, d3, d4, d5, d6⟩ := (H.out.st bW).cl.cg hi
      have HK := Lib.hid hi
      have hxc : (cvs l)[k]? = some x.c := cvs_at hx
      have HT := Lib.hid (ofL_tk (ac := vals acs) (nm := nm) hxc)
      have HXM := Lib.hid (List.mem_of_getElem? hx)
      obtain ⟨⟨key, veh, sys, cls, tm, lns, cn⟩, lA, lc⟩ := x
      simp only at *
      have hsz : w.heap.size + 1 ≤ wr.heap.size := by have := bY.size; omega
      have BC := HBC.out.below bY (by omega)
      have OC := Lib.hid (fun (X : World) (hX : Below w.heap.size w X) => rowner_any ac veh tm (H.out.al.st hX) H.out.sm)
      have HSS : Hid ((fun w' : World => w'.cell? ⟨w.heap.size, 17, none⟩ = some (.slice aA acs.length ac) ∧ w'.cell? ⟨b, off + k * 7 + 1, none⟩ = some (.string veh) ∧ w'.cell? ⟨b, off + k * 7 + 4, none⟩ = some (.int .i64 tm)) wr) := Lib.hid ⟨BC.cell 17 rfl, d1, d4⟩
      have HCE := Lib.hid (fun (X : World) (hX : Below wr.heap.size wr X) (j : Nat) (v : Value) (q : wr.cell? ⟨b, off + k * 7 + j, none⟩ = some v) => (hX.cell (p := ⟨b, off + k * 7 + j, none⟩) hb).trans q)
      have HD0 := Lib.hid d0
      have HD1 := Lib.hid d1
      have HD2 := Lib.hid d2
      have HD3 := Lib.hid d3
      have HD4 := Lib.hid d4
      have HD5 := Lib.hid d5
      have HD6 := Lib.hid d6
      have i1 : (0 : Int) ≤ (k : Int) := by omega
      have i2 : (k : Int) < (l.length : Int) := by omega
      have HIS : Hid (isO (vals acs) nm (⟨key, veh, sys, cls, tm, lns, cn⟩ : CV) = (ownerB (vals acs) veh tm && eqS (ownerN (vals acs) veh tm) nm)) := Lib.hid rfl
      have HOW := Lib.hid hown
      have HBY := Lib.hid bY
      have HBW := Lib.hid bW
      clear hx hxc hi BC d0 d1 d2 d3 d4 d5 d6 hown bY bW
      go_wp2_with fail
      generalize ownerN (vals acs) veh tm = on at *
      generalize ownerB (vals acs) veh tm = ob at *
      refine wp_region_held_drew (S := (fun w' : World => w'.cell? ⟨w.heap.size, 17, none⟩ = some (.slice aA acs.length ac) ∧ w'.cell? ⟨b, off + k * 7 + 1, none⟩ = some (.string veh) ∧ w'.cell? ⟨b, off + k * 7 + 4, none⟩ = some (.int .i64 tm))) (by kernel_rfl) ?_ (fun hHeld => ?_)
      · exact HSS.out
      have hSS : (fun w' : World => w'.cell? ⟨w.heap.size, 17, none⟩ = some (.slice aA acs.length ac) ∧ w'.cell? ⟨b, off + k * 7 + 1, none⟩ = some (.string veh) ∧ w'.cell? ⟨b, off + k * 7 + 4, none⟩ = some (.int .i64 tm)) wr.drew := HSS.out
      have HBr : Hid (Below wr.heap.size wr wr.drew) := Lib.hid (below_drewN (Below.refl _ wr) 1)
      generalize wr.drew = W0 at hSS hHeld HBr ⊢
      change wpAnyH _ _ _ _ _ 18 _ _ _
      refine wpAnyH_take (i := 0) (v := ?_) (by simp only [List.getElem?_toArray, List.getElem?_cons_zero, List.getElem?_cons_succ]; rfl) (by kernel_rfl) (by kernel_rfl) (by kernel_rfl) (by intro _ _ _ h; exact h) (Or.inl ⟨by rfl, ?_⟩) (by assumption) ?_; rotate_left; (focus (intro w1 hSw; (try dsimp only at hSw); go_simp; (try with_reducible rfl))); (try simp only [Act.put, List.setIfInBounds_toArray, List.set_cons_zero, List.set_cons_succ, List.getElem_toArray, List.getElem_cons_zero, List.getElem_cons_succ])
      refine wpAnyH_take (i := 1) (v := ?_) (by simp only [List.getElem?_toArray, List.getElem?_cons_zero, List.getElem?_cons_succ]; rfl) (by kernel_rfl) (by kernel_rfl) (by kernel_rfl) (by intro _ _ _ h; exact h) (Or.inl ⟨by rfl, ?_⟩) (by assumption) ?_; rotate_left; (focus (intro w1 hSw; (try dsimp only at hSw); go_simp; (try with_reducible rfl))); (try simp only [Act.put, List.setIfInBounds_toArray, List.set_cons_zero, List.set_cons_succ, List.getElem_toArray, List.getElem_cons_zero, List.getElem_cons_succ])
      refine wpAnyH_take (i := 2) (v := ?_) (by simp only [List.getElem?_toArray, List.getElem?_cons_zero, List.getElem?_cons_succ]; rfl) (by kernel_rfl) (by kernel_rfl) (by kernel_rfl) (by intro _ _ _ h; exact h) (Or.inl ⟨by rfl, ?_⟩) (by assumption) ?_; rotate_left; (focus (intro w1 hSw; (try dsimp only at hSw); go_simp; (try with_reducible rfl))); (try simp only [Act.put, List.setIfInBounds_toArray, List.set_cons_zero, List.set_cons_succ, List.getElem_toArray, List.getElem_cons_zero, List.getElem_cons_succ])
      refine wpAnyH_take (i := 3) (v := ?_) (by simp only [List.getElem?_toArray, List.getElem?_cons_zero, List.getElem?_cons_succ]; rfl) (by kernel_rfl) (by kernel_rfl) (by kernel_rfl) (by intro _ _ _ h; exact h) (Or.inl ⟨by rfl, ?_⟩) (by assumption) ?_; rotate_left; (focus (intro w1 hSw; (try dsimp only at hSw); go_simp; (try with_reducible rfl))); (try simp only [Act.put, List.setIfInBounds_toArray, List.set_cons_zero, List.set_cons_succ, List.getElem_toArray, List.getElem_cons_zero, List.getElem_cons_succ])
      refine wpAnyH_take (i := 4) (v := ?_) (by simp only [List.getElem?_toArray, List.getElem?_cons_zero, List.getElem?_cons_succ]; rfl) (by kernel_rfl) (by kernel_rfl) (by kernel_rfl) (by intro _ _ _ h; exact h) (Or.inl ⟨by rfl, ?_⟩) (by assumption) ?_; rotate_left; (focus (intro w1 hSw; (try dsimp only at hSw); go_simp; (try with_reducible rfl))); (try simp only [Act.put, List.setIfInBounds_toArray, List.set_cons_zero, List.set_cons_succ, List.getElem_toArray, List.getElem_cons_zero, List.getElem_cons_succ])
      refine wpAnyH_take (i := 5) (v := ?_) (by simp only [List.getElem?_toArray, List.getElem?_cons_zero, List.getElem?_cons_succ]; rfl) (by kernel_rfl) (by kernel_rfl) (by kernel_rfl) (by intro _ _ _ h; exact h) (Or.inl ⟨by rfl, ?_⟩) (by assumption) ?_; rotate_left; (focus (intro w1 hSw; (try dsimp only at hSw); go_simp; (try with_reducible rfl))); (try simp only [Act.put, List.setIfInBounds_toArray, List.set_cons_zero, List.set_cons_succ, List.getElem_toArray, List.getElem_cons_zero, List.getElem_cons_succ])
      refine wpAnyH_take (i := 6) (v := ?_) (by simp only [List.getElem?_toArray, List.getElem?_cons_zero, List.getElem?_cons_succ]; rfl) (by kernel_rfl) (by kernel_rfl) (by kernel_rfl) (by intro _ _ _ h; exact h) (Or.inl ⟨by rfl, ?_⟩) (by assumption) ?_; rotate_left; (focus (intro w1 hSw; (try dsimp only at hSw); go_simp; (try with_reducible rfl))); (try simp only [Act.put, List.setIfInBounds_toArray, List.set_cons_zero, List.set_cons_succ, List.getElem_toArray, List.getElem_cons_zero, List.getElem_cons_succ])
      refine wpAnyH_take (i := 7) (v := ?_) (by simp only [List.getElem?_toArray, List.getElem?_cons_zero, List.getElem?_cons_succ]; rfl) (by kernel_rfl) (by kernel_rfl) (by kernel_rfl) (by intro _ _ _ h; exact h) (Or.inl ⟨by rfl, ?_⟩) (by assumption) ?_; rotate_left; (focus (intro w1 hSw; (try dsimp only at hSw); go_simp; (try with_reducible rfl))); (try simp only [Act.put, List.setIfInBounds_toArray, List.set_cons_zero, List.set_cons_succ, List.getElem_toArray, List.getElem_cons_zero, List.getElem_cons_succ])
      refine wpAnyH_take (i := 8) (v := ?_) (by simp only [List.getElem?_toArray, List.getElem?_cons_zero, List.getElem?_cons_succ]; rfl) (by kernel_rfl) (by kernel_rfl) (by kernel_rfl) (by intro _ _ _ h; exact h) (Or.inl ⟨by rfl, ?_⟩) (by assumption) ?_; rotate_left; (focus (intro w1 hSw; (try dsimp only at hSw); go_simp; (try with_reducible rfl))); (try simp only [Act.put, List.setIfInBounds_toArray, List.set_cons_zero, List.set_cons_succ, List.getElem_toArray, List.getElem_cons_zero, List.getElem_cons_succ])
      refine wpAnyH_take (i := 9) (v := ?_) (by simp only [List.getElem?_toArray, List.getElem?_cons_zero, List.getElem?_cons_succ]; rfl) (by kernel_rfl) (by kernel_rfl) (by kernel_rfl) (by intro _ _ _ h; exact h) (Or.inl ⟨by rfl, ?_⟩) (by assumption) ?_; rotate_left; (focus (intro w1 hSw; (try dsimp only at hSw); go_simp; (try with_reducible rfl))); (try simp only [Act.put, List.setIfInBounds_toArray, List.set_cons_zero, List.set_cons_succ, List.getElem_toArray, List.getElem_cons_zero, List.getElem_cons_succ])
      refine wpAnyH_take (i := 10) (v := ?_) (by simp only [List.getElem?_toArray, List.getElem?_cons_zero, List.getElem?_cons_succ]; rfl) (by kernel_rfl) (by kernel_rfl) (by kernel_rfl) (by intro _ _ _ h; exact h) (Or.inl ⟨by rfl, ?_⟩) (by assumption) ?_; rotate_left; (focus (intro w1 hSw; (try dsimp only at hSw); go_simp; (try with_reducible rfl))); (try simp only [Act.put, List.setIfInBounds_toArray, List.set_cons_zero, List.set_cons_succ, List.getElem_toArray, List.getElem_cons_zero, List.getElem_cons_succ])
      refine wpAnyH_take (i := 11) (v := ?_) (by simp only [List.getElem?_toArray, List.getElem?_cons_zero, List.getElem?_cons_succ]; rfl) (by kernel_rfl) (by kernel_rfl) (by kernel_rfl) (by intro _ _ _ h; exact h) (Or.inl ⟨by rfl, ?_⟩) (by assumption) ?_; rotate_left; (focus (intro w1 hSw; (try dsimp only at hSw); go_simp; (try with_reducible rfl))); (try simp only [Act.put, List.setIfInBounds_toArray, List.set_cons_zero, List.set_cons_succ, List.getElem_toArray, List.getElem_cons_zero, List.getElem_cons_succ])
      refine wpAnyH_ready (rs := [12]) (by kernel_rfl) (by simp) ?_; refine AllReadyH.cons (by simp only [List.getElem?_toArray, List.getElem?_cons_zero, List.getElem?_cons_succ]; rfl) (fun K hK => ?_) AllReadyH.nil
      rw [if_pos (by rfl)]; go_wp2_with fail
      refine (OC.out _ (HBW.out.st HBr.out)).mono ?_
      rintro e wn ⟨rfl, hbn⟩
      have HBn := Lib.hid (HBr.out.st hbn)
      have hSS : (fun w' : World => w'.cell? ⟨w.heap.size, 17, none⟩ = some (.slice aA acs.length ac) ∧ w'.cell? ⟨b, off + k * 7 + 1, none⟩ = some (.string veh) ∧ w'.cell? ⟨b, off + k * 7 + 4, none⟩ = some (.int .i64 tm)) wn := ⟨(HBC.out.below (HBY.out.trans (HBn.out.mono hsz)) (by omega)).cell 17 rfl, HCE.out wn HBn.out 1 _ HSS.out.2.1, HCE.out wn HBn.out 4 _ HSS.out.2.2⟩
      clear hbn
      go_wp2_with fail
      refine hK.out _ _ ?_ (fun hHeld => ?_)
      · exact hSS
      clear hK K
      (try simp only [Act.put, List.setIfInBounds_toArray, List.set_cons_zero, List.set_cons_succ, List.getElem_toArray, List.getElem_cons_zero, List.getElem_cons_succ])
      refine wpAnyH_take (i := 13) (v := ?_) (by simp only [List.getElem?_toArray, List.getElem?_cons_zero, List.getElem?_cons_succ]; rfl) (by kernel_rfl) (by kernel_rfl) (by kernel_rfl) (by intro _ _ _ h; exact h) (Or.inl ⟨by rfl, ?_⟩) (by assumption) ?_; rotate_left; (focus (intro w1 hSw; (try dsimp only at hSw); go_simp; (try with_reducible rfl))); (try simp only [Act.put, List.setIfInBounds_toArray, List.set_cons_zero, List.set_cons_succ, List.getElem_toArray, List.getElem_cons_zero, List.getElem_cons_succ])
      refine wpAnyH_take (i := 14) (v := ?_) (by simp only [List.getElem?_toArray, List.getElem?_cons_zero, List.getElem?_cons_succ]; rfl) (by kernel_rfl) (by kernel_rfl) (by kernel_rfl) (by intro _ _ _ h; exact h) (Or.inl ⟨by rfl, ?_⟩) (by assumption) ?_; rotate_left; (focus (intro w1 hSw; (try dsimp only at hSw); go_simp; (try with_reducible rfl))); (try simp only [Act.put, List.setIfInBounds_toArray, List.set_cons_zero, List.set_cons_succ, List.getElem_toArray, List.getElem_cons_zero, List.getElem_cons_succ])
      refine wpAnyH_take (i := 15) (v := ?_) (by simp only [List.getElem?_toArray, List.getElem?_cons_zero, List.getElem?_cons_succ]; rfl) (by kernel_rfl) (by kernel_rfl) (by kernel_rfl) (by intro _ _ _ h; exact h) (Or.inl ⟨by rfl, ?_⟩) (by assumption) ?_; rotate_left; (focus (intro w1 hSw; (try dsimp only at hSw); go_simp; (try with_reducible rfl))); (try simp only [Act.put, List.setIfInBounds_toArray, List.set_cons_zero, List.set_cons_succ, List.getElem_toArray, List.getElem_cons_zero, List.getElem_cons_succ])
      refine wpAnyH_take (i := 16) (v := ?_) (by simp only [List.getElem?_toArray, List.getElem?_cons_zero, List.getElem?_cons_succ]; rfl) (by kernel_rfl) (by kernel_rfl) (by kernel_rfl) (by intro _ _ _ h; exact h) (Or.inl ⟨by rfl, ?_⟩) (by assumption) ?_; rotate_left; (focus (intro w1 hSw; (try dsimp only at hSw); go_simp; (try with_reducible rfl))); (try simp only [Act.put, List.setIfInBounds_toArray, List.set_cons_zero, List.set_cons_succ, List.getElem_toArray, List.getElem_cons_zero, List.getElem_cons_succ])
      refine wpAnyH_take (i := 17) (v := ?_) (by simp only [List.getElem?_toArray, List.getElem?_cons_zero, List.getElem?_cons_succ]; rfl) (by kernel_rfl) (by kernel_rfl) (by kernel_rfl) (by intro _ _ _ h; exact h) (Or.inl ⟨by rfl, ?_⟩) (by assumption) ?_; rotate_left; (focus (intro w1 hSw; (try dsimp only at hSw); go_simp; (try with_reducible rfl))); (try simp only [Act.put, List.setIfInBounds_toArray, List.set_cons_zero, List.set_cons_succ, List.getElem_toArray, List.getElem_cons_zero, List.getElem_cons_succ])
      refine wpAnyH_done (by kernel_rfl) ?_ _
      clear hSS hHeld HSS
      have hown3 := HOW.out.st HBn.out
      have bY3 := HBY.out.trans (HBn.out.mono hsz)
      have HB3 := Lib.hid HBn.out
      have sz3 := HBn.out.size
      clear OC HBr HOW
      cases ob
      · have R : Hid (cvs r = ofL (vals acs) nm ((cvs l).take (k + 1))) := Lib.hid (by rw [HT.out, HIS.out, HRV.out]; simp)
        clear HT HIS HRV
        go_wp2_with fail
        go_roundw
        case rel => exact ⟨k + 1, r, _, _, HK.out, by go_num, rfl, Lib.hid (by have := HRL.out; omega), R, hown3, HRN, bY3⟩
        case measure => have := HK.out; simp [RowKit.intOf]; omega
      · cases he : eqS on nm
        · have R : Hid (cvs r = ofL (vals acs) nm ((cvs l).take (k + 1))) := Lib.hid (by rw [HT.out, HIS.out, HRV.out, he]; simp)
          have he2 : (on.toList == nm.toList) = false := he
          clear HT HIS HRV he
          go_wp2_with fail
          go_roundw
          case rel => exact ⟨k + 1, r, _, _, HK.out, by go_num, rfl, Lib.hid (by have := HRL.out; omega), R, hown3, HRN, bY3⟩
          case measure => have := HK.out; simp [RowKit.intOf]; omega
        · have HE := Lib.hid (show isO (vals acs) nm (⟨key, veh, sys, cls, tm, lns, cn⟩ : CV) = true by rw [HIS.out, he]; rfl)
          have he2 : (on.toList == nm.toList) = true := he
          have hrl : r.length ≤ 1000 := by have := HRL.out; have := HK.out; omega
          have e0 : World.cell? wn ⟨b, off + k * 7, none⟩ = some (.string key) := HCE.out wn HB3.out 0 _ HD0.out
          have e1 := HCE.out wn HB3.out 1 _ HD1.out
          have e2 := HCE.out wn HB3.out 2 _ HD2.out
          have e3 := HCE.out wn HB3.out 3 _ HD3.out
          have e4 := HCE.out wn HB3.out 4 _ HD4.out
          have e5 := HCE.out wn HB3.out 5 _ HD5.out
          have e6 := HCE.out wn HB3.out 6 _ HD6.out
          clear HIS he
          go_wp2_with (at_builtin; refine wpList_app1b rfl (.tmp 39) (.tmp 44) tyCg encCg_ok rfl (⟨(⟨key, veh, sys, cls, tm, lns, cn⟩ : CV), lA, lc⟩ : Cg) rfl _ rfl (by simp) hown3 rfl (by first | rfl | simp) (by first | omega | (simp; omega)) (by first | omega | (simp; omega)) (by first | exact bY3.size | (have := bY3.size; omega)) ?_; intro A8 c8 w8 hown8 hb8 hs8 hf8; have hbel8 := bY3.trans hb8)
          have R : Hid (cvs (r ++ [⟨(⟨key, veh, sys, cls, tm, lns, cn⟩ : CV), lA, lc⟩]) = ofL (vals acs) nm ((cvs l).take (k + 1))) := Lib.hid (by rw [HT.out, if_pos HE.out, cvs_app, HRV.out]; rfl)
          have RN : Hid (∀ x ∈ r ++ [(⟨(⟨key, veh, sys, cls, tm, lns, cn⟩ : CV), lA, lc⟩ : Cg)], x ∈ l) := Lib.hid (by
            intro x hx
            rcases List.mem_append.1 hx with q | q
            · exact HRN.out x q
            · rw [List.mem_singleton] at q; subst q; exact HXM.out)
          clear hown3 hb8 hf8 HT HE HRV HRN
          go_wp2_with fail
          go_roundw
          case rel => exact ⟨k + 1, r ++ [⟨(⟨key, veh, sys, cls, tm, lns, cn⟩ : CV), lA, lc⟩], A8, c8, HK.out, by go_num, by simp, Lib.hid (by have := HRL.out; simp; omega), R, hown8, RN, hbel8⟩
          case measure => have := HK.out; simp [RowKit.intOf]; omega
    · obtain rfl : k = l.length := by omega
      have R : Hid (cvs r = ofL (vals acs) nm (cvs l)) := Lib.hid (by rw [HRV.out, List.take_of_length_le (Nat.le_of_eq (cvs_len l))])
      clear HRV
      go_wp2_with fail
      go_ret
      have bW := HbW.out.trans (bY.mono (by omega))
      exact ⟨A', c', r, rfl, R.out, hown.mono (by omega), fun x hx => H.out.rs.st bW x (HRN.out x hx), bW⟩
end Go.Proofs.YtlnnbkpcnhlfcaaDoor
