/- The law BillOnce, walked. -/
import Derived.Test.YtlnnbkpcnhlfcaaDoorBillLaw1
import Derived.Test.YtlnnbkpcnhlfcaaDoorBillOnceM
set_option linter.unusedSimpArgs false
set_option linter.unusedSimpArgs false
namespace Go.Proofs.YtlnnbkpcnhlfcaaDoor
open Go.RowKit Go.Lib

theorem vget {l : List Ac} {k : Nat} {a : Ac} (h : l[k]? = some a) : (vals l)[k]? = some a.v := by unfold vals; rw [List.getElem?_map, h]; rfl
theorem cntN_nil (ac : List Av) (cs : List CV) : cntN ac cs [] = 0 := by unfold cntN; rw [List.filter_eq_nil_iff.2 (fun x _ => by simp [inNs])]; rfl
theorem cell_below {w w' : World} {b i : Nat} {v : Value} (h : w.cell? ⟨b, i, none⟩ = some v) (hb : Below w.heap.size w w') (hl : b < w.heap.size) : w'.cell? ⟨b, i, none⟩ = some v := (World.cell?_of_block (hb.block b hl)).trans h

set_option maxRecDepth 100000 in
set_option maxHeartbeats 8000000 in
theorem billOnce_walk {aA cA A : Option Addr} {acs : List Ac} {caps : List Cp} {l : List Cg} (ac cc c : Nat) {w : World} (h : BRaw w aA ac acs cA caps A l) (hm : Mon w) :
    Calls Tryd.prog 10 #[.agg #[.slice aA acs.length ac, .slice cA caps.length cc, .slice A l.length c]] w fun e w' => e = .returned (.bool true) ∧ Below w.heap.size w w' := by
  obtain ⟨Y, hY⟩ : ∃ Y, w.alloc (.cells #[.slice aA acs.length ac, .slice cA caps.length cc, .slice A l.length c] 35) = Y := ⟨_, rfl⟩
  have bW : Below w.heap.size w Y := by rw [← hY]; exact (Below.refl _ w).al _
  have BP : Blk Y w.heap.size #[.slice aA acs.length ac, .slice cA caps.length cc, .slice A l.length c] 35 := by rw [← hY]; exact Blk.new w _ _
  have CF := Lib.hid (few_any ac cc c (h.st bW))
  have HM := Lib.hid hm
  have H := Lib.hid h
  clear h hm
  have z0 := BP.cell 0 (v := .slice aA acs.length ac) rfl; have z1 := BP.cell 1 (v := .slice cA caps.length cc) rfl; have z2 := BP.cell 2 (v := .slice A l.length c) rfl
  go_enter Tryd.func10, Tryd.ntmps10
  go_wp2_with fail
  clear hY
  refine CF.out.mono ?_
  rintro e w2 ⟨⟨bb, rfl, hbb⟩, hbn⟩
  have bW := bW.st hbn
  have BP := BP.below hbn BP.lt
  clear hbn CF z0 z1 z2
  cases bb
  · go_wp2_with fail; refine (awake_any (HM.out.st bW HM.out.1)).mono ?_; rintro e wl ⟨rfl, hbl⟩; have bL := bW.st hbl; go_wp2_with fail; go_ret; exact ⟨rfl, bL⟩
  · have HF := Lib.hid (hbb rfl)
    have hl30 : l.length ≤ 30 := HF.out.2.2.2.1
    have ha8 : acs.length ≤ 8 := HF.out.1
    have HB := Lib.hid ((H.out.ok HF.out HM.out).st bW)
    have HP := Lib.hid BP
    have HW := Lib.hid bW
    clear hbb
    have z0 := BP.cell 0 (v := .slice aA acs.length ac) rfl; have z1 := BP.cell 1 (v := .slice cA caps.length cc) rfl; have z2 := BP.cell 2 (v := .slice A l.length c) rfl
    go_wp2_with fail
    clear BP bW z0 z1 z2
    go_loopw [3, 5] (fun n i wr => ∃ k : Nat, k ≤ l.length ∧ i = .int .i64 k ∧ n = .int .i64 (ownCnt (vals acs) ((cvs l).take k)) ∧ Below w2.heap.size w2 wr) (fun _ i _ => l.length - (RowKit.intOf i).toNat)
    case atStart => exact ⟨0, Nat.zero_le _, rfl, by simp [ownCnt], Below.refl _ _⟩
    case round =>
      obtain ⟨k, hk, rfl, rfl, hwr⟩ := hrel
      have BP := HP.out.below hwr HP.out.lt
      have k1 : (0 : Int) ≤ (k : Int) := by omega
      have z0 := BP.cell 0 (v := .slice aA acs.length ac) rfl; have z1 := BP.cell 1 (v := .slice cA caps.length cc) rfl; have z2 := BP.cell 2 (v := .slice A l.length c) rfl
      by_cases hi : k < l.length
      · have k2 : (k : Int) < (l.length : Int) := by omega
        obtain ⟨b, off, x, hA1, hb, hx, d0, d1, d2, d3, d4, d5, d6⟩ := (HB.out.st hwr).cl.cg hi
        have hcnt := ownCnt_tk (vals acs) (cvs_at hx)
        have hle := ownCnt_le (vals acs) ((cvs l).take k)
        rw [List.length_take, cvs_len] at hle
        have HT := Lib.hid hcnt
        have CO := Lib.hid (fun (X : World) (hX : Below w2.heap.size w2 X) => owner_any ac x.c.veh x.c.tm (HB.out.st hX).al HB.out.sm)
        change Hid (∀ (X : World) (hX : Below w2.heap.size w2 X), Calls _ _ _ _ fun e w' => e = .returned (.tuple #[.string (ownO (vals acs) x.c), .bool (hasO (vals acs) x.c)]) ∧ Below X.heap.size X w') at CO
        have HK := Lib.hid hi
        have HBL := Lib.hid hb
        have HLT := Lib.hid BP.lt
        rw [hA1] at z2
        have hSS0 : (fun w' : World => w'.cell? ⟨w.heap.size, 0, none⟩ = some (.slice aA acs.length ac) ∧ w'.cell? ⟨w.heap.size, 2, none⟩ = some (.slice (some ⟨b, off, none⟩) l.length c) ∧ w'.cell? ⟨b, off + k * 7 + 1, none⟩ = some (.string x.c.veh) ∧ w'.cell? ⟨b, off + k * 7 + 4, none⟩ = some (.int .i64 x.c.tm)) wr := ⟨z0, z2, d1, d4⟩
        have HS := Lib.hid hSS0
        have hm30 : ownCnt (vals acs) ((cvs l).take k) ≤ 30 := by omega
        generalize ownCnt (vals acs) ((cvs l).take k) = m at *
        generalize hN : ownCnt (vals acs) ((cvs l).take (k + 1)) = M at *
        generalize ownO (vals acs) x.c = on at *
        have HW2 := Lib.hid hwr
        clear hcnt hle hx hi hb hA1 d0 d1 d2 d3 d4 d5 d6 z0 z1 hSS0 BP hwr
        cases hq : hasO (vals acs) x.c
        all_goals
          rw [hq] at CO HT
          have HN := Lib.hid hN
          clear hN hq
          go_wp2_with fail
          clear z2
          refine wp_region_held_drew (S := (fun w' : World => w'.cell? ⟨w.heap.size, 0, none⟩ = some (.slice aA acs.length ac) ∧ w'.cell? ⟨w.heap.size, 2, none⟩ = some (.slice (some ⟨b, off, none⟩) l.length c) ∧ w'.cell? ⟨b, off + k * 7 + 1, none⟩ = some (.string x.c.veh) ∧ w'.cell? ⟨b, off + k * 7 + 4, none⟩ = some (.int .i64 x.c.tm))) (by kernel_rfl) ?_ (fun hHeld => ?_)
          focus exact HS.out
          have hSS : (fun w' : World => w'.cell? ⟨w.heap.size, 0, none⟩ = some (.slice aA acs.length ac) ∧ w'.cell? ⟨w.heap.size, 2, none⟩ = some (.slice (some ⟨b, off, none⟩) l.length c) ∧ w'.cell? ⟨b, off + k * 7 + 1, none⟩ = some (.string x.c.veh) ∧ w'.cell? ⟨b, off + k * 7 + 4, none⟩ = some (.int .i64 x.c.tm)) wr.drew := HS.out
          have HS : Hid ((fun w' : World => w'.cell? ⟨w.heap.size, 0, none⟩ = some (.slice aA acs.length ac) ∧ w'.cell? ⟨w.heap.size, 2, none⟩ = some (.slice (some ⟨b, off, none⟩) l.length c) ∧ w'.cell? ⟨b, off + k * 7 + 1, none⟩ = some (.string x.c.veh) ∧ w'.cell? ⟨b, off + k * 7 + 4, none⟩ = some (.int .i64 x.c.tm)) wr.drew) := Lib.hid hSS
          have HW2 : Hid (Below w2.heap.size w2 wr.drew) := Lib.hid (below_drewN HW2.out 1)
          have HBL : Hid (b < wr.drew.heap.size) := HBL
          have HLT : Hid (w.heap.size < wr.drew.heap.size) := HLT
          generalize wr.drew = W0 at hSS hHeld HS HW2 HBL HLT ⊢
          change wpAnyH _ _ _ _ _ 20 _ _ _
          refine wpAnyH_take (i := 0) (v := ?_) (by simp only [List.getElem?_toArray, List.getElem?_cons_zero, List.getElem?_cons_succ]; rfl) (by kernel_rfl) (by kernel_rfl) (by kernel_rfl) (by intro _ _ _ h; exact h) (Or.inl ⟨by rfl, ?_⟩) (by assumption) ?_; rotate_left; (focus (intro w1 hSw; (try dsimp only at hSw); go_simp; (try with_reducible rfl))); (try simp only [Act.put, List.setIfInBounds_toArray, List.set_cons_zero, List.set_cons_succ, List.getElem_toArray, List.getElem_cons_zero, List.getElem_cons_succ])
          refine wpAnyH_take (i := 1) (v := ?_) (by simp only [List.getElem?_toArray, List.getElem?_cons_zero, List.getElem?_cons_succ]; rfl) (by kernel_rfl) (by kernel_rfl) (by kernel_rfl) (by intro _ _ _ h; exact h) (Or.inl ⟨by rfl, ?_⟩) (by assumption) ?_; rotate_left; (focus (intro w1 hSw; (try dsimp only at hSw); go_simp; (try with_reducible rfl))); (try simp only [Act.put, List.setIfInBounds_toArray, List.set_cons_zero, List.set_cons_succ, List.getElem_toArray, List.getElem_cons_zero, List.getElem_cons_succ])
          refine wpAnyH_take (i := 2) (v := ?_) (by simp only [List.getElem?_toArray, List.getElem?_cons_zero, List.getElem?_cons_succ]; rfl) (by kernel_rfl) (by kernel_rfl) (by kernel_rfl) (by intro _ _ _ h; exact h) (Or.inl ⟨by rfl, ?_⟩) (by assumption) ?_; rotate_left; (focus (intro w1 hSw; (try dsimp only at hSw); go_simp; (try with_reducible rfl))); (try simp only [Act.put, List.setIfInBounds_toArray, List.set_cons_zero, List.set_cons_succ, List.getElem_toArray, List.getElem_cons_zero, List.getElem_cons_succ])
          refine wpAnyH_take (i := 3) (v := ?_) (by simp only [List.getElem?_toArray, List.getElem?_cons_zero, List.getElem?_cons_succ]; rfl) (by kernel_rfl) (by kernel_rfl) (by kernel_rfl) (by intro _ _ _ h; exact h) (Or.inl ⟨by rfl, ?_⟩) (by assumption) ?_; rotate_left; (focus (intro w1 hSw; (try dsimp only at hSw); go_simp; (try with_reducible rfl))); (try simp only [Act.put, List.setIfInBounds_toArray, List.set_cons_zero, List.set_cons_succ, List.getElem_toArray, List.getElem_cons_zero, List.getElem_cons_succ])
          refine wpAnyH_take (i := 4) (v := ?_) (by simp only [List.getElem?_toArray, List.getElem?_cons_zero, List.getElem?_cons_succ]; rfl) (by kernel_rfl) (by kernel_rfl) (by kernel_rfl) (by intro _ _ _ h; exact h) (Or.inl ⟨by rfl, ?_⟩) (by assumption) ?_; rotate_left; (focus (intro w1 hSw; (try dsimp only at hSw); go_simp; (try with_reducible rfl))); (try simp only [Act.put, List.setIfInBounds_toArray, List.set_cons_zero, List.set_cons_succ, List.getElem_toArray, List.getElem_cons_zero, List.getElem_cons_succ])
          refine wpAnyH_take (i := 5) (v := ?_) (by simp only [List.getElem?_toArray, List.getElem?_cons_zero, List.getElem?_cons_succ]; rfl) (by kernel_rfl) (by kernel_rfl) (by kernel_rfl) (by intro _ _ _ h; exact h) (Or.inl ⟨by rfl, ?_⟩) (by assumption) ?_; rotate_left; (focus (intro w1 hSw; (try dsimp only at hSw); go_simp; (try with_reducible rfl))); (try simp only [Act.put, List.setIfInBounds_toArray, List.set_cons_zero, List.set_cons_succ, List.getElem_toArray, List.getElem_cons_zero, List.getElem_cons_succ])
          refine wpAnyH_take (i := 6) (v := ?_) (by simp only [List.getElem?_toArray, List.getElem?_cons_zero, List.getElem?_cons_succ]; rfl) (by kernel_rfl) (by kernel_rfl) (by kernel_rfl) (by intro _ _ _ h; exact h) (Or.inl ⟨by rfl, ?_⟩) (by assumption) ?_; rotate_left; (focus (intro w1 hSw; (try dsimp only at hSw); go_simp; (try with_reducible rfl))); (try simp only [Act.put, List.setIfInBounds_toArray, List.set_cons_zero, List.set_cons_succ, List.getElem_toArray, List.getElem_cons_zero, List.getElem_cons_succ])
          refine wpAnyH_take (i := 7) (v := ?_) (by simp only [List.getElem?_toArray, List.getElem?_cons_zero, List.getElem?_cons_succ]; rfl) (by kernel_rfl) (by kernel_rfl) (by kernel_rfl) (by intro _ _ _ h; exact h) (Or.inl ⟨by rfl, ?_⟩) (by assumption) ?_; rotate_left; (focus (intro w1 hSw; (try dsimp only at hSw); go_simp; (try with_reducible rfl))); (try simp only [Act.put, List.setIfInBounds_toArray, List.set_cons_zero, List.set_cons_succ, List.getElem_toArray, List.getElem_cons_zero, List.getElem_cons_succ])
          refine wpAnyH_take (i := 8) (v := ?_) (by simp only [List.getElem?_toArray, List.getElem?_cons_zero, List.getElem?_cons_succ]; rfl) (by kernel_rfl) (by kernel_rfl) (by kernel_rfl) (by intro _ _ _ h; exact h) (Or.inl ⟨by rfl, ?_⟩) (by assumption) ?_; rotate_left; (focus (intro w1 hSw; (try dsimp only at hSw); go_simp; (try with_reducible rfl))); (try simp only [Act.put, List.setIfInBounds_toArray, List.set_cons_zero, List.set_cons_succ, List.getElem_toArray, List.getElem_cons_zero, List.getElem_cons_succ])
          refine wpAnyH_take (i := 9) (v := ?_) (by simp only [List.getElem?_toArray, List.getElem?_cons_zero, List.getElem?_cons_succ]; rfl) (by kernel_rfl) (by kernel_rfl) (by kernel_rfl) (by intro _ _ _ h; exact h) (Or.inl ⟨by rfl, ?_⟩) (by assumption) ?_; rotate_left; (focus (intro w1 hSw; (try dsimp only at hSw); go_simp; (try with_reducible rfl))); (try simp only [Act.put, List.setIfInBounds_toArray, List.set_cons_zero, List.set_cons_succ, List.getElem_toArray, List.getElem_cons_zero, List.getElem_cons_succ])
          refine wpAnyH_take (i := 10) (v := ?_) (by simp only [List.getElem?_toArray, List.getElem?_cons_zero, List.getElem?_cons_succ]; rfl) (by kernel_rfl) (by kernel_rfl) (by kernel_rfl) (by intro _ _ _ h; exact h) (Or.inl ⟨by rfl, ?_⟩) (by assumption) ?_; rotate_left; (focus (intro w1 hSw; (try dsimp only at hSw); go_simp; (try with_reducible rfl))); (try simp only [Act.put, List.setIfInBounds_toArray, List.set_cons_zero, List.set_cons_succ, List.getElem_toArray, List.getElem_cons_zero, List.getElem_cons_succ])
          refine wpAnyH_take (i := 11) (v := ?_) (by simp only [List.getElem?_toArray, List.getElem?_cons_zero, List.getElem?_cons_succ]; rfl) (by kernel_rfl) (by kernel_rfl) (by kernel_rfl) (by intro _ _ _ h; exact h) (Or.inl ⟨by rfl, ?_⟩) (by assumption) ?_; rotate_left; (focus (intro w1 hSw; (try dsimp only at hSw); go_simp; (try with_reducible rfl))); (try simp only [Act.put, List.setIfInBounds_toArray, List.set_cons_zero, List.set_cons_succ, List.getElem_toArray, List.getElem_cons_zero, List.getElem_cons_succ])
          refine wpAnyH_take (i := 12) (v := ?_) (by simp only [List.getElem?_toArray, List.getElem?_cons_zero, List.getElem?_cons_succ]; rfl) (by kernel_rfl) (by kernel_rfl) (by kernel_rfl) (by intro _ _ _ h; exact h) (Or.inl ⟨by rfl, ?_⟩) (by assumption) ?_; rotate_left; (focus (intro w1 hSw; (try dsimp only at hSw); go_simp; (try with_reducible rfl))); (try simp only [Act.put, List.setIfInBounds_toArray, List.set_cons_zero, List.set_cons_succ, List.getElem_toArray, List.getElem_cons_zero, List.getElem_cons_succ])
          refine wpAnyH_take (i := 13) (v := ?_) (by simp only [List.getElem?_toArray, List.getElem?_cons_zero, List.getElem?_cons_succ]; rfl) (by kernel_rfl) (by kernel_rfl) (by kernel_rfl) (by intro _ _ _ h; exact h) (Or.inl ⟨by rfl, ?_⟩) (by assumption) ?_; rotate_left; (focus (intro w1 hSw; (try dsimp only at hSw); go_simp; (try with_reducible rfl))); (try simp only [Act.put, List.setIfInBounds_toArray, List.set_cons_zero, List.set_cons_succ, List.getElem_toArray, List.getElem_cons_zero, List.getElem_cons_succ])
          refine wpAnyH_ready (rs := [14]) (by kernel_rfl) (by simp) ?_; refine AllReadyH.cons (by simp only [List.getElem?_toArray, List.getElem?_cons_zero, List.getElem?_cons_succ]; rfl) (fun K hK => ?_) AllReadyH.nil
          rw [if_pos (by rfl)]; go_wp2_with fail
          refine (CO.out _ HW2.out).mono ?_
          rintro e W1 ⟨rfl, hbn⟩
          have HW2 := Lib.hid (HW2.out.st hbn)
          have hSS : (fun w' : World => w'.cell? ⟨w.heap.size, 0, none⟩ = some (.slice aA acs.length ac) ∧ w'.cell? ⟨w.heap.size, 2, none⟩ = some (.slice (some ⟨b, off, none⟩) l.length c) ∧ w'.cell? ⟨b, off + k * 7 + 1, none⟩ = some (.string x.c.veh) ∧ w'.cell? ⟨b, off + k * 7 + 4, none⟩ = some (.int .i64 x.c.tm)) W1 := ⟨cell_below HS.out.1 hbn HLT.out, cell_below HS.out.2.1 hbn HLT.out, cell_below HS.out.2.2.1 hbn HBL.out, cell_below HS.out.2.2.2 hbn HBL.out⟩
          clear hbn
          go_wp2_with fail
          refine hK.out _ _ ?_ (fun hHeld => ?_)
          focus exact hSS
          clear hK K
          (try simp only [Act.put, List.setIfInBounds_toArray, List.set_cons_zero, List.set_cons_succ, List.getElem_toArray, List.getElem_cons_zero, List.getElem_cons_succ])
          refine wpAnyH_take (i := 15) (v := ?_) (by simp only [List.getElem?_toArray, List.getElem?_cons_zero, List.getElem?_cons_succ]; rfl) (by kernel_rfl) (by kernel_rfl) (by kernel_rfl) (by intro _ _ _ h; exact h) (Or.inl ⟨by rfl, ?_⟩) (by assumption) ?_; rotate_left; (focus (intro w1 hSw; (try dsimp only at hSw); go_simp; (try with_reducible rfl))); (try simp only [Act.put, List.setIfInBounds_toArray, List.set_cons_zero, List.set_cons_succ, List.getElem_toArray, List.getElem_cons_zero, List.getElem_cons_succ])
          refine wpAnyH_take (i := 16) (v := ?_) (by simp only [List.getElem?_toArray, List.getElem?_cons_zero, List.getElem?_cons_succ]; rfl) (by kernel_rfl) (by kernel_rfl) (by kernel_rfl) (by intro _ _ _ h; exact h) (Or.inl ⟨by rfl, ?_⟩) (by assumption) ?_; rotate_left; (focus (intro w1 hSw; (try dsimp only at hSw); go_simp; (try with_reducible rfl))); (try simp only [Act.put, List.setIfInBounds_toArray, List.set_cons_zero, List.set_cons_succ, List.getElem_toArray, List.getElem_cons_zero, List.getElem_cons_succ])
          refine wpAnyH_take (i := 17) (v := ?_) (by simp only [List.getElem?_toArray, List.getElem?_cons_zero, List.getElem?_cons_succ]; rfl) (by kernel_rfl) (by kernel_rfl) (by kernel_rfl) (by intro _ _ _ h; exact h) (Or.inl ⟨by rfl, ?_⟩) (by assumption) ?_; rotate_left; (focus (intro w1 hSw; (try dsimp only at hSw); go_simp; (try with_reducible rfl))); (try simp only [Act.put, List.setIfInBounds_toArray, List.set_cons_zero, List.set_cons_succ, List.getElem_toArray, List.getElem_cons_zero, List.getElem_cons_succ])
          refine wpAnyH_take (i := 18) (v := ?_) (by simp only [List.getElem?_toArray, List.getElem?_cons_zero, List.getElem?_cons_succ]; rfl) (by kernel_rfl) (by kernel_rfl) (by kernel_rfl) (by intro _ _ _ h; exact h) (Or.inl ⟨by rfl, ?_⟩) (by assumption) ?_; rotate_left; (focus (intro w1 hSw; (try dsimp only at hSw); go_simp; (try with_reducible rfl))); (try simp only [Act.put, List.setIfInBounds_toArray, List.set_cons_zero, List.set_cons_succ, List.getElem_toArray, List.getElem_cons_zero, List.getElem_cons_succ])
          refine wpAnyH_take (i := 19) (v := ?_) (by simp only [List.getElem?_toArray, List.getElem?_cons_zero, List.getElem?_cons_succ]; rfl) (by kernel_rfl) (by kernel_rfl) (by kernel_rfl) (by intro _ _ _ h; exact h) (Or.inl ⟨by rfl, ?_⟩) (by assumption) ?_; rotate_left; (focus (intro w1 hSw; (try dsimp only at hSw); go_simp; (try with_reducible rfl))); (try simp only [Act.put, List.setIfInBounds_toArray, List.set_cons_zero, List.set_cons_succ, List.getElem_toArray, List.getElem_cons_zero, List.getElem_cons_succ])
          refine wpAnyH_done (by kernel_rfl) ?_ _
          clear hSS hHeld HS
          go_wp2_with fail
          go_roundw
          case rel => exact ⟨k + 1, HK.out, by go_num, by rw [HN.out, HT.out]; simp, HW2.out⟩
          case measure => have := HK.out; simp [RowKit.intOf]; omega
      · obtain rfl : k = l.length := by omega
        have hall : ownCnt (vals acs) ((cvs l).take l.length) = ownCnt (vals acs) (cvs l) := by rw [← cvs_len l, List.take_length]
        rw [hall]
        have HX := Lib.hid hwr
        have hc30 : ownCnt (vals acs) (cvs l) ≤ 30 := by have := ownCnt_le (vals acs) (cvs l); rw [cvs_len] at this; omega
        have HC : Hid (cntN (vals acs) (cvs l) ((vals acs).map Av.name) = ownCnt (vals acs) (cvs l)) := Lib.hid (cntN_all _ _)
        clear hall BP hwr
        generalize ownCnt (vals acs) (cvs l) = M at *
        go_wp2_with fail
        clear z0 z1 z2
        go_loopw [4, 8] (fun a i wi => ∃ k : Nat, k ≤ acs.length ∧ i = .int .i64 k ∧ a = .int .i64 (cntN (vals acs) (cvs l) (((vals acs).map Av.name).take k)) ∧ Below w2.heap.size w2 wi) (fun _ i _ => acs.length - (RowKit.intOf i).toNat)
        case atStart => exact ⟨0, Nat.zero_le _, rfl, by rw [List.take_zero, cntN_nil]; rfl, HX.out⟩
        case round =>
          obtain ⟨wi, hwiE⟩ : ∃ v, v = wr := ⟨_, rfl⟩
          subst hwiE
          obtain ⟨k, hk, rfl, rfl, hwi⟩ := hrel
          have BP := HP.out.below hwi HP.out.lt
          have k1 : (0 : Int) ≤ (k : Int) := by omega
          have z0 := BP.cell 0 (v := .slice aA acs.length ac) rfl; have z1 := BP.cell 1 (v := .slice cA caps.length cc) rfl; have z2 := BP.cell 2 (v := .slice A l.length c) rfl
          by_cases hi : k < acs.length
          · have k2 : (k : Int) < (acs.length : Int) := by omega
            obtain ⟨b, off, a, hA1, hb, hx, d0, d1, d2, d3, d4, d5, d6, d7, d8⟩ := (HB.out.st hwi).al.1.ac hi
            rw [hA1] at z0
            have hnm : ((vals acs).map Av.name)[k]? = some a.v.name := by rw [List.getElem?_map, vget hx]; rfl
            have hcl := cntN_le (vals acs) (cvs l) (((vals acs).map Av.name).take k)
            rw [cvs_len] at hcl
            have hcl30 : cntN (vals acs) (cvs l) (((vals acs).map Av.name).take k) ≤ 30 := by omega
            have HTK : Hid (((vals acs).map Av.name).take (k + 1) = ((vals acs).map Av.name).take k ++ [a.v.name]) := Lib.hid (take_snoc hnm)
            have HK := Lib.hid hi
            have HA1 := Lib.hid hA1
            have HLB := Lib.hid hb
            have HLT := Lib.hid BP.lt
            have HWI := Lib.hid hwi
            have HBP := Lib.hid BP
            have hSEN := cntN_seen (vals acs) (cvs l) (ns := ((vals acs).map Av.name).take k) (nm := a.v.name)
            have hNEW := cntN_new (vals acs) (cvs l) (ns := ((vals acs).map Av.name).take k) (nm := a.v.name)
            rw [← HTK.out] at hSEN hNEW
            have HSEN := Lib.hid hSEN
            have HNEW := Lib.hid hNEW
            generalize hCN : cntN (vals acs) (cvs l) (((vals acs).map Av.name).take k) = N at *
            generalize a.v.name = nm at *
            clear hA1 hb hx d1 d2 d3 d4 d5 d6 d7 d8 hnm hcl HTK hi BP hwi hSEN hNEW hCN
            go_wp2_with fail
            go_loopw [9, 10] (fun s j wj => ∃ m : Nat, m ≤ k ∧ j = .int .i64 m ∧ s = .bool (inNs (((vals acs).map Av.name).take m) nm) ∧ Below wi.heap.size wi wj) (fun _ j _ => k - (RowKit.intOf j).toNat)
            case atStart => exact ⟨0, Nat.zero_le _, rfl, by simp [inNs], Below.refl _ _⟩
            case round =>
              obtain ⟨wj, hwjE⟩ : ∃ v, v = wr := ⟨_, rfl⟩
              subst hwjE
              obtain ⟨m, hm, rfl, rfl, hwj⟩ := hrel
              have m1 : (0 : Int) ≤ (m : Int) := by omega
              have y0 := cell_below z0 hwj HLT.out
              have e0 := cell_below d0 hwj HLB.out
              have HJ := Lib.hid hwj
              by_cases hmi : m < k
              · have m2 : (m : Int) < (k : Int) := by omega
                have m3 : (m : Int) < (acs.length : Int) := by have := HK.out; omega
                obtain ⟨b', off', a', hA', hb', hx', f0, f1, f2, f3, f4, f5, f6, f7, f8⟩ := ((HB.out.st HWI.out).st hwj).al.1.ac (i := m) (by have := HK.out; omega)
                have hAA := HA1.out.symm.trans hA'
                injection hAA with hAA
                injection hAA with q1 q2
                subst q1 q2
                have hnm' : ((vals acs).map Av.name)[m]? = some a'.v.name := by rw [List.getElem?_map, vget hx']; rfl
                have HT := Lib.hid (inNs_tk hnm' (nm := nm))
                have HMI := Lib.hid hmi
                generalize a'.v.name = nm2 at *
                generalize inNs (((vals acs).map Av.name).take m) nm = sb at *
                clear hA' hb' hx' f1 f2 f3 f4 f5 f6 f7 f8 hnm' hwj hmi z0 z1 z2 d0
                cases sb
                · cases he : eqS nm2 nm
                  all_goals
                    rw [he] at HT
                    have he2 : (nm2.toList == nm.toList) = eqS nm2 nm := rfl
                    rw [he] at he2
                    clear he
                    go_wp2_with fail
                    go_quiet (fail)
                    go_wp2_with fail
                    go_roundw
                    case rel => exact ⟨m + 1, HMI.out, by go_num, by rw [HT.out]; rfl, below_drewN HJ.out _⟩
                    case measure => have := HMI.out; simp [RowKit.intOf]; omega
                · go_wp2_with fail
                  go_quiet (fail)
                  go_wp2_with fail
                  go_roundw
                  case rel => exact ⟨m + 1, HMI.out, by go_num, by rw [HT.out]; rfl, below_drewN HJ.out _⟩
                  case measure => have := HMI.out; simp [RowKit.intOf]; omega
              · have hmk : k = m := by omega
                subst hmk
                have HWJ := Lib.hid (HWI.out.st hwj)
                have HBQ := Lib.hid (HBP.out.below hwj HBP.out.lt)
                have HLQ : Hid (b < wj.heap.size) := Lib.hid (Nat.lt_of_lt_of_le HLB.out hwj.size)
                clear hwj hmi z0 z1 z2 d0
                cases hs : inNs (((vals acs).map Av.name).take k) nm
                · have HN2 := Lib.hid (HNEW.out hs)
                  clear hs
                  go_wp2_with fail
                  refine wp_region_held_drew (S := (fun w' : World => (Blk w' w.heap.size #[.slice aA acs.length ac, .slice cA caps.length cc, .slice A l.length c] 35 ∧ w'.cell? ⟨w.heap.size, 2, none⟩ = some (.slice A l.length c)) ∧ w'.cell? ⟨w.heap.size, 0, none⟩ = some (.slice (some ⟨b, off, none⟩) acs.length ac) ∧ w'.cell? ⟨b, off + k * 9, none⟩ = some (.string nm))) (by kernel_rfl) ?_ (fun hHeld => ?_)
                  focus exact ⟨⟨HBQ.out, HBQ.out.cell 2 rfl⟩, y0, e0⟩
                  have hSS : (fun w' : World => (Blk w' w.heap.size #[.slice aA acs.length ac, .slice cA caps.length cc, .slice A l.length c] 35 ∧ w'.cell? ⟨w.heap.size, 2, none⟩ = some (.slice A l.length c)) ∧ w'.cell? ⟨w.heap.size, 0, none⟩ = some (.slice (some ⟨b, off, none⟩) acs.length ac) ∧ w'.cell? ⟨b, off + k * 9, none⟩ = some (.string nm)) wj.drew := ⟨⟨HBQ.out.drew, HBQ.out.drew.cell 2 rfl⟩, y0, e0⟩
                  have HBQ := Lib.hid HBQ.out.drew
                  have HWJ : Hid (Below w2.heap.size w2 wj.drew) := Lib.hid (below_drewN HWJ.out 1)
                  have HLQ : Hid (b < wj.drew.heap.size) := HLQ
                  have HY : Hid ((wj.drew).cell? ⟨w.heap.size, 0, none⟩ = some (.slice (some ⟨b, off, none⟩) acs.length ac)) := Lib.hid y0
                  have HE : Hid ((wj.drew).cell? ⟨b, off + k * 9, none⟩ = some (.string nm)) := Lib.hid e0
                  clear y0 e0 HJ
                  generalize wj.drew = W0 at hSS hHeld HBQ HWJ HLQ HY HE ⊢
                  change wpAnyH _ _ _ _ _ 15 _ _ _
                  refine wpAnyH_take (i := 0) (v := ?_) (by simp only [List.getElem?_toArray, List.getElem?_cons_zero, List.getElem?_cons_succ]; rfl) (by kernel_rfl) (by kernel_rfl) (by kernel_rfl) (by intro _ _ _ h; exact h) (Or.inl ⟨by rfl, ?_⟩) (by assumption) ?_; rotate_left; (focus (intro w1 hSw; (try dsimp only at hSw); go_simp; (try with_reducible rfl))); (try simp only [Act.put, List.setIfInBounds_toArray, List.set_cons_zero, List.set_cons_succ, List.getElem_toArray, List.getElem_cons_zero, List.getElem_cons_succ])
                  refine wpAnyH_take (i := 1) (v := .agg #[.slice aA acs.length ac, .slice cA caps.length cc, .slice A l.length c]) (by simp only [List.getElem?_toArray, List.getElem?_cons_zero, List.getElem?_cons_succ]; rfl) (by kernel_rfl) (by kernel_rfl) (by kernel_rfl) (by intro _ _ _ h; exact h) (yieldsIf_boxLoad (by rfl) rfl rfl (fun _ hw => hw.1.1) ⟨_, Tryd.underlying35, by kernel_rfl⟩) (by assumption) ?_; (try simp only [Act.put, List.setIfInBounds_toArray, List.set_cons_zero, List.set_cons_succ, List.getElem_toArray, List.getElem_cons_zero, List.getElem_cons_succ])
                  refine wpAnyH_take (i := 3) (v := ?_) (by simp only [List.getElem?_toArray, List.getElem?_cons_zero, List.getElem?_cons_succ]; rfl) (by kernel_rfl) (by kernel_rfl) (by kernel_rfl) (by intro _ _ _ h; exact h) (Or.inl ⟨by rfl, ?_⟩) (by assumption) ?_; rotate_left; (focus (intro w1 hSw; (try dsimp only at hSw); go_simp; (try with_reducible rfl))); (try simp only [Act.put, List.setIfInBounds_toArray, List.set_cons_zero, List.set_cons_succ, List.getElem_toArray, List.getElem_cons_zero, List.getElem_cons_succ])
                  refine wpAnyH_take (i := 4) (v := ?_) (by simp only [List.getElem?_toArray, List.getElem?_cons_zero, List.getElem?_cons_succ]; rfl) (by kernel_rfl) (by kernel_rfl) (by kernel_rfl) (by intro _ _ _ h; exact h) (Or.inl ⟨by rfl, ?_⟩) (by assumption) ?_; rotate_left; (focus (intro w1 hSw; (try dsimp only at hSw); go_simp; (try with_reducible rfl))); (try simp only [Act.put, List.setIfInBounds_toArray, List.set_cons_zero, List.set_cons_succ, List.getElem_toArray, List.getElem_cons_zero, List.getElem_cons_succ])
                  refine wpAnyH_take (i := 5) (v := ?_) (by simp only [List.getElem?_toArray, List.getElem?_cons_zero, List.getElem?_cons_succ]; rfl) (by kernel_rfl) (by kernel_rfl) (by kernel_rfl) (by intro _ _ _ h; exact h) (Or.inl ⟨by rfl, ?_⟩) (by assumption) ?_; rotate_left; (focus (intro w1 hSw; (try dsimp only at hSw); go_simp; (try with_reducible rfl))); (try simp only [Act.put, List.setIfInBounds_toArray, List.set_cons_zero, List.set_cons_succ, List.getElem_toArray, List.getElem_cons_zero, List.getElem_cons_succ])
                  refine wpAnyH_take (i := 6) (v := ?_) (by simp only [List.getElem?_toArray, List.getElem?_cons_zero, List.getElem?_cons_succ]; rfl) (by kernel_rfl) (by kernel_rfl) (by kernel_rfl) (by intro _ _ _ h; exact h) (Or.inl ⟨by rfl, ?_⟩) (by assumption) ?_; rotate_left; (focus (intro w1 hSw; (try dsimp only at hSw); go_simp; (try with_reducible rfl))); (try simp only [Act.put, List.setIfInBounds_toArray, List.set_cons_zero, List.set_cons_succ, List.getElem_toArray, List.getElem_cons_zero, List.getElem_cons_succ])
                  refine wpAnyH_take (i := 7) (v := ?_) (by simp only [List.getElem?_toArray, List.getElem?_cons_zero, List.getElem?_cons_succ]; rfl) (by kernel_rfl) (by kernel_rfl) (by kernel_rfl) (by intro _ _ _ h; exact h) (Or.inl ⟨by rfl, ?_⟩) (by assumption) ?_; rotate_left; (focus (intro w1 hSw; (try dsimp only at hSw); go_simp; (try with_reducible rfl))); (try simp only [Act.put, List.setIfInBounds_toArray, List.set_cons_zero, List.set_cons_succ, List.getElem_toArray, List.getElem_cons_zero, List.getElem_cons_succ])
                  refine wpAnyH_take (i := 8) (v := ?_) (by simp only [List.getElem?_toArray, List.getElem?_cons_zero, List.getElem?_cons_succ]; rfl) (by kernel_rfl) (by kernel_rfl) (by kernel_rfl) (by intro _ _ _ h; exact h) (Or.inl ⟨by rfl, ?_⟩) (by assumption) ?_; rotate_left; (focus (intro w1 hSw; (try dsimp only at hSw); go_simp; (try with_reducible rfl))); (try simp only [Act.put, List.setIfInBounds_toArray, List.set_cons_zero, List.set_cons_succ, List.getElem_toArray, List.getElem_cons_zero, List.getElem_cons_succ])
                  refine wpAnyH_take (i := 9) (v := ?_) (by simp only [List.getElem?_toArray, List.getElem?_cons_zero, List.getElem?_cons_succ]; rfl) (by kernel_rfl) (by kernel_rfl) (by kernel_rfl) (by intro _ _ _ h; exact h) (Or.inl ⟨by rfl, ?_⟩) (by assumption) ?_; rotate_left; (focus (intro w1 hSw; (try dsimp only at hSw); go_simp; (try with_reducible rfl))); (try simp only [Act.put, List.setIfInBounds_toArray, List.set_cons_zero, List.set_cons_succ, List.getElem_toArray, List.getElem_cons_zero, List.getElem_cons_succ])
                  refine wpAnyH_take (i := 10) (v := ?_) (by simp only [List.getElem?_toArray, List.getElem?_cons_zero, List.getElem?_cons_succ]; rfl) (by kernel_rfl) (by kernel_rfl) (by kernel_rfl) (by intro _ _ _ h; exact h) (Or.inl ⟨by rfl, ?_⟩) (by assumption) ?_; rotate_left; (focus (intro w1 hSw; (try dsimp only at hSw); go_simp; (try with_reducible rfl))); (try simp only [Act.put, List.setIfInBounds_toArray, List.set_cons_zero, List.set_cons_succ, List.getElem_toArray, List.getElem_cons_zero, List.getElem_cons_succ])
                  refine wpAnyH_ready (rs := [2]) (by kernel_rfl) (by simp) ?_; refine AllReadyH.cons (by simp only [List.getElem?_toArray, List.getElem?_cons_zero, List.getElem?_cons_succ]; rfl) (fun K hK => ?_) AllReadyH.nil
                  rw [if_pos (by rfl)]; go_wp2_with fail
                  refine (conf_any (l := l) (A := A) ac cc c _).mono ?_
                  rintro e W4 ⟨rfl, hbn⟩
                  have HY := Lib.hid (cell_below HY.out hbn HBQ.out.lt)
                  have HE := Lib.hid (cell_below HE.out hbn HLQ.out)
                  have HBQ := Lib.hid (HBQ.out.below hbn HBQ.out.lt)
                  have HWJ := Lib.hid (HWJ.out.st hbn)
                  have HLQ : Hid (b < W4.heap.size) := Lib.hid (Nat.lt_of_lt_of_le HLQ.out hbn.size)
                  clear hbn
                  go_wp2_with fail
                  refine hK.out _ _ ?_ (fun hHeld => ?_)
                  focus exact ⟨⟨HBQ.out, HBQ.out.cell 2 rfl⟩, HY.out, HE.out⟩
                  clear hK K
                  (try simp only [Act.put, List.setIfInBounds_toArray, List.set_cons_zero, List.set_cons_succ, List.getElem_toArray, List.getElem_cons_zero, List.getElem_cons_succ])
                  refine wpAnyH_ready (rs := [11]) (by kernel_rfl) (by simp) ?_; refine AllReadyH.cons (by simp only [List.getElem?_toArray, List.getElem?_cons_zero, List.getElem?_cons_succ]; rfl) (fun K hK => ?_) AllReadyH.nil
                  rw [if_pos (by rfl)]; go_wp2_with fail
                  refine (of_any ac cc c nm (HB.out.st HWJ.out)).mono ?_
                  rintro e W5 ⟨A8, c8, r8, rfl, h8, -, -, hbn⟩
                  have hrl : r8.length = (ofL (vals acs) nm (cvs l)).length := by rw [← cvs_len, h8]
                  have hr30 : (ofL (vals acs) nm (cvs l)).length ≤ 30 := by
                    have := List.length_filter_le (isO (vals acs) nm) (cvs l)
                    rw [cvs_len] at this
                    exact Nat.le_trans this hl30
                  rw [hrl]
                  have HY := Lib.hid (cell_below HY.out hbn HBQ.out.lt)
                  have HE := Lib.hid (cell_below HE.out hbn HLQ.out)
                  have HBQ := Lib.hid (HBQ.out.below hbn HBQ.out.lt)
                  have HWJ := Lib.hid (HWJ.out.st hbn)
                  clear hbn hrl h8
                  generalize (ofL (vals acs) nm (cvs l)).length = R at *
                  have hws : IntKind.i64.wrap ((N : Int) + (R : Int)) = (N : Int) + (R : Int) := IntWalk.i64_in _ (by omega)
                  go_wp2_with fail
                  refine hK.out _ _ ?_ (fun hHeld => ?_)
                  focus exact ⟨⟨HBQ.out, HBQ.out.cell 2 rfl⟩, HY.out, HE.out⟩
                  clear hK K
                  (try simp only [Act.put, List.setIfInBounds_toArray, List.set_cons_zero, List.set_cons_succ, List.getElem_toArray, List.getElem_cons_zero, List.getElem_cons_succ])
                  refine wpAnyH_take (i := 12) (v := ?_) (by simp only [List.getElem?_toArray, List.getElem?_cons_zero, List.getElem?_cons_succ]; rfl) (by kernel_rfl) (by kernel_rfl) (by kernel_rfl) (by intro _ _ _ h; exact h) (Or.inl ⟨by rfl, ?_⟩) (by assumption) ?_; rotate_left; (focus (intro w1 hSw; (try dsimp only at hSw); go_simp; (try with_reducible rfl))); (try simp only [Act.put, List.setIfInBounds_toArray, List.set_cons_zero, List.set_cons_succ, List.getElem_toArray, List.getElem_cons_zero, List.getElem_cons_succ])
                  refine wpAnyH_take (i := 13) (v := ?_) (by simp only [List.getElem?_toArray, List.getElem?_cons_zero, List.getElem?_cons_succ]; rfl) (by kernel_rfl) (by kernel_rfl) (by kernel_rfl) (by intro _ _ _ h; exact h) (Or.inl ⟨by rfl, ?_⟩) (by assumption) ?_; rotate_left; (focus (intro w1 hSw; (try dsimp only at hSw); go_simp; (try with_reducible rfl))); (try simp only [Act.put, List.setIfInBounds_toArray, List.set_cons_zero, List.set_cons_succ, List.getElem_toArray, List.getElem_cons_zero, List.getElem_cons_succ])
                  refine wpAnyH_take (i := 14) (v := ?_) (by simp only [List.getElem?_toArray, List.getElem?_cons_zero, List.getElem?_cons_succ]; rfl) (by kernel_rfl) (by kernel_rfl) (by kernel_rfl) (by intro _ _ _ h; exact h) (Or.inl ⟨by rfl, ?_⟩) (by assumption) ?_; rotate_left; (focus (intro w1 hSw; (try dsimp only at hSw); go_simp; (try with_reducible rfl))); (try simp only [Act.put, List.setIfInBounds_toArray, List.set_cons_zero, List.set_cons_succ, List.getElem_toArray, List.getElem_cons_zero, List.getElem_cons_succ])
                  refine wpAnyH_done (by kernel_rfl) ?_ _
                  clear hSS HY HE hws
                  go_wp2_with fail
                  go_roundw
                  case rel => exact ⟨k + 1, HK.out, by go_num, by rw [HN2.out]; simp, HWJ.out⟩
                  case measure => have := HK.out; simp [RowKit.intOf]; omega
                · have HN2 := Lib.hid (HSEN.out hs)
                  clear hs
                  go_wp2_with fail
                  go_roundw
                  case rel => exact ⟨k + 1, HK.out, by go_num, by rw [HN2.out], HWJ.out⟩
                  case measure => have := HK.out; simp [RowKit.intOf]; omega
          · have hkl : k = acs.length := by omega
            subst hkl
            have hfl : ((vals acs).map Av.name).take acs.length = (vals acs).map Av.name := by
              rw [show acs.length = ((vals acs).map Av.name).length by simp [vals], List.take_length]
            rw [hfl, HC.out]
            have bW := HW.out.st hwi
            clear hfl BP hwi
            go_wp2_with fail; refine (awake_any (HM.out.st bW HM.out.1)).mono ?_; rintro e wl ⟨rfl, hbl⟩; have bL := bW.st hbl; go_wp2_with fail; go_ret; exact ⟨rfl, bL⟩
end Go.Proofs.YtlnnbkpcnhlfcaaDoor
