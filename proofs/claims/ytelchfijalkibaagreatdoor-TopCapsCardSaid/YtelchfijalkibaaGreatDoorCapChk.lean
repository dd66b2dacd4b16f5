/- cap.Check and the reference's, walked. -/
import Derived.Test.YtelchfijalkibaaGreatDoorJAccEnc
set_option linter.unusedSimpArgs false
namespace Go.Proofs.YtelchfijalkibaaGreatDoor
open Go.RowKit Go.Lib

/-- the rest of a cap's error -/
def capT (dy ct : Int) : Int := if dy ≠ 0 ∧ dy ≠ 1 then 1 else if cmB ct = false then 13 else 0
theorem capE_6a {nm sy : ByteArray} {dy ct : Int} (h : nameB nm = false) : capE ⟨nm, sy, dy, ct⟩ = 6 := by unfold capE; rw [if_pos (.inl h)]
theorem capE_6b {nm sy : ByteArray} {dy ct : Int} (h : emp sy = false) (h2 : nameB sy = false) : capE ⟨nm, sy, dy, ct⟩ = 6 := by unfold capE; rw [if_pos (.inr ⟨h, h2⟩)]
theorem capE_T {nm sy : ByteArray} {dy ct : Int} (h : nameB nm = true) (h2 : emp sy = true ∨ nameB sy = true) : capE ⟨nm, sy, dy, ct⟩ = capT dy ct := by
  unfold capE capT
  rw [if_neg (by rintro (q | ⟨q1, q2⟩); · rw [h] at q; cases q
                 · rcases h2 with h2 | h2
                   · rw [h2] at q1; cases q1
                   · rw [h2] at q2; cases q2)]

set_option maxRecDepth 100000 in
set_option maxHeartbeats 8000000 in
theorem ccheck_any (nm sy : ByteArray) (dy ct : Int) (w : World) :
    Calls Tryz.prog 28 #[.agg #[.string nm, .string sy, .int .i64 dy, .int .i64 ct]] w fun e w' => e = .returned (.int .i64 (capE ⟨nm, sy, dy, ct⟩)) ∧ Below w.heap.size w w' := by
  have CN := Lib.hid (fun (X : World) => name_any nm X)
  have CS := Lib.hid (fun (X : World) => name_any sy X)
  obtain ⟨Y, hY⟩ : ∃ Y, w.alloc (.cells #[.string nm, .string sy, .int .i64 dy, .int .i64 ct] 65) = Y := ⟨_, rfl⟩; have bW : Below w.heap.size w Y := (by rw [← hY]; exact (Below.refl _ w).al _); have BP : Blk Y w.heap.size #[.string nm, .string sy, .int .i64 dy, .int .i64 ct] 65 := (by rw [← hY]; exact Blk.new w _ _)
  have p0 := BP.cell 0 (v := .string nm) rfl; have p1 := BP.cell 1 (v := .string sy) rfl; have p2 := BP.cell 2 (v := .int .i64 dy) rfl; have p3 := BP.cell 3 (v := .int .i64 ct) rfl
  cases hn : nameB nm
  · rw [capE_6a hn]
    rw [hn] at CN
    clear CS hn
    go_enter Tryz.func28, Tryz.ntmps28
    go_wp2_with fail
    refine (CN.out _).mono ?_
    rintro e w2 ⟨rfl, hbn⟩
    have bW := bW.st hbn; have BP := BP.below hbn BP.lt; have p0 := BP.cell 0 (v := .string nm) rfl; have p1 := BP.cell 1 (v := .string sy) rfl; have p2 := BP.cell 2 (v := .int .i64 dy) rfl; have p3 := BP.cell 3 (v := .int .i64 ct) rfl
    go_wp2_with fail
    go_ret
    exact ⟨rfl, bW⟩
  · rw [hn] at CN
    cases he : emp sy
    · obtain ⟨n1, n2, n3⟩ := toList_neE he
      cases hs : nameB sy
      · rw [capE_6b he hs]
        rw [hs] at CS
        clear he hs hn n1
        go_enter Tryz.func28, Tryz.ntmps28
        go_wp2_with fail
        refine (CN.out _).mono ?_
        rintro e w2 ⟨rfl, hbn⟩
        have bW := bW.st hbn; have BP := BP.below hbn BP.lt; have p0 := BP.cell 0 (v := .string nm) rfl; have p1 := BP.cell 1 (v := .string sy) rfl; have p2 := BP.cell 2 (v := .int .i64 dy) rfl; have p3 := BP.cell 3 (v := .int .i64 ct) rfl
        go_wp2_with fail
        refine (CS.out _).mono ?_
        rintro e w3 ⟨rfl, hbn⟩
        have bW := bW.st hbn; have BP := BP.below hbn BP.lt; have p0 := BP.cell 0 (v := .string nm) rfl; have p1 := BP.cell 1 (v := .string sy) rfl; have p2 := BP.cell 2 (v := .int .i64 dy) rfl; have p3 := BP.cell 3 (v := .int .i64 ct) rfl
        go_wp2_with fail
        go_ret
        exact ⟨rfl, bW⟩
      · rw [capE_T hn (.inr hs)]
        rw [hs] at CS
        clear he hs hn n1
        go_enter Tryz.func28, Tryz.ntmps28
        go_wp2_with fail
        refine (CN.out _).mono ?_
        rintro e w2 ⟨rfl, hbn⟩
        have bW := bW.st hbn; have BP := BP.below hbn BP.lt; have p0 := BP.cell 0 (v := .string nm) rfl; have p1 := BP.cell 1 (v := .string sy) rfl; have p2 := BP.cell 2 (v := .int .i64 dy) rfl; have p3 := BP.cell 3 (v := .int .i64 ct) rfl
        go_wp2_with fail
        refine (CS.out _).mono ?_
        rintro e w3 ⟨rfl, hbn⟩
        have bW := bW.st hbn; have BP := BP.below hbn BP.lt; have p0 := BP.cell 0 (v := .string nm) rfl; have p1 := BP.cell 1 (v := .string sy) rfl; have p2 := BP.cell 2 (v := .int .i64 dy) rfl; have p3 := BP.cell 3 (v := .int .i64 ct) rfl
        (by_cases d0 : dy = 0 ∨ dy = 1); (focus (by_cases a1 : ct < 0); (focus (have R : Hid (capT dy ct = 13) := Lib.hid (by unfold capT cmB; rw [if_neg (by omega), if_pos (by simp; omega)])); clear CN; rcases d0 with rfl | rfl; all_goals (go_wp2_with fail; all_goals (first | (go_ret; exact ⟨ret_i R.out.symm, bW⟩) | (exfalso; omega)))); (focus (by_cases a2 : 1125899906842624 < ct); (focus (have R : Hid (capT dy ct = 13) := Lib.hid (by unfold capT cmB; rw [if_neg (by omega), if_pos (by simp; omega)])); clear CN; rcases d0 with rfl | rfl; all_goals (go_wp2_with fail; all_goals (first | (go_ret; exact ⟨ret_i R.out.symm, bW⟩) | (exfalso; omega)))); (focus (have R : Hid (capT dy ct = 0) := Lib.hid (by unfold capT cmB; rw [if_neg (by omega), if_neg (by simp; omega)])); clear CN; rcases d0 with rfl | rfl; all_goals (go_wp2_with fail; all_goals (first | (go_ret; exact ⟨ret_i R.out.symm, bW⟩) | (exfalso; omega)))))); (focus (have R : Hid (capT dy ct = 1) := Lib.hid (by unfold capT; rw [if_pos (by omega)])); (have k0 : (dy != 0) = true := by simp; omega); (have k1 : (dy != 1) = true := by simp; omega); clear CN; (go_wp2_with fail; all_goals (first | (go_ret; exact ⟨ret_i R.out.symm, bW⟩) | (exfalso; omega))))
    · obtain ⟨n1, n2, n3⟩ := toList_eE he
      rw [capE_T hn (.inl he)]
      clear he hn n1 CS
      go_enter Tryz.func28, Tryz.ntmps28
      go_wp2_with fail
      refine (CN.out _).mono ?_
      rintro e w2 ⟨rfl, hbn⟩
      have bW := bW.st hbn; have BP := BP.below hbn BP.lt; have p0 := BP.cell 0 (v := .string nm) rfl; have p1 := BP.cell 1 (v := .string sy) rfl; have p2 := BP.cell 2 (v := .int .i64 dy) rfl; have p3 := BP.cell 3 (v := .int .i64 ct) rfl
      (by_cases d0 : dy = 0 ∨ dy = 1); (focus (by_cases a1 : ct < 0); (focus (have R : Hid (capT dy ct = 13) := Lib.hid (by unfold capT cmB; rw [if_neg (by omega), if_pos (by simp; omega)])); clear CN; rcases d0 with rfl | rfl; all_goals (go_wp2_with fail; all_goals (first | (go_ret; exact ⟨ret_i R.out.symm, bW⟩) | (exfalso; omega)))); (focus (by_cases a2 : 1125899906842624 < ct); (focus (have R : Hid (capT dy ct = 13) := Lib.hid (by unfold capT cmB; rw [if_neg (by omega), if_pos (by simp; omega)])); clear CN; rcases d0 with rfl | rfl; all_goals (go_wp2_with fail; all_goals (first | (go_ret; exact ⟨ret_i R.out.symm, bW⟩) | (exfalso; omega)))); (focus (have R : Hid (capT dy ct = 0) := Lib.hid (by unfold capT cmB; rw [if_neg (by omega), if_neg (by simp; omega)])); clear CN; rcases d0 with rfl | rfl; all_goals (go_wp2_with fail; all_goals (first | (go_ret; exact ⟨ret_i R.out.symm, bW⟩) | (exfalso; omega)))))); (focus (have R : Hid (capT dy ct = 1) := Lib.hid (by unfold capT; rw [if_pos (by omega)])); (have k0 : (dy != 0) = true := by simp; omega); (have k1 : (dy != 1) = true := by simp; omega); clear CN; (go_wp2_with fail; all_goals (first | (go_ret; exact ⟨ret_i R.out.symm, bW⟩) | (exfalso; omega))))

set_option maxRecDepth 100000 in
set_option maxHeartbeats 8000000 in
theorem rcheck25_any (nm sy : ByteArray) (dy ct : Int) (w : World) :
    Calls Tryz.prog 15 #[.agg #[.string nm, .string sy, .int .i64 dy, .int .i64 ct]] w fun e w' => e = .returned (.int .i64 (capE ⟨nm, sy, dy, ct⟩)) ∧ Below w.heap.size w w' := by
  have CN := Lib.hid (fun (X : World) => r1name_any nm X)
  have CS := Lib.hid (fun (X : World) => r1name_any sy X)
  have CA := Lib.hid (fun (X : World) => ram_any ct X)
  obtain ⟨Y, hY⟩ : ∃ Y, w.alloc (.cells #[.string nm, .string sy, .int .i64 dy, .int .i64 ct] 65) = Y := ⟨_, rfl⟩; have bW : Below w.heap.size w Y := (by rw [← hY]; exact (Below.refl _ w).al _); have BP : Blk Y w.heap.size #[.string nm, .string sy, .int .i64 dy, .int .i64 ct] 65 := (by rw [← hY]; exact Blk.new w _ _)
  have p0 := BP.cell 0 (v := .string nm) rfl; have p1 := BP.cell 1 (v := .string sy) rfl; have p2 := BP.cell 2 (v := .int .i64 dy) rfl; have p3 := BP.cell 3 (v := .int .i64 ct) rfl
  cases hn : nameB nm
  · rw [capE_6a hn]
    rw [hn] at CN
    clear CS hn
    go_enter Tryz.func15, Tryz.ntmps15
    go_wp2_with fail
    refine (CN.out _).mono ?_
    rintro e w2 ⟨rfl, rfl⟩
    go_wp2_with fail
    go_ret
    exact ⟨rfl, bW⟩
  · rw [hn] at CN
    cases he : emp sy
    · obtain ⟨n1, n2, n3⟩ := toList_neE he
      cases hs : nameB sy
      · rw [capE_6b he hs]
        rw [hs] at CS
        clear he hs hn n1
        go_enter Tryz.func15, Tryz.ntmps15
        go_wp2_with fail
        refine (CN.out _).mono ?_
        rintro e w2 ⟨rfl, rfl⟩
        go_wp2_with fail
        refine (CS.out _).mono ?_
        rintro e w3 ⟨rfl, rfl⟩
        go_wp2_with fail
        go_ret
        exact ⟨rfl, bW⟩
      · rw [capE_T hn (.inr hs)]
        rw [hs] at CS
        clear he hs hn n1
        go_enter Tryz.func15, Tryz.ntmps15
        go_wp2_with fail
        refine (CN.out _).mono ?_
        rintro e w2 ⟨rfl, rfl⟩
        go_wp2_with fail
        refine (CS.out _).mono ?_
        rintro e w3 ⟨rfl, rfl⟩
        (by_cases d0 : dy = 0 ∨ dy = 1); (focus (cases ha : cmB ct); (focus (have R : Hid (capT dy ct = 13) := Lib.hid (by unfold capT; rw [if_neg (by omega), if_pos ha])); rw [ha] at CA; clear CN ha; rcases d0 with rfl | rfl; all_goals (go_wp2_with fail; all_goals (first | (go_ret; exact ⟨ret_i R.out.symm, bW⟩) | (refine (CA.out _).mono ?_; rintro e w7 ⟨rfl, rfl⟩; go_wp2_with fail; go_ret; exact ⟨ret_i R.out.symm, bW⟩)))); (focus (have R : Hid (capT dy ct = 0) := Lib.hid (by unfold capT; rw [if_neg (by omega), if_neg (by rw [ha]; simp)])); rw [ha] at CA; clear CN ha; rcases d0 with rfl | rfl; all_goals (go_wp2_with fail; all_goals (first | (go_ret; exact ⟨ret_i R.out.symm, bW⟩) | (refine (CA.out _).mono ?_; rintro e w7 ⟨rfl, rfl⟩; go_wp2_with fail; go_ret; exact ⟨ret_i R.out.symm, bW⟩))))); (focus (have R : Hid (capT dy ct = 1) := Lib.hid (by unfold capT; rw [if_pos (by omega)])); (have k0 : (dy != 0) = true := by simp; omega); (have k1 : (dy != 1) = true := by simp; omega); clear CN; go_wp2_with fail; all_goals (first | (go_ret; exact ⟨ret_i R.out.symm, bW⟩) | (refine (CA.out _).mono ?_; rintro e w7 ⟨rfl, rfl⟩; go_wp2_with fail; go_ret; exact ⟨ret_i R.out.symm, bW⟩)))
    · obtain ⟨n1, n2, n3⟩ := toList_eE he
      rw [capE_T hn (.inl he)]
      clear he hn n1 CS
      go_enter Tryz.func15, Tryz.ntmps15
      go_wp2_with fail
      refine (CN.out _).mono ?_
      rintro e w2 ⟨rfl, rfl⟩
      (by_cases d0 : dy = 0 ∨ dy = 1); (focus (cases ha : cmB ct); (focus (have R : Hid (capT dy ct = 13) := Lib.hid (by unfold capT; rw [if_neg (by omega), if_pos ha])); rw [ha] at CA; clear CN ha; rcases d0 with rfl | rfl; all_goals (go_wp2_with fail; all_goals (first | (go_ret; exact ⟨ret_i R.out.symm, bW⟩) | (refine (CA.out _).mono ?_; rintro e w7 ⟨rfl, rfl⟩; go_wp2_with fail; go_ret; exact ⟨ret_i R.out.symm, bW⟩)))); (focus (have R : Hid (capT dy ct = 0) := Lib.hid (by unfold capT; rw [if_neg (by omega), if_neg (by rw [ha]; simp)])); rw [ha] at CA; clear CN ha; rcases d0 with rfl | rfl; all_goals (go_wp2_with fail; all_goals (first | (go_ret; exact ⟨ret_i R.out.symm, bW⟩) | (refine (CA.out _).mono ?_; rintro e w7 ⟨rfl, rfl⟩; go_wp2_with fail; go_ret; exact ⟨ret_i R.out.symm, bW⟩))))); (focus (have R : Hid (capT dy ct = 1) := Lib.hid (by unfold capT; rw [if_pos (by omega)])); (have k0 : (dy != 0) = true := by simp; omega); (have k1 : (dy != 1) = true := by simp; omega); clear CN; go_wp2_with fail; all_goals (first | (go_ret; exact ⟨ret_i R.out.symm, bW⟩) | (refine (CA.out _).mono ?_; rintro e w7 ⟨rfl, rfl⟩; go_wp2_with fail; go_ret; exact ⟨ret_i R.out.symm, bW⟩)))
end Go.Proofs.YtelchfijalkibaaGreatDoor
