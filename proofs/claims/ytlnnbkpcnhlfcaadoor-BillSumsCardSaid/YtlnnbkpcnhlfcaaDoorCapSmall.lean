/- The small functions of chapter 25 and their reference, walked. -/
import Derived.Test.YtlnnbkpcnhlfcaaDoorJBox
import Derived.OwnWalk
set_option linter.unusedSimpArgs false
namespace Go.Proofs.YtlnnbkpcnhlfcaaDoor
open Go.RowKit Go.Lib

theorem okB_of {k c : Nat} {b : Bool} (h : (decide (97 ≤ c ∧ c ≤ 122) || (decide (k ≠ 0) && decide (c = 45 ∨ (48 ≤ c ∧ c ≤ 57)))) = b) : okByte k c = b := by
  rw [← h]; unfold okByte; rw [Bool.eq_iff_iff]; simp
set_option maxRecDepth 100000 in
set_option maxHeartbeats 4000000 in
theorem r1name_any (s : ByteArray) (w : World) :
    Calls Tryd.prog 108 #[.string s] w fun e w' => e = .returned (.bool (nameB s)) ∧ w' = w := by
  generalize hr : nameB s = r
  by_cases h0 : s.size < 1
  · have R := Lib.hid (show r = false by rw [← hr, nameB, show decide (1 ≤ s.size) = false from decide_eq_false (by omega)]; rfl)
    clear hr
    go_enter Tryd.func108, Tryd.ntmps108
    go_wp2
    all_goals (go_ret; rw [R.out]; exact ⟨rfl, rfl⟩)
  · by_cases h12 : 12 < s.size
    · have R := Lib.hid (show r = false by rw [← hr, nameB, show decide (s.size ≤ 12) = false from decide_eq_false (by omega)]; simp)
      clear hr
      go_enter Tryd.func108, Tryd.ntmps108
      go_wp2
      all_goals (go_ret; rw [R.out]; exact ⟨rfl, rfl⟩)
    · have HR := Lib.hid hr
      clear hr
      go_enter Tryd.func108, Tryd.ntmps108
      go_wp2
      go_loopw [3] (fun i wr => ∃ k : Nat, k ≤ s.size ∧ i = .int .i64 k ∧ wr = w ∧ Hid (nameTo s k)) (fun i _ => s.size - (RowKit.intOf i).toNat)
      case atStart => exact ⟨0, Nat.zero_le _, rfl, rfl, fun i _ h => absurd h (Nat.not_lt_zero _)⟩
      case round =>
        obtain ⟨k, hkl, rfl, rfl, HN⟩ := hrel
        by_cases hk : k < s.size
        · obtain ⟨c, hc⟩ : ∃ c : Nat, (s[k]'hk).toNat = c := ⟨_, rfl⟩
          have HY := Lib.hid (fun (q : okByte k c = true) => nameTo_succ HN.out hk (by rw [hc]; exact q))
          have HF := Lib.hid (fun (q : okByte k c = false) => (show r = false by rw [← HR.out, nameB_no hk (by rw [hc]; exact q)]))
          have hz : (c < 45) ∨ (c = 45) ∨ (45 < c ∧ c < 48) ∨ (48 ≤ c ∧ c ≤ 57) ∨ (57 < c ∧ c < 97) ∨ (97 ≤ c ∧ c ≤ 122) ∨ (122 < c) := by omega
          have hkz : ((k : Int) == 0) = true ∨ ((k : Int) == 0) = false := by cases ((k : Int) == 0) <;> simp
          have HKT := Lib.hid (fun (q : ((k : Int) == 0) = true) => (show k = 0 by simpa using q))
          have HKF := Lib.hid (fun (q : ((k : Int) == 0) = false) => (show k ≠ 0 by simpa using q))
          have HKS := Lib.hid hk
          rcases hz with hz | hz | hz | hz | hz | hz | hz
          all_goals
            have z45 : c = c := rfl
            rcases hkz with hkz | hkz
          case inr.inr.inr.inr.inr.inl.inl | inr.inr.inr.inr.inr.inl.inr => (have R := Lib.hid (HY.out (okB_of (by simp; omega)))); clear z45 HY HF; go_wp2; all_goals (first | (exfalso; omega) | (exfalso; rename_i qx; simp at qx; omega) | (go_roundw; (case rel => exact ⟨k + 1, HKS.out, by go_num, by first | rfl | trivial, R⟩); (case measure => have := HKS.out; simp [RowKit.intOf]; omega)))
          case inr.inl.inr | inr.inr.inr.inl.inr => (have R := Lib.hid (HY.out (okB_of (by have := HKF.out hkz; simp; omega)))); clear z45 HY HF; go_wp2; all_goals (first | (exfalso; omega) | (exfalso; rename_i qx; simp at qx; omega) | (go_roundw; (case rel => exact ⟨k + 1, HKS.out, by go_num, by first | rfl | trivial, R⟩); (case measure => have := HKS.out; simp [RowKit.intOf]; omega)))
          all_goals (have R := Lib.hid (HF.out (okB_of (by first | (have := HKT.out hkz; simp; omega) | (simp; omega))))); clear z45 HY HF; go_wp2; all_goals (first | (exfalso; omega) | (go_ret; rw [R.out]; exact ⟨rfl, rfl⟩) | (exfalso; rename_i qx; simp at qx; omega))
        · obtain rfl : k = s.size := by omega
          have R := Lib.hid (show r = true by rw [← HR.out]; exact (nameB_iff s).2 ⟨by omega, by omega, HN.out⟩)
          go_wp2
          go_ret
          rw [R.out]
          exact ⟨rfl, rfl⟩

set_option maxRecDepth 100000 in
theorem cmat_any (c : Cp) (x : CV) (lA : Option Addr) (lc : Nat) (w : World) :
    Calls Tryd.prog 70 #[CpV c, CHV x lA lc] w fun e w' => e = .returned (.bool (matB c x)) ∧ Below w.heap.size w w' := by
  unfold matB; obtain ⟨nm, sy, dy, ct⟩ := c; obtain ⟨key, veh, sys, cls, tm, lns, cn⟩ := x; simp only [CpV, CHV]; obtain ⟨Y1, hY1⟩ : ∃ Y, w.alloc (.cells #[.string nm, .string sy, .int .i64 dy, .int .i64 ct] 97) = Y := ⟨_, rfl⟩; (have s1 : Y1.heap.size = w.heap.size + 1 := by rw [← hY1]; simp); obtain ⟨Y, hY⟩ : ∃ Y, Y1.alloc (.cells #[.string key, .string veh, .string sys, .int .i64 cls, .int .i64 tm, .slice lA lns.length lc, .int .i64 cn] 82) = Y := ⟨_, rfl⟩; have BP : Blk Y w.heap.size #[.string nm, .string sy, .int .i64 dy, .int .i64 ct] 97 := (by rw [← hY, ← hY1]; exact (Blk.new w _ _).alloc _); have BC : Blk Y (w.heap.size + 1) #[.string key, .string veh, .string sys, .int .i64 cls, .int .i64 tm, .slice lA lns.length lc, .int .i64 cn] 82 := (by rw [← hY, ← s1]; exact Blk.new Y1 _ _); have bW : Below w.heap.size w Y := (by rw [← hY, ← hY1]; exact ((Below.refl _ w).al _).al _); have c2 := BC.cell 2 (v := .string sys) rfl; have p0 := BP.cell 0 (v := .string nm) rfl; have p1 := BP.cell 1 (v := .string sy) rfl; have p2 := BP.cell 2 (v := .int .i64 dy) rfl; have p3 := BP.cell 3 (v := .int .i64 ct) rfl; cases he : emp sy
  · obtain ⟨n1, n2, n3⟩ := toList_neE he
    cases hq : eqS sy sys
    all_goals
      have hq2 : (sy.toList == sys.toList) = _ := hq
      clear hq he n1
      go_enter Tryd.func70, Tryd.ntmps70
      go_wp2_with fail
      go_ret
      exact ⟨rfl, bW⟩
  · obtain ⟨n1, n2, n3⟩ := toList_eE he
    clear he n1
    go_enter Tryd.func70, Tryd.ntmps70
    go_wp2_with fail
    go_ret
    exact ⟨rfl, bW⟩
set_option maxRecDepth 100000 in
theorem rmat_any (c : Cp) (x : CV) (lA : Option Addr) (lc : Nat) (w : World) :
    Calls Tryd.prog 75 #[CpV c, CHV x lA lc] w fun e w' => e = .returned (.bool (matB c x)) ∧ Below w.heap.size w w' := by
  unfold matB; obtain ⟨nm, sy, dy, ct⟩ := c; obtain ⟨key, veh, sys, cls, tm, lns, cn⟩ := x; simp only [CpV, CHV]; obtain ⟨Y1, hY1⟩ : ∃ Y, w.alloc (.cells #[.string nm, .string sy, .int .i64 dy, .int .i64 ct] 97) = Y := ⟨_, rfl⟩; (have s1 : Y1.heap.size = w.heap.size + 1 := by rw [← hY1]; simp); obtain ⟨Y, hY⟩ : ∃ Y, Y1.alloc (.cells #[.string key, .string veh, .string sys, .int .i64 cls, .int .i64 tm, .slice lA lns.length lc, .int .i64 cn] 82) = Y := ⟨_, rfl⟩; have BP : Blk Y w.heap.size #[.string nm, .string sy, .int .i64 dy, .int .i64 ct] 97 := (by rw [← hY, ← hY1]; exact (Blk.new w _ _).alloc _); have BC : Blk Y (w.heap.size + 1) #[.string key, .string veh, .string sys, .int .i64 cls, .int .i64 tm, .slice lA lns.length lc, .int .i64 cn] 82 := (by rw [← hY, ← s1]; exact Blk.new Y1 _ _); have bW : Below w.heap.size w Y := (by rw [← hY, ← hY1]; exact ((Below.refl _ w).al _).al _); have c2 := BC.cell 2 (v := .string sys) rfl; have p0 := BP.cell 0 (v := .string nm) rfl; have p1 := BP.cell 1 (v := .string sy) rfl; have p2 := BP.cell 2 (v := .int .i64 dy) rfl; have p3 := BP.cell 3 (v := .int .i64 ct) rfl; cases he : emp sy
  · obtain ⟨n1, n2, n3⟩ := toList_neE he
    cases hq : eqS sy sys
    all_goals
      have hq2 : (sy.toList == sys.toList) = _ := hq
      clear hq he n1
      go_enter Tryd.func75, Tryd.ntmps75
      go_wp2_with fail
      go_ret
      exact ⟨rfl, bW⟩
  · obtain ⟨n1, n2, n3⟩ := toList_eE he
    clear he n1
    go_enter Tryd.func75, Tryd.ntmps75
    go_wp2_with fail
    go_ret
    exact ⟨rfl, bW⟩
theorem ram_any (n : Int) (w : World) : Calls Tryd.prog 91 #[.int .i64 n] w fun e w' => e = .returned (.bool (amB n)) ∧ w' = w := by
  unfold amB
  go_enter Tryd.func91, Tryd.ntmps91
  go_wp2
  all_goals (go_ret; exact ⟨ret_b (by rw [Bool.eq_iff_iff]; simp <;> omega), rfl⟩)

set_option maxRecDepth 100000 in
set_option maxHeartbeats 4000000 in
theorem cper_any (nm sy : ByteArray) (dy ct t : Int) {w : World} (hw : Mon w) :
    Calls Tryd.prog 64 #[.agg #[.string nm, .string sy, .int .i64 dy, .int .i64 ct], .int .i64 t] w fun e w' => e = .returned (.int .i64 (perN dy t)) ∧ Below w.heap.size w w' := by
  unfold perN monN monD
  have CD := Lib.hid (fun (X : World) => cday_any t X)
  obtain ⟨Y, hY⟩ : ∃ Y, w.alloc (.cells #[.string nm, .string sy, .int .i64 dy, .int .i64 ct] 97) = Y := ⟨_, rfl⟩; have bW : Below w.heap.size w Y := (by rw [← hY]; exact (Below.refl _ w).al _); have BP : Blk Y w.heap.size #[.string nm, .string sy, .int .i64 dy, .int .i64 ct] 97 := (by rw [← hY]; exact Blk.new w _ _)
  have HM : Hid (Mon Y) := Lib.hid (hw.st bW hw.1)
  have CT := Lib.hid (cdate_any (dayN t) HM.out)
  have hr : dayN t = -1 ∨ 0 ≤ dayN t := by unfold dayN; split <;> omega
  have p0 := BP.cell 0 (v := .string nm) rfl; have p1 := BP.cell 1 (v := .string sy) rfl; have p2 := BP.cell 2 (v := .int .i64 dy) rfl; have p3 := BP.cell 3 (v := .int .i64 ct) rfl
  generalize dayN t = d at *
  clear hw HM
  by_cases h0 : d < 0
  · rw [if_neg (by omega : ¬ (0 ≤ d ∧ d < 795364))]
    have R : Hid ((if dy = 1 then d else if dy = 0 then -1 else -1) = -1) := Lib.hid (by split <;> (try split) <;> omega)
    rw [R.out]
    clear CT R
    go_enter Tryd.func64, Tryd.ntmps64
    go_wp2_with fail
    refine (CD.out _).mono ?_
    rintro e w' ⟨rfl, rfl⟩
    go_wp2_with fail
    go_ret
    exact ⟨rfl, bW⟩
  · by_cases hd1 : dy = 1
    · subst hd1
      rw [if_pos rfl]
      clear CT
      go_enter Tryd.func64, Tryd.ntmps64
      go_wp2_with fail
      refine (CD.out _).mono ?_
      rintro e w' ⟨rfl, rfl⟩
      go_wp2_with fail
      go_ret
      exact ⟨rfl, bW⟩
    · rw [if_neg hd1]
      have k1 : (dy == 1) = false := by simp; omega
      by_cases hd0 : dy = 0
      · subst hd0
        rw [if_pos rfl]
        by_cases h1 : d < 795364
        · rw [if_pos (by omega)]
          unfold dateV at CT
          rw [if_pos (by omega)] at CT
          have hm := month_rng (by omega : 0 ≤ d) h1
          generalize (ymd d).1 = n at *
          generalize (ymd d).2.1 = m at *
          generalize (ymd d).2.2 = r at *
          obtain ⟨hn, hm⟩ := hm
          clear hd1
          go_enter Tryd.func64, Tryd.ntmps64
          go_wp2_with fail
          refine (CD.out _).mono ?_
          rintro e w' ⟨rfl, rfl⟩
          go_wp2_with fail
          refine CT.out.mono ?_
          rintro e w' ⟨rfl, rfl⟩
          go_wp2_with fail
          go_ret
          exact ⟨ret_i (by omega), bW⟩
        · rw [if_neg (by omega)]
          unfold dateV at CT
          rw [if_neg (by omega)] at CT
          clear hd1
          go_enter Tryd.func64, Tryd.ntmps64
          go_wp2_with fail
          refine (CD.out _).mono ?_
          rintro e w' ⟨rfl, rfl⟩
          go_wp2_with fail
          refine CT.out.mono ?_
          rintro e w' ⟨rfl, rfl⟩
          go_wp2_with fail
          go_ret
          exact ⟨rfl, bW⟩
      · rw [if_neg hd0]
        have k0 : (dy == 0) = false := by simp; omega
        clear CT
        go_enter Tryd.func64, Tryd.ntmps64
        go_wp2_with fail
        refine (CD.out _).mono ?_
        rintro e w' ⟨rfl, rfl⟩
        go_wp2_with fail
        go_ret
        exact ⟨rfl, bW⟩

set_option maxRecDepth 100000 in
set_option maxHeartbeats 4000000 in
theorem rper_any (nm sy : ByteArray) (dy ct t : Int) (w : World) :
    Calls Tryd.prog 93 #[.agg #[.string nm, .string sy, .int .i64 dy, .int .i64 ct], .int .i64 t] w fun e w' => e = .returned (.int .i64 (perN dy t)) ∧ Below w.heap.size w w' := by
  unfold perN monN monD
  have CD := Lib.hid (fun (X : World) => rday_any t X)
  obtain ⟨Y, hY⟩ : ∃ Y, w.alloc (.cells #[.string nm, .string sy, .int .i64 dy, .int .i64 ct] 97) = Y := ⟨_, rfl⟩; have bW : Below w.heap.size w Y := (by rw [← hY]; exact (Below.refl _ w).al _); have BP : Blk Y w.heap.size #[.string nm, .string sy, .int .i64 dy, .int .i64 ct] 97 := (by rw [← hY]; exact Blk.new w _ _)
  have CT := Lib.hid (fun (X : World) => rdate_any (dayN t) X)
  have p0 := BP.cell 0 (v := .string nm) rfl; have p1 := BP.cell 1 (v := .string sy) rfl; have p2 := BP.cell 2 (v := .int .i64 dy) rfl; have p3 := BP.cell 3 (v := .int .i64 ct) rfl
  generalize dayN t = d at *
  by_cases hd1 : dy = 1
  · subst hd1
    rw [if_pos rfl]
    clear CT
    go_enter Tryd.func93, Tryd.ntmps93
    go_wp2_with fail
    refine (CD.out _).mono ?_
    rintro e w' ⟨rfl, rfl⟩
    go_wp2_with fail
    go_ret
    exact ⟨rfl, bW⟩
  · rw [if_neg hd1]
    have k1 : (dy == 1) = false := by simp; omega
    by_cases h1 : 0 ≤ d ∧ d < 795364
    · rw [if_pos h1]
      unfold dateV at CT
      rw [if_pos h1] at CT
      have hm := month_rng h1.1 h1.2
      generalize (ymd d).1 = n at *
      generalize (ymd d).2.1 = m at *
      generalize (ymd d).2.2 = r at *
      obtain ⟨hn, hm⟩ := hm
      have kn : ((2001 + (n : Int)) == 0) = false := by simp; omega
      by_cases hd0 : dy = 0
      · subst hd0
        rw [if_pos rfl]
        clear hd1 h1
        go_enter Tryd.func93, Tryd.ntmps93
        go_wp2_with fail
        refine (CD.out _).mono ?_
        rintro e w' ⟨rfl, rfl⟩
        go_wp2_with fail
        refine (CT.out _).mono ?_
        rintro e w' ⟨rfl, rfl⟩
        go_wp2_with fail
        go_ret
        exact ⟨ret_i (by omega), bW⟩
      · rw [if_neg hd0]
        have k0 : (dy != 0) = true := by simp; omega
        clear hd1 h1
        go_enter Tryd.func93, Tryd.ntmps93
        go_wp2_with fail
        refine (CD.out _).mono ?_
        rintro e w' ⟨rfl, rfl⟩
        go_wp2_with fail
        refine (CT.out _).mono ?_
        rintro e w' ⟨rfl, rfl⟩
        go_wp2_with fail
        go_ret
        exact ⟨rfl, bW⟩
    · rw [if_neg h1]
      unfold dateV at CT
      rw [if_neg h1] at CT
      have R : Hid ((if dy = 0 then (-1 : Int) else -1) = -1) := Lib.hid (by split <;> rfl)
      rw [R.out]
      clear hd1 h1 R
      go_enter Tryd.func93, Tryd.ntmps93
      go_wp2_with fail
      refine (CD.out _).mono ?_
      rintro e w' ⟨rfl, rfl⟩
      go_wp2_with fail
      refine (CT.out _).mono ?_
      rintro e w' ⟨rfl, rfl⟩
      go_wp2_with fail
      all_goals (go_ret; exact ⟨rfl, bW⟩)
end Go.Proofs.YtlnnbkpcnhlfcaaDoor
