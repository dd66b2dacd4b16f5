/- Joined texts: CapSmall, CapChk, FirstI. -/
import Derived.Test.YtlnnbkpcnhlfcaaDoorJBox
import Derived.OwnWalk
import Derived.Test.YtlnnbkpcnhlfcaaDoorJDevEnc
import Derived.Test.YtlnnbkpcnhlfcaaDoorJCapMap
import Derived.Test.YtlnnbkpcnhlfcaaDoorJInts
/- The small functions of chapter 25 and their reference, walked. -/
set_option linter.unusedSimpArgs false
namespace Go.Proofs.YtlnnbkpcnhlfcaaDoor
open Go.RowKit Go.Lib

theorem okB_of {k c : Nat} {b : Bool} (h : (decide (97 ≤ c ∧ c ≤ 122) || (decide (k ≠ 0) && decide (c = 45 ∨ (48 ≤ c ∧ c ≤ 57)))) = b) : okByte k c = b := by
  rw [← h]; unfold okByte; rw [Bool.eq_iff_iff]; simp
set_option maxRecDepth 100000 in
set_option maxHeartbeats 4000000 in
theorem r1name_any (s : ByteArray) (w : World) :
    Calls Tryd.prog 108 #[.string s] w fun e w' => e = .returned (.bool (nameB s)) ∧ w' = w := by
  generalize hr : nameB s = r
  by_cases h0 : s.size < 1
  · have R := Lib.hid (show r = false by rw [← hr, nameB, show decide (1 ≤ s.size) = false from decide_eq_false (by omega)]; rfl)
    clear hr
    go_enter Tryd.func108, Tryd.ntmps108
    go_wp2
    all_goals (go_ret; rw [R.out]; exact ⟨rfl, rfl⟩)
  · by_cases h12 : 12 < s.size
    · have R := Lib.hid (show r = false by rw [← hr, nameB, show decide (s.size ≤ 12) = false from decide_eq_false (by omega)]; simp)
      clear hr
      go_enter Tryd.func108, Tryd.ntmps108
      go_wp2
      all_goals (go_ret; rw [R.out]; exact ⟨rfl, rfl⟩)
    · have HR := Lib.hid hr
      clear hr
      go_enter Tryd.func108, Tryd.ntmps108
      go_wp2
      go_loopw [3] (fun i wr => ∃ k : Nat, k ≤ s.size ∧ i = .int .i64 k ∧ wr = w ∧ Hid (nameTo s k)) (fun i _ => s.size - (RowKit.intOf i).toNat)
      case atStart => exact ⟨0, Nat.zero_le _, rfl, rfl, fun i _ h => absurd h (Nat.not_lt_zero _)⟩
      case round =>
        obtain ⟨k, hkl, rfl, rfl, HN⟩ := hrel
        by_cases hk : k < s.size
        · obtain ⟨c, hc⟩ : ∃ c : Nat, (s[k]'hk).toNat = c := ⟨_, rfl⟩
          have HY := Lib.hid (fun (q : okByte k c = true) => nameTo_succ HN.out hk (by rw [hc]; exact q))
          have HF := Lib.hid (fun (q : okByte k c = false) => (show r = false by rw [← HR.out, nameB_no hk (by rw [hc]; exact q)]))
          have hz : (c < 45) ∨ (c = 45) ∨ (45 < c ∧ c < 48) ∨ (48 ≤ c ∧ c ≤ 57) ∨ (57 < c ∧ c < 97) ∨ (97 ≤ c ∧ c ≤ 122) ∨ (122 < c) := by omega
          have hkz : ((k : Int) == 0) = true ∨ ((k : Int) == 0) = false := by cases ((k : Int) == 0) <;> simp
          have HKT := Lib.hid (fun (q : ((k : Int) == 0) = true) => (show k = 0 by simpa using q))
          have HKF := Lib.hid (fun (q : ((k : Int) == 0) = false) => (show k ≠ 0 by simpa using q))
          have HKS := Lib.hid hk
          rcases hz with hz | hz | hz | hz | hz | hz | hz
          all_goals
            have z45 : c = c := rfl
            rcases hkz with hkz | hkz
          case inr.inr.inr.inr.inr.inl.inl | inr.inr.inr.inr.inr.inl.inr => (have R := Lib.hid (HY.out (okB_of (by simp; omega)))); clear z45 HY HF; go_wp2; all_goals (first | (exfalso; omega) | (exfalso; rename_i qx; simp at qx; omega) | (go_roundw; (case rel => exact ⟨k + 1, HKS.out, by go_num, by first | rfl | trivial, R⟩); (case measure => have := HKS.out; simp [RowKit.intOf]; omega)))
          case inr.inl.inr | inr.inr.inr.inl.inr => (have R := Lib.hid (HY.out (okB_of (by have := HKF.out hkz; simp; omega)))); clear z45 HY HF; go_wp2; all_goals (first | (exfalso; omega) | (exfalso; rename_i qx; simp at qx; omega) | (go_roundw; (case rel => exact ⟨k + 1, HKS.out, by go_num, by first | rfl | trivial, R⟩); (case measure => have := HKS.out; simp [RowKit.intOf]; omega)))
          all_goals (have R := Lib.hid (HF.out (okB_of (by first | (have := HKT.out hkz; simp; omega) | (simp; omega))))); clear z45 HY HF; go_wp2; all_goals (first | (exfalso; omega) | (go_ret; rw [R.out]; exact ⟨rfl, rfl⟩) | (exfalso; rename_i qx; simp at qx; omega))
        · obtain rfl : k = s.size := by omega
          have R := Lib.hid (show r = true by rw [← HR.out]; exact (nameB_iff s).2 ⟨by omega, by omega, HN.out⟩)
          go_wp2
          go_ret
          rw [R.out]
          exact ⟨rfl, rfl⟩

set_option maxRecDepth 100000 in
theorem cmat_any (c : Cp) (x : CV) (lA : Option Addr) (lc : Nat) (w : World) :
    Calls Tryd.prog 70 #[CpV c, CHV x lA lc] w fun e w' => e = .returned (.bool (matB c x)) ∧ Below w.heap.size w w' := by
  unfold matB; obtain ⟨nm, sy, dy, ct⟩ := c; obtain ⟨key, veh, sys, cls, tm, lns, cn⟩ := x; simp only [CpV, CHV]; obtain ⟨Y1, hY1⟩ : ∃ Y, w.alloc (.cells #[.string nm, .string sy, .int .i64 dy, .int .i64 ct] 97) = Y := ⟨_, rfl⟩; (have s1 : Y1.heap.size = w.heap.size + 1 := by rw [← hY1]; simp); obtain ⟨Y, hY⟩ : ∃ Y, Y1.alloc (.cells #[.string key, .string veh, .string sys, .int .i64 cls, .int .i64 tm, .slice lA lns.length lc, .int .i64 cn] 82) = Y := ⟨_, rfl⟩; have BP : Blk Y w.heap.size #[.string nm, .string sy, .int .i64 dy, .int .i64 ct] 97 := (by rw [← hY, ← hY1]; exact (Blk.new w _ _).alloc _); have BC : Blk Y (w.heap.size + 1) #[.string key, .string veh, .string sys, .int .i64 cls, .int .i64 tm, .slice lA lns.length lc, .int .i64 cn] 82 := (by rw [← hY, ← s1]; exact Blk.new Y1 _ _); have bW : Below w.heap.size w Y := (by rw [← hY, ← hY1]; exact ((Below.refl _ w).al _).al _); have c2 := BC.cell 2 (v := .string sys) rfl; have p0 := BP.cell 0 (v := .string nm) rfl; have p1 := BP.cell 1 (v := .string sy) rfl; have p2 := BP.cell 2 (v := .int .i64 dy) rfl; have p3 := BP.cell 3 (v := .int .i64 ct) rfl; cases he : emp sy
  · obtain ⟨n1, n2, n3⟩ := toList_neE he
    cases hq : eqS sy sys
    all_goals
      have hq2 : (sy.toList == sys.toList) = _ := hq
      clear hq he n1
      go_enter Tryd.func70, Tryd.ntmps70
      go_wp2_with fail
      go_ret
      exact ⟨rfl, bW⟩
  · obtain ⟨n1, n2, n3⟩ := toList_eE he
    clear he n1
    go_enter Tryd.func70, Tryd.ntmps70
    go_wp2_with fail
    go_ret
    exact ⟨rfl, bW⟩
set_option maxRecDepth 100000 in
theorem rmat_any (c : Cp) (x : CV) (lA : Option Addr) (lc : Nat) (w : World) :
    Calls Tryd.prog 75 #[CpV c, CHV x lA lc] w fun e w' => e = .returned (.bool (matB c x)) ∧ Below w.heap.size w w' := by
  unfold matB; obtain ⟨nm, sy, dy, ct⟩ := c; obtain ⟨key, veh, sys, cls, tm, lns, cn⟩ := x; simp only [CpV, CHV]; obtain ⟨Y1, hY1⟩ : ∃ Y, w.alloc (.cells #[.string nm, .string sy, .int .i64 dy, .int .i64 ct] 97) = Y := ⟨_, rfl⟩; (have s1 : Y1.heap.size = w.heap.size + 1 := by rw [← hY1]; simp); obtain ⟨Y, hY⟩ : ∃ Y, Y1.alloc (.cells #[.string key, .string veh, .string sys, .int .i64 cls, .int .i64 tm, .slice lA lns.length lc, .int .i64 cn] 82) = Y := ⟨_, rfl⟩; have BP : Blk Y w.heap.size #[.string nm, .string sy, .int .i64 dy, .int .i64 ct] 97 := (by rw [← hY, ← hY1]; exact (Blk.new w _ _).alloc _); have BC : Blk Y (w.heap.size + 1) #[.string key, .string veh, .string sys, .int .i64 cls, .int .i64 tm, .slice lA lns.length lc, .int .i64 cn] 82 := (by rw [← hY, ← s1]; exact Blk.new Y1 _ _); have bW : Below w.heap.size w Y := (by rw [← hY, ← hY1]; exact ((Below.refl _ w).al _).al _); have c2 := BC.cell 2 (v := .string sys) rfl; have p0 := BP.cell 0 (v := .string nm) rfl; have p1 := BP.cell 1 (v := .string sy) rfl; have p2 := BP.cell 2 (v := .int .i64 dy) rfl; have p3 := BP.cell 3 (v := .int .i64 ct) rfl; cases he : emp sy
  · obtain ⟨n1, n2, n3⟩ := toList_neE he
    cases hq : eqS sy sys
    all_goals
      have hq2 : (sy.toList == sys.toList) = _ := hq
      clear hq he n1
      go_enter Tryd.func75, Tryd.ntmps75
      go_wp2_with fail
      go_ret
      exact ⟨rfl, bW⟩
  · obtain ⟨n1, n2, n3⟩ := toList_eE he
    clear he n1
    go_enter Tryd.func75, Tryd.ntmps75
    go_wp2_with fail
    go_ret
    exact ⟨rfl, bW⟩
theorem ram_any (n : Int) (w : World) : Calls Tryd.prog 91 #[.int .i64 n] w fun e w' => e = .returned (.bool (amB n)) ∧ w' = w := by
  unfold amB
  go_enter Tryd.func91, Tryd.ntmps91
  go_wp2
  all_goals (go_ret; exact ⟨ret_b (by rw [Bool.eq_iff_iff]; simp <;> omega), rfl⟩)

set_option maxRecDepth 100000 in
set_option maxHeartbeats 4000000 in
theorem cper_any (nm sy : ByteArray) (dy ct t : Int) {w : World} (hw : Mon w) :
    Calls Tryd.prog 64 #[.agg #[.string nm, .string sy, .int .i64 dy, .int .i64 ct], .int .i64 t] w fun e w' => e = .returned (.int .i64 (perN dy t)) ∧ Below w.heap.size w w' := by
  unfold perN monN monD
  have CD := Lib.hid (fun (X : World) => cday_any t X)
  obtain ⟨Y, hY⟩ : ∃ Y, w.alloc (.cells #[.string nm, .string sy, .int .i64 dy, .int .i64 ct] 97) = Y := ⟨_, rfl⟩; have bW : Below w.heap.size w Y := (by rw [← hY]; exact (Below.refl _ w).al _); have BP : Blk Y w.heap.size #[.string nm, .string sy, .int .i64 dy, .int .i64 ct] 97 := (by rw [← hY]; exact Blk.new w _ _)
  have HM : Hid (Mon Y) := Lib.hid (hw.st bW hw.1)
  have CT := Lib.hid (cdate_any (dayN t) HM.out)
  have hr : dayN t = -1 ∨ 0 ≤ dayN t := by unfold dayN; split <;> omega
  have p0 := BP.cell 0 (v := .string nm) rfl; have p1 := BP.cell 1 (v := .string sy) rfl; have p2 := BP.cell 2 (v := .int .i64 dy) rfl; have p3 := BP.cell 3 (v := .int .i64 ct) rfl
  generalize dayN t = d at *
  clear hw HM
  by_cases h0 : d < 0
  · rw [if_neg (by omega : ¬ (0 ≤ d ∧ d < 795364))]
    have R : Hid ((if dy = 1 then d else if dy = 0 then -1 else -1) = -1) := Lib.hid (by split <;> (try split) <;> omega)
    rw [R.out]
    clear CT R
    go_enter Tryd.func64, Tryd.ntmps64
    go_wp2_with fail
    refine (CD.out _).mono ?_
    rintro e w' ⟨rfl, rfl⟩
    go_wp2_with fail
    go_ret
    exact ⟨rfl, bW⟩
  · by_cases hd1 : dy = 1
    · subst hd1
      rw [if_pos rfl]
      clear CT
      go_enter Tryd.func64, Tryd.ntmps64
      go_wp2_with fail
      refine (CD.out _).mono ?_
      rintro e w' ⟨rfl, rfl⟩
      go_wp2_with fail
      go_ret
      exact ⟨rfl, bW⟩
    · rw [if_neg hd1]
      have k1 : (dy == 1) = false := by simp; omega
      by_cases hd0 : dy = 0
      · subst hd0
        rw [if_pos rfl]
        by_cases h1 : d < 795364
        · rw [if_pos (by omega)]
          unfold dateV at CT
          rw [if_pos (by omega)] at CT
          have hm := month_rng (by omega : 0 ≤ d) h1
          generalize (ymd d).1 = n at *
          generalize (ymd d).2.1 = m at *
          generalize (ymd d).2.2 = r at *
          obtain ⟨hn, hm⟩ := hm
          clear hd1
          go_enter Tryd.func64, Tryd.ntmps64
          go_wp2_with fail
          refine (CD.out _).mono ?_
          rintro e w' ⟨rfl, rfl⟩
          go_wp2_with fail
          refine CT.out.mono ?_
          rintro e w' ⟨rfl, rfl⟩
          go_wp2_with fail
          go_ret
          exact ⟨ret_i (by omega), bW⟩
        · rw [if_neg (by omega)]
          unfold dateV at CT
          rw [if_neg (by omega)] at CT
          clear hd1
          go_enter Tryd.func64, Tryd.ntmps64
          go_wp2_with fail
          refine (CD.out _).mono ?_
          rintro e w' ⟨rfl, rfl⟩
          go_wp2_with fail
          refine CT.out.mono ?_
          rintro e w' ⟨rfl, rfl⟩
          go_wp2_with fail
          go_ret
          exact ⟨rfl, bW⟩
      · rw [if_neg hd0]
        have k0 : (dy == 0) = false := by simp; omega
        clear CT
        go_enter Tryd.func64, Tryd.ntmps64
        go_wp2_with fail
        refine (CD.out _).mono ?_
        rintro e w' ⟨rfl, rfl⟩
        go_wp2_with fail
        go_ret
        exact ⟨rfl, bW⟩

set_option maxRecDepth 100000 in
set_option maxHeartbeats 4000000 in
theorem rper_any (nm sy : ByteArray) (dy ct t : Int) (w : World) :
    Calls Tryd.prog 93 #[.agg #[.string nm, .string sy, .int .i64 dy, .int .i64 ct], .int .i64 t] w fun e w' => e = .returned (.int .i64 (perN dy t)) ∧ Below w.heap.size w w' := by
  unfold perN monN monD
  have CD := Lib.hid (fun (X : World) => rday_any t X)
  obtain ⟨Y, hY⟩ : ∃ Y, w.alloc (.cells #[.string nm, .string sy, .int .i64 dy, .int .i64 ct] 97) = Y := ⟨_, rfl⟩; have bW : Below w.heap.size w Y := (by rw [← hY]; exact (Below.refl _ w).al _); have BP : Blk Y w.heap.size #[.string nm, .string sy, .int .i64 dy, .int .i64 ct] 97 := (by rw [← hY]; exact Blk.new w _ _)
  have CT := Lib.hid (fun (X : World) => rdate_any (dayN t) X)
  have p0 := BP.cell 0 (v := .string nm) rfl; have p1 := BP.cell 1 (v := .string sy) rfl; have p2 := BP.cell 2 (v := .int .i64 dy) rfl; have p3 := BP.cell 3 (v := .int .i64 ct) rfl
  generalize dayN t = d at *
  by_cases hd1 : dy = 1
  · subst hd1
    rw [if_pos rfl]
    clear CT
    go_enter Tryd.func93, Tryd.ntmps93
    go_wp2_with fail
    refine (CD.out _).mono ?_
    rintro e w' ⟨rfl, rfl⟩
    go_wp2_with fail
    go_ret
    exact ⟨rfl, bW⟩
  · rw [if_neg hd1]
    have k1 : (dy == 1) = false := by simp; omega
    by_cases h1 : 0 ≤ d ∧ d < 795364
    · rw [if_pos h1]
      unfold dateV at CT
      rw [if_pos h1] at CT
      have hm := month_rng h1.1 h1.2
      generalize (ymd d).1 = n at *
      generalize (ymd d).2.1 = m at *
      generalize (ymd d).2.2 = r at *
      obtain ⟨hn, hm⟩ := hm
      have kn : ((2001 + (n : Int)) == 0) = false := by simp; omega
      by_cases hd0 : dy = 0
      · subst hd0
        rw [if_pos rfl]
        clear hd1 h1
        go_enter Tryd.func93, Tryd.ntmps93
        go_wp2_with fail
        refine (CD.out _).mono ?_
        rintro e w' ⟨rfl, rfl⟩
        go_wp2_with fail
        refine (CT.out _).mono ?_
        rintro e w' ⟨rfl, rfl⟩
        go_wp2_with fail
        go_ret
        exact ⟨ret_i (by omega), bW⟩
      · rw [if_neg hd0]
        have k0 : (dy != 0) = true := by simp; omega
        clear hd1 h1
        go_enter Tryd.func93, Tryd.ntmps93
        go_wp2_with fail
        refine (CD.out _).mono ?_
        rintro e w' ⟨rfl, rfl⟩
        go_wp2_with fail
        refine (CT.out _).mono ?_
        rintro e w' ⟨rfl, rfl⟩
        go_wp2_with fail
        go_ret
        exact ⟨rfl, bW⟩
    · rw [if_neg h1]
      unfold dateV at CT
      rw [if_neg h1] at CT
      have R : Hid ((if dy = 0 then (-1 : Int) else -1) = -1) := Lib.hid (by split <;> rfl)
      rw [R.out]
      clear hd1 h1 R
      go_enter Tryd.func93, Tryd.ntmps93
      go_wp2_with fail
      refine (CD.out _).mono ?_
      rintro e w' ⟨rfl, rfl⟩
      go_wp2_with fail
      refine (CT.out _).mono ?_
      rintro e w' ⟨rfl, rfl⟩
      go_wp2_with fail
      all_goals (go_ret; exact ⟨rfl, bW⟩)
end Go.Proofs.YtlnnbkpcnhlfcaaDoor
/- cap.Check and the reference's, walked. -/
set_option linter.unusedSimpArgs false
namespace Go.Proofs.YtlnnbkpcnhlfcaaDoor
open Go.RowKit Go.Lib

/-- the rest of a cap's error -/
def capT (dy ct : Int) : Int := if dy ≠ 0 ∧ dy ≠ 1 then 1 else if amB ct = false then 13 else 0
theorem capE_6a {nm sy : ByteArray} {dy ct : Int} (h : nameB nm = false) : capE ⟨nm, sy, dy, ct⟩ = 6 := by unfold capE; rw [if_pos (.inl h)]
theorem capE_6b {nm sy : ByteArray} {dy ct : Int} (h : emp sy = false) (h2 : nameB sy = false) : capE ⟨nm, sy, dy, ct⟩ = 6 := by unfold capE; rw [if_pos (.inr ⟨h, h2⟩)]
theorem capE_T {nm sy : ByteArray} {dy ct : Int} (h : nameB nm = true) (h2 : emp sy = true ∨ nameB sy = true) : capE ⟨nm, sy, dy, ct⟩ = capT dy ct := by
  unfold capE capT
  rw [if_neg (by rintro (q | ⟨q1, q2⟩); · rw [h] at q; cases q
                 · rcases h2 with h2 | h2
                   · rw [h2] at q1; cases q1
                   · rw [h2] at q2; cases q2)]

set_option maxRecDepth 100000 in
set_option maxHeartbeats 8000000 in
theorem ccheck_any (nm sy : ByteArray) (dy ct : Int) (w : World) :
    Calls Tryd.prog 63 #[.agg #[.string nm, .string sy, .int .i64 dy, .int .i64 ct]] w fun e w' => e = .returned (.int .i64 (capE ⟨nm, sy, dy, ct⟩)) ∧ Below w.heap.size w w' := by
  have CN := Lib.hid (fun (X : World) => name_any nm X)
  have CS := Lib.hid (fun (X : World) => name_any sy X)
  obtain ⟨Y, hY⟩ : ∃ Y, w.alloc (.cells #[.string nm, .string sy, .int .i64 dy, .int .i64 ct] 97) = Y := ⟨_, rfl⟩; have bW : Below w.heap.size w Y := (by rw [← hY]; exact (Below.refl _ w).al _); have BP : Blk Y w.heap.size #[.string nm, .string sy, .int .i64 dy, .int .i64 ct] 97 := (by rw [← hY]; exact Blk.new w _ _)
  have p0 := BP.cell 0 (v := .string nm) rfl; have p1 := BP.cell 1 (v := .string sy) rfl; have p2 := BP.cell 2 (v := .int .i64 dy) rfl; have p3 := BP.cell 3 (v := .int .i64 ct) rfl
  cases hn : nameB nm
  · rw [capE_6a hn]
    rw [hn] at CN
    clear CS hn
    go_enter Tryd.func63, Tryd.ntmps63
    go_wp2_with fail
    refine (CN.out _).mono ?_
    rintro e w2 ⟨rfl, hbn⟩
    have bW := bW.st hbn; have BP := BP.below hbn BP.lt; have p0 := BP.cell 0 (v := .string nm) rfl; have p1 := BP.cell 1 (v := .string sy) rfl; have p2 := BP.cell 2 (v := .int .i64 dy) rfl; have p3 := BP.cell 3 (v := .int .i64 ct) rfl
    go_wp2_with fail
    go_ret
    exact ⟨rfl, bW⟩
  · rw [hn] at CN
    cases he : emp sy
    · obtain ⟨n1, n2, n3⟩ := toList_neE he
      cases hs : nameB sy
      · rw [capE_6b he hs]
        rw [hs] at CS
        clear he hs hn n1
        go_enter Tryd.func63, Tryd.ntmps63
        go_wp2_with fail
        refine (CN.out _).mono ?_
        rintro e w2 ⟨rfl, hbn⟩
        have bW := bW.st hbn; have BP := BP.below hbn BP.lt; have p0 := BP.cell 0 (v := .string nm) rfl; have p1 := BP.cell 1 (v := .string sy) rfl; have p2 := BP.cell 2 (v := .int .i64 dy) rfl; have p3 := BP.cell 3 (v := .int .i64 ct) rfl
        go_wp2_with fail
        refine (CS.out _).mono ?_
        rintro e w3 ⟨rfl, hbn⟩
        have bW := bW.st hbn; have BP := BP.below hbn BP.lt; have p0 := BP.cell 0 (v := .string nm) rfl; have p1 := BP.cell 1 (v := .string sy) rfl; have p2 := BP.cell 2 (v := .int .i64 dy) rfl; have p3 := BP.cell 3 (v := .int .i64 ct) rfl
        go_wp2_with fail
        go_ret
        exact ⟨rfl, bW⟩
      · rw [capE_T hn (.inr hs)]
        rw [hs] at CS
        clear he hs hn n1
        go_enter Tryd.func63, Tryd.ntmps63
        go_wp2_with fail
        refine (CN.out _).mono ?_
        rintro e w2 ⟨rfl, hbn⟩
        have bW := bW.st hbn; have BP := BP.below hbn BP.lt; have p0 := BP.cell 0 (v := .string nm) rfl; have p1 := BP.cell 1 (v := .string sy) rfl; have p2 := BP.cell 2 (v := .int .i64 dy) rfl; have p3 := BP.cell 3 (v := .int .i64 ct) rfl
        go_wp2_with fail
        refine (CS.out _).mono ?_
        rintro e w3 ⟨rfl, hbn⟩
        have bW := bW.st hbn; have BP := BP.below hbn BP.lt; have p0 := BP.cell 0 (v := .string nm) rfl; have p1 := BP.cell 1 (v := .string sy) rfl; have p2 := BP.cell 2 (v := .int .i64 dy) rfl; have p3 := BP.cell 3 (v := .int .i64 ct) rfl
        (by_cases d0 : dy = 0 ∨ dy = 1); (focus (by_cases a1 : ct < 0); (focus (have R : Hid (capT dy ct = 13) := Lib.hid (by unfold capT amB; rw [if_neg (by omega), if_pos (by simp; omega)])); clear CN; rcases d0 with rfl | rfl; all_goals (go_wp2_with fail; all_goals (first | (go_ret; exact ⟨ret_i R.out.symm, bW⟩) | (exfalso; omega)))); (focus (by_cases a2 : 1125899906842624 < ct); (focus (have R : Hid (capT dy ct = 13) := Lib.hid (by unfold capT amB; rw [if_neg (by omega), if_pos (by simp; omega)])); clear CN; rcases d0 with rfl | rfl; all_goals (go_wp2_with fail; all_goals (first | (go_ret; exact ⟨ret_i R.out.symm, bW⟩) | (exfalso; omega)))); (focus (have R : Hid (capT dy ct = 0) := Lib.hid (by unfold capT amB; rw [if_neg (by omega), if_neg (by simp; omega)])); clear CN; rcases d0 with rfl | rfl; all_goals (go_wp2_with fail; all_goals (first | (go_ret; exact ⟨ret_i R.out.symm, bW⟩) | (exfalso; omega)))))); (focus (have R : Hid (capT dy ct = 1) := Lib.hid (by unfold capT; rw [if_pos (by omega)])); (have k0 : (dy != 0) = true := by simp; omega); (have k1 : (dy != 1) = true := by simp; omega); clear CN; (go_wp2_with fail; all_goals (first | (go_ret; exact ⟨ret_i R.out.symm, bW⟩) | (exfalso; omega))))
    · obtain ⟨n1, n2, n3⟩ := toList_eE he
      rw [capE_T hn (.inl he)]
      clear he hn n1 CS
      go_enter Tryd.func63, Tryd.ntmps63
      go_wp2_with fail
      refine (CN.out _).mono ?_
      rintro e w2 ⟨rfl, hbn⟩
      have bW := bW.st hbn; have BP := BP.below hbn BP.lt; have p0 := BP.cell 0 (v := .string nm) rfl; have p1 := BP.cell 1 (v := .string sy) rfl; have p2 := BP.cell 2 (v := .int .i64 dy) rfl; have p3 := BP.cell 3 (v := .int .i64 ct) rfl
      (by_cases d0 : dy = 0 ∨ dy = 1); (focus (by_cases a1 : ct < 0); (focus (have R : Hid (capT dy ct = 13) := Lib.hid (by unfold capT amB; rw [if_neg (by omega), if_pos (by simp; omega)])); clear CN; rcases d0 with rfl | rfl; all_goals (go_wp2_with fail; all_goals (first | (go_ret; exact ⟨ret_i R.out.symm, bW⟩) | (exfalso; omega)))); (focus (by_cases a2 : 1125899906842624 < ct); (focus (have R : Hid (capT dy ct = 13) := Lib.hid (by unfold capT amB; rw [if_neg (by omega), if_pos (by simp; omega)])); clear CN; rcases d0 with rfl | rfl; all_goals (go_wp2_with fail; all_goals (first | (go_ret; exact ⟨ret_i R.out.symm, bW⟩) | (exfalso; omega)))); (focus (have R : Hid (capT dy ct = 0) := Lib.hid (by unfold capT amB; rw [if_neg (by omega), if_neg (by simp; omega)])); clear CN; rcases d0 with rfl | rfl; all_goals (go_wp2_with fail; all_goals (first | (go_ret; exact ⟨ret_i R.out.symm, bW⟩) | (exfalso; omega)))))); (focus (have R : Hid (capT dy ct = 1) := Lib.hid (by unfold capT; rw [if_pos (by omega)])); (have k0 : (dy != 0) = true := by simp; omega); (have k1 : (dy != 1) = true := by simp; omega); clear CN; (go_wp2_with fail; all_goals (first | (go_ret; exact ⟨ret_i R.out.symm, bW⟩) | (exfalso; omega))))

set_option maxRecDepth 100000 in
set_option maxHeartbeats 8000000 in
theorem rcheck25_any (nm sy : ByteArray) (dy ct : Int) (w : World) :
    Calls Tryd.prog 90 #[.agg #[.string nm, .string sy, .int .i64 dy, .int .i64 ct]] w fun e w' => e = .returned (.int .i64 (capE ⟨nm, sy, dy, ct⟩)) ∧ Below w.heap.size w w' := by
  have CN := Lib.hid (fun (X : World) => r1name_any nm X)
  have CS := Lib.hid (fun (X : World) => r1name_any sy X)
  have CA := Lib.hid (fun (X : World) => ram_any ct X)
  obtain ⟨Y, hY⟩ : ∃ Y, w.alloc (.cells #[.string nm, .string sy, .int .i64 dy, .int .i64 ct] 97) = Y := ⟨_, rfl⟩; have bW : Below w.heap.size w Y := (by rw [← hY]; exact (Below.refl _ w).al _); have BP : Blk Y w.heap.size #[.string nm, .string sy, .int .i64 dy, .int .i64 ct] 97 := (by rw [← hY]; exact Blk.new w _ _)
  have p0 := BP.cell 0 (v := .string nm) rfl; have p1 := BP.cell 1 (v := .string sy) rfl; have p2 := BP.cell 2 (v := .int .i64 dy) rfl; have p3 := BP.cell 3 (v := .int .i64 ct) rfl
  cases hn : nameB nm
  · rw [capE_6a hn]
    rw [hn] at CN
    clear CS hn
    go_enter Tryd.func90, Tryd.ntmps90
    go_wp2_with fail
    refine (CN.out _).mono ?_
    rintro e w2 ⟨rfl, rfl⟩
    go_wp2_with fail
    go_ret
    exact ⟨rfl, bW⟩
  · rw [hn] at CN
    cases he : emp sy
    · obtain ⟨n1, n2, n3⟩ := toList_neE he
      cases hs : nameB sy
      · rw [capE_6b he hs]
        rw [hs] at CS
        clear he hs hn n1
        go_enter Tryd.func90, Tryd.ntmps90
        go_wp2_with fail
        refine (CN.out _).mono ?_
        rintro e w2 ⟨rfl, rfl⟩
        go_wp2_with fail
        refine (CS.out _).mono ?_
        rintro e w3 ⟨rfl, rfl⟩
        go_wp2_with fail
        go_ret
        exact ⟨rfl, bW⟩
      · rw [capE_T hn (.inr hs)]
        rw [hs] at CS
        clear he hs hn n1
        go_enter Tryd.func90, Tryd.ntmps90
        go_wp2_with fail
        refine (CN.out _).mono ?_
        rintro e w2 ⟨rfl, rfl⟩
        go_wp2_with fail
        refine (CS.out _).mono ?_
        rintro e w3 ⟨rfl, rfl⟩
        (by_cases d0 : dy = 0 ∨ dy = 1); (focus (cases ha : amB ct); (focus (have R : Hid (capT dy ct = 13) := Lib.hid (by unfold capT; rw [if_neg (by omega), if_pos ha])); rw [ha] at CA; clear CN ha; rcases d0 with rfl | rfl; all_goals (go_wp2_with fail; all_goals (first | (go_ret; exact ⟨ret_i R.out.symm, bW⟩) | (refine (CA.out _).mono ?_; rintro e w7 ⟨rfl, rfl⟩; go_wp2_with fail; go_ret; exact ⟨ret_i R.out.symm, bW⟩)))); (focus (have R : Hid (capT dy ct = 0) := Lib.hid (by unfold capT; rw [if_neg (by omega), if_neg (by rw [ha]; simp)])); rw [ha] at CA; clear CN ha; rcases d0 with rfl | rfl; all_goals (go_wp2_with fail; all_goals (first | (go_ret; exact ⟨ret_i R.out.symm, bW⟩) | (refine (CA.out _).mono ?_; rintro e w7 ⟨rfl, rfl⟩; go_wp2_with fail; go_ret; exact ⟨ret_i R.out.symm, bW⟩))))); (focus (have R : Hid (capT dy ct = 1) := Lib.hid (by unfold capT; rw [if_pos (by omega)])); (have k0 : (dy != 0) = true := by simp; omega); (have k1 : (dy != 1) = true := by simp; omega); clear CN; go_wp2_with fail; all_goals (first | (go_ret; exact ⟨ret_i R.out.symm, bW⟩) | (refine (CA.out _).mono ?_; rintro e w7 ⟨rfl, rfl⟩; go_wp2_with fail; go_ret; exact ⟨ret_i R.out.symm, bW⟩)))
    · obtain ⟨n1, n2, n3⟩ := toList_eE he
      rw [capE_T hn (.inl he)]
      clear he hn n1 CS
      go_enter Tryd.func90, Tryd.ntmps90
      go_wp2_with fail
      refine (CN.out _).mono ?_
      rintro e w2 ⟨rfl, rfl⟩
      (by_cases d0 : dy = 0 ∨ dy = 1); (focus (cases ha : amB ct); (focus (have R : Hid (capT dy ct = 13) := Lib.hid (by unfold capT; rw [if_neg (by omega), if_pos ha])); rw [ha] at CA; clear CN ha; rcases d0 with rfl | rfl; all_goals (go_wp2_with fail; all_goals (first | (go_ret; exact ⟨ret_i R.out.symm, bW⟩) | (refine (CA.out _).mono ?_; rintro e w7 ⟨rfl, rfl⟩; go_wp2_with fail; go_ret; exact ⟨ret_i R.out.symm, bW⟩)))); (focus (have R : Hid (capT dy ct = 0) := Lib.hid (by unfold capT; rw [if_neg (by omega), if_neg (by rw [ha]; simp)])); rw [ha] at CA; clear CN ha; rcases d0 with rfl | rfl; all_goals (go_wp2_with fail; all_goals (first | (go_ret; exact ⟨ret_i R.out.symm, bW⟩) | (refine (CA.out _).mono ?_; rintro e w7 ⟨rfl, rfl⟩; go_wp2_with fail; go_ret; exact ⟨ret_i R.out.symm, bW⟩))))); (focus (have R : Hid (capT dy ct = 1) := Lib.hid (by unfold capT; rw [if_pos (by omega)])); (have k0 : (dy != 0) = true := by simp; omega); (have k1 : (dy != 1) = true := by simp; omega); clear CN; go_wp2_with fail; all_goals (first | (go_ret; exact ⟨ret_i R.out.symm, bW⟩) | (refine (CA.out _).mono ?_; rintro e w7 ⟨rfl, rfl⟩; go_wp2_with fail; go_ret; exact ⟨ret_i R.out.symm, bW⟩)))
end Go.Proofs.YtlnnbkpcnhlfcaaDoor
/- What the walks of both Applies share. -/
set_option linter.unusedSimpArgs false
namespace Go.Proofs.YtlnnbkpcnhlfcaaDoor
open Go.RowKit Go.Lib

theorem firstI_yes {l : List Int} {k : Nat} {x : Int} (h : ∀ y ∈ l.take k, y = 0) (hx : l[k]? = some x) (h0 : x ≠ 0) : firstI l = x := by
  induction l generalizing k with
  | nil => simp at hx
  | cons y l ih =>
    cases k with
    | zero => simp at hx; subst hx; unfold firstI; rw [if_pos h0]
    | succ k =>
      have hy : y = 0 := h y (by simp)
      unfold firstI
      rw [if_neg (by simp [hy])]
      exact ih (fun z hz => h z (by rw [List.take_succ_cons]; exact List.mem_cons_of_mem _ hz)) (by simpa using hx)
theorem firstI_app {a b : List Int} (h : firstI a = 0) : firstI (a ++ b) = firstI b := by
  induction a with
  | nil => rfl
  | cons x a ih =>
    unfold firstI at h
    split at h
    · rename_i q; exact absurd h q
    · rename_i q
      rw [List.cons_append, firstI, if_neg q]
      exact ih h
theorem zero_succ {α : Type} {f : α → Int} {l : List α} {k : Nat} {x : α} (hx : l[k]? = some x) (h : ∀ y ∈ (l.map f).take k, y = 0) (h0 : f x = 0) : ∀ y ∈ (l.map f).take (k + 1), y = 0 := by
  intro y hy
  rw [take_snoc (x := f x) (by rw [List.getElem?_map, hx]; rfl)] at hy
  rcases List.mem_append.1 hy with hy | hy
  · exact h y hy
  · rw [List.mem_singleton] at hy; rw [hy, h0]
theorem zero_all {l : List Int} (h : ∀ y ∈ l.take l.length, y = 0) : firstI l = 0 := by rw [List.take_length] at h; exact firstI_zero.2 h
theorem capE_ok {c : Cp} (h : capE c = 0) : 0 ≤ c.ct ∧ c.ct ≤ 1125899906842624 := by
  unfold capE at h
  split at h
  · exact absurd h (by decide)
  · split at h
    · exact absurd h (by decide)
    · split at h
      · exact absurd h (by decide)
      · rename_i q; unfold amB at q; simpa using q
theorem chE_ok {x : CV} (h : chE x = 0) : (0 ≤ x.ct ∧ x.ct ≤ 1125899906842624) ∧ btmB x.tm = true := by
  unfold chE at h
  split at h
  · exact absurd h (by decide)
  · split at h
    · exact absurd h (by decide)
    · rename_i q q2; unfold amB at q; exact ⟨by simpa using q, by simpa using q2⟩
/-- all but block mb lies as it lay -/
structure KeepM (mb : Nat) (W W' : World) : Prop where
  bel : Below mb W W'
  oth : ∀ b, b < W.heap.size → b ≠ mb → W'.heap[b]? = W.heap[b]?
theorem KeepM.refl (mb : Nat) (W : World) : KeepM mb W W := ⟨Below.refl _ _, fun _ _ _ => rfl⟩
theorem KeepM.st {mb : Nat} {W W' W2 : World} (h : KeepM mb W W') (hb : Below W'.heap.size W' W2) (hm : mb ≤ W'.heap.size) : KeepM mb W W2 :=
  ⟨h.bel.trans (hb.mono hm), fun b hb1 hne => (hb.block b (Nat.lt_of_lt_of_le hb1 h.bel.size)).trans (h.oth b hb1 hne)⟩
theorem KeepM.add {mb : Nat} {W W' W2 : World} (h : KeepM mb W W') (hb : Below mb W' W2) (ho : ∀ b, b < W'.heap.size → b ≠ mb → W2.heap[b]? = W'.heap[b]?) : KeepM mb W W2 :=
  ⟨h.bel.trans hb, fun b hb1 hne => (ho b (Nat.lt_of_lt_of_le hb1 h.bel.size) hne).trans (h.oth b hb1 hne)⟩
theorem KeepM.blk {mb : Nat} {W W' : World} (h : KeepM mb W W') {b : Nat} {cs : Array Value} {t : TypeId} (B : Blk W b cs t) (hne : b ≠ mb) : Blk W' b cs t := (h.oth b B.lt hne).trans B
/-- what Apply hands back -/
def PaidR (caps : List Cp) (cs : List CV) (w w' : World) (e : Ending) : Prop :=
  ∃ A c r, e = .returned (.tuple #[.slice A r.length c, .int .i64 (applyE caps cs)]) ∧ (applyE caps cs = 0 → r = paidL caps cs) ∧ (applyE caps cs ≠ 0 → r = []) ∧ Own 3 encI 1 w' w.heap.size A c r ∧ Below w.heap.size w w'

theorem applyE_ok {caps : List Cp} {cs : List CV} (h : applyE caps cs = 0) : caps.length ≤ 12 ∧ cs.length ≤ 1024 ∧ (∀ c ∈ caps, capE c = 0) ∧ ∀ x ∈ cs, chE x = 0 := by
  unfold applyE at h
  split at h
  · exact absurd h (by decide)
  · rename_i q
    split at h
    · rename_i q2; exact absurd h q2
    · rename_i q2
      have q3 : firstI (caps.map capE) = 0 := by omega
      exact ⟨by omega, by omega, fun c hc => firstI_zero.1 q3 _ (List.mem_map.2 ⟨c, hc, rfl⟩), fun x hx => firstI_zero.1 h _ (List.mem_map.2 ⟨x, hx, rfl⟩)⟩
theorem runF_pay {caps : List Cp} {cs : List CV} {M : Int} (hc : ∀ c ∈ caps, 0 ≤ c.ct) (hx : ∀ x ∈ cs, 0 ≤ x.ct ∧ x.ct ≤ M) (l : List Nat) (hl : ∀ i ∈ l, i < cs.length) : ∀ y ∈ (runF caps cs l).1, 0 ≤ y.2 ∧ y.2 ≤ M := by
  unfold runF
  suffices h : ∀ (l : List Nat) (a : Hs × List Int), (∀ i ∈ l, i < cs.length) → HInv caps a.1 → (∀ y ∈ a.1, 0 ≤ y.2 ∧ y.2 ≤ M) → ∀ y ∈ (l.foldl (stp caps cs) a).1, 0 ≤ y.2 ∧ y.2 ≤ M by exact h l _ hl (HInv.nil hc) (by simp)
  clear hl l
  intro l
  induction l with
  | nil => intro a _ _ h; exact h
  | cons i l ih =>
    intro a hl h hy
    rw [List.foldl_cons]
    have hi : i < cs.length := hl i (by simp)
    have hxi : chAt cs i ∈ cs := by rw [chAt_of (List.getElem?_eq_getElem hi)]; exact List.getElem_mem hi
    have hb := hx _ hxi
    have hp := payN_bounds (x := chAt cs i) h hb.1
    refine ih _ (fun j hj => hl j (List.mem_cons_of_mem _ hj)) (h.snoc hb.1) (fun y hyy => ?_)
    unfold stp at hyy
    rcases List.mem_append.1 hyy with q | q
    · exact hy y q
    · rw [List.mem_singleton] at q; subst q; exact ⟨hp.1, by simp only; omega⟩
end Go.Proofs.YtlnnbkpcnhlfcaaDoor
