/- Joined texts: ZoneLeaf, ZoneOn, ZoneLeafB, ZoneIn, TarIn, DisChk. -/
import Derived.Test.YtelchfijalkibaaGreatDoorZoneMath
import Derived.Test.YtelchfijalkibaaGreatDoorJFirst
import Derived.IntWalk
import Derived.BigQuiet
import Derived.Test.YtelchfijalkibaaGreatDoorJTrpScR
/- The small functions of chapter 26, walked: within, valid, isTime, on, Minute. -/
namespace Go.Proofs.YtelchfijalkibaaGreatDoor
open Go.RowKit Go.Lib

theorem cvalid_any (x : Wn) (w : World) :
    Calls Tryz.prog 78 #[.agg #[.int .i64 x.1, .int .i64 x.2.1, .int .i64 x.2.2]] w fun e w' => e = .returned (.bool (vw x)) ∧ w.alloc (.cells #[.int .i64 x.1, .int .i64 x.2.1, .int .i64 x.2.2] 97) = w' := by
  unfold vw
  go_enter Tryz.func78, Tryz.ntmps78
  go_wp2
  all_goals (go_ret; exact ⟨ret_bool (by rw [Bool.eq_iff_iff]; simp; omega), rfl⟩)
end Go.Proofs.YtelchfijalkibaaGreatDoor
/- Days of windows: clock.on, the reference's On; clock.In. -/
namespace Go.Proofs.YtelchfijalkibaaGreatDoor
open Go.RowKit Go.Lib

theorem bit_and {y : Int} (h0 : 0 ≤ y) (h1 : y ≤ 127) : bits BinOp.and IntKind.i64 y 1 = y % 2 := by
  have key : ∀ n : Fin 128, bits BinOp.and IntKind.i64 (n.1 : Int) 1 = (n.1 : Int) % 2 := by decide +kernel
  have := key ⟨y.toNat, by omega⟩
  simp only at this
  rwa [show ((y.toNat : Nat) : Int) = y by omega] at this
theorem div_pow {y : Int} (h0 : 0 ≤ y) (k : Nat) : 0 ≤ y / 2 ^ k ∧ y / 2 ^ k ≤ y := by
  have hp : (0 : Int) < 2 ^ k := Int.pow_pos (by omega)
  exact ⟨Int.ediv_nonneg h0 (Int.le_of_lt hp), Int.ediv_le_self _ h0⟩
theorem on_any (x : Wn) (d : Int) (w : World) (hv : vw x = true) (hd : 0 ≤ d) :
    Calls Tryz.prog 79 #[.agg #[.int .i64 x.1, .int .i64 x.2.1, .int .i64 x.2.2], .int .i64 d] w fun e w' => e = .returned (.bool (onD x.1 d)) ∧ w.alloc (.cells #[.int .i64 x.1, .int .i64 x.2.1, .int .i64 x.2.2] 97) = w' := by
  have hw := (vw_iff x).1 hv
  have h1 := div_pow (y := x.1) (by omega) (d % 7).toNat
  go_enter Tryz.func79, Tryz.ntmps79
  go_wp2
  all_goals (go_ret; exact ⟨ret_bool (by rw [Bool.eq_iff_iff]; simp; rw [bit_and h1.1 (by omega)]; simp [onD]), rfl⟩)

end Go.Proofs.YtelchfijalkibaaGreatDoor
/- More small functions of chapter 26, walked: isTime, Minute. -/
namespace Go.Proofs.YtelchfijalkibaaGreatDoor
open Go.RowKit Go.Lib

theorem isTime_any (t : Int) (w : World) :
    Calls Tryz.prog 63 #[.int .i64 t] w fun e w' => e = .returned (.bool (decide (0 ≤ t ∧ t < 68719476736))) ∧ w' = w := by
  go_enter Tryz.func63, Tryz.ntmps63
  go_wp2
  all_goals (go_ret; exact ⟨ret_bool (by rw [Bool.eq_iff_iff]; simp; omega), rfl⟩)
theorem minute_any (t : Int) (w : World) (h0 : 0 ≤ t) (h1 : t < 68719476736) :
    Calls Tryz.prog 80 #[.int .i64 t] w fun e w' => e = .returned (.int .i64 (t % 86400 / 60)) ∧ w' = w := by
  go_enter Tryz.func80, Tryz.ntmps80
  go_wp2_with (go_at_call 63; refine (isTime_any _ _).mono ?_; rintro e w' ⟨rfl, rfl⟩)
  all_goals (go_ret; exact ⟨ret_int (by go_num), rfl⟩)
end Go.Proofs.YtelchfijalkibaaGreatDoor
/- clock.In, walked. -/
namespace Go.Proofs.YtelchfijalkibaaGreatDoor
open Go.RowKit Go.Lib

theorem in_any (x : Wn) (t : Int) (w : World) :
    Calls Tryz.prog 50 #[.agg #[.int .i64 x.1, .int .i64 x.2.1, .int .i64 x.2.2], .int .i64 t] w fun e w' => e = .returned (.bool (decide (0 ≤ t ∧ t < 68719476736) && decide (wAt x t))) ∧ Below w.heap.size w w' := by
  have hb : Below w.heap.size w (w.alloc (.cells #[.int .i64 x.1, .int .i64 x.2.1, .int .i64 x.2.2] 97)) := (Below.refl _ w).al _
  generalize hr : (decide (0 ≤ t ∧ t < 68719476736) && decide (wAt x t)) = r
  go_enter Tryz.func50, Tryz.ntmps50
  by_cases ht : 0 ≤ t ∧ t < 68719476736
  · cases hv : vw x
    · have R := Lib.hid (show r = false by rw [← hr]; simp [wAt, hv])
      clear hr
      go_wp2_with (first | (go_at_call 63; refine (isTime_any _ _).mono ?_; rw [decide_eq_true ht]; rintro e w' ⟨rfl, rfl⟩) | (go_at_call 78; refine (cvalid_any x _).mono ?_; rw [hv]; rintro e w' ⟨rfl, rfl⟩))
      all_goals (go_ret; rw [R.out]; exact ⟨rfl, hb.al _⟩)
    · have hw := (vw_iff x).1 hv
      have Hv := Lib.hid hv
      cases ho : onD x.1 (t / 86400)
      · have R := Lib.hid (show r = false by rw [← hr]; simp [wAt, ho])
        clear hr
        go_wp2_with (first | (go_at_call 63; refine (isTime_any _ _).mono ?_; rw [decide_eq_true ht]; rintro e w' ⟨rfl, rfl⟩) | (go_at_call 78; refine (cvalid_any x _).mono ?_; rw [Hv.out]; rintro e w' ⟨rfl, rfl⟩) | (go_at_call 79; refine (on_any x _ _ Hv.out (by omega)).mono ?_; rw [ho]; rintro e w' ⟨rfl, rfl⟩))
        all_goals (go_ret; rw [R.out]; exact ⟨rfl, (hb.al _).al _⟩)
      · have R := Lib.hid (show r = decide (x.2.1 ≤ t % 86400 / 60 ∧ t % 86400 / 60 < x.2.2) by
          rw [← hr, Bool.eq_iff_iff]; simp [wAt, ho, Hv.out, ht]; omega)
        clear hr
        go_wp2_with (first | (go_at_call 63; refine (isTime_any _ _).mono ?_; rw [decide_eq_true ht]; rintro e w' ⟨rfl, rfl⟩) | (go_at_call 78; refine (cvalid_any x _).mono ?_; rw [Hv.out]; rintro e w' ⟨rfl, rfl⟩) | (go_at_call 79; refine (on_any x _ _ Hv.out (by omega)).mono ?_; rw [ho]; rintro e w' ⟨rfl, rfl⟩) | (go_at_call 80; refine (minute_any _ _ ht.1 ht.2).mono ?_; rintro e w' ⟨rfl, rfl⟩))
        all_goals (go_ret; rw [R.out]; exact ⟨ret_bool (by rw [Bool.eq_iff_iff]; simp; omega), (hb.al _).al _⟩)
  · have R := Lib.hid (show r = false by rw [← hr, decide_eq_false ht]; rfl)
    clear hr
    go_wp2_with (go_at_call 63; refine (isTime_any _ _).mono ?_; rw [decide_eq_false ht]; rintro e w' ⟨rfl, rfl⟩)
    all_goals (go_ret; rw [R.out]; exact ⟨rfl, hb⟩)
end Go.Proofs.YtelchfijalkibaaGreatDoor
/- The reference's In (is a time in a weekly window), walked. -/
set_option linter.unusedSimpArgs false
namespace Go.Proofs.YtelchfijalkibaaGreatDoor
open Go.RowKit Go.Lib

theorem tvw_any (x : Wn) (w : World) : Calls Tryz.prog 68 #[.agg #[.int .i64 x.1, .int .i64 x.2.1, .int .i64 x.2.2]] w fun e w' => e = .returned (.bool (vw x)) ∧ w.alloc (.cells #[.int .i64 x.1, .int .i64 x.2.1, .int .i64 x.2.2] 97) = w' := by
  unfold vw
  go_enter Tryz.func68, Tryz.ntmps68
  go_wp2
  all_goals (go_ret; exact ⟨ret_bool (by rw [Bool.eq_iff_iff]; simp; omega), rfl⟩)
end Go.Proofs.YtelchfijalkibaaGreatDoor
/- A discount that is valid: the reference's Check tells it; walked. -/
set_option linter.unusedSimpArgs false
namespace Go.Proofs.YtelchfijalkibaaGreatDoor
open Go.RowKit Go.Lib

/-- an Amount fits its kind -/
def amB (kd am : Int) : Bool := if kd = 1 then decide (0 ≤ am) && decide (am ≤ 1000) else if kd = 2 then decide (0 ≤ am) && decide (am ≤ 1125899906842624) else decide (am = 0)
def optB (s : ByteArray) : Bool := emp s || nameB s
structure DcOk (x : Dc) : Prop where
  n : nameB x.nm = true
  k : 1 ≤ x.kd ∧ x.kd ≤ 3
  a : amB x.kd x.am = true
  g : optB x.gr = true
  s : optB x.sy = true
  c : 0 ≤ x.cl ∧ x.cl ≤ 9
  w : (x.wd = 0 ∧ x.wf = 0 ∧ x.wt = 0) ∨ (x.wd ≠ 0 ∧ vw (x.wd, x.wf, x.wt) = true)
  l : 0 ≤ x.le ∧ x.le ≤ 2147483648
/-- an integer that is 0 exactly if P holds -/
def ZR (P : Prop) (e : Ending) : Prop := ∃ n : Int, e = .returned (.int .i64 n) ∧ (n = 0 ↔ P)
theorem ZR.no {P : Prop} {n : Int} (hn : n ≠ 0) (h : ¬ P) : ZR P (.returned (.int .i64 n)) := ⟨n, rfl, fun h0 => absurd h0 hn, fun hp => absurd hp h⟩
theorem ZR.yes {P : Prop} (h : P) : ZR P (.returned (.int .i64 0)) := ⟨0, rfl, fun _ => h, fun _ => rfl⟩

set_option maxRecDepth 100000 in
set_option maxHeartbeats 4000000 in
theorem amounts2_any (nm : ByteArray) (kd am : Int) (gr sy : ByteArray) (cl wd wf wt le : Int) (w : World) :
    Calls Tryz.prog 70 #[.agg #[.string nm, .int .i64 kd, .int .i64 am, .string gr, .string sy, .int .i64 cl, .int .i64 wd, .int .i64 wf, .int .i64 wt, .int .i64 le]] w fun e w' => e = .returned (.bool (amB kd am)) ∧ Below w.heap.size w w' := by
  obtain ⟨Y, hY⟩ : ∃ Y, w.alloc (.cells #[.string nm, .int .i64 kd, .int .i64 am, .string gr, .string sy, .int .i64 cl, .int .i64 wd, .int .i64 wf, .int .i64 wt, .int .i64 le] 99) = Y := ⟨_, rfl⟩
  have bW : Below w.heap.size w Y := by rw [← hY]; exact (Below.refl _ w).al _
  have B1 : Blk Y w.heap.size #[.string nm, .int .i64 kd, .int .i64 am, .string gr, .string sy, .int .i64 cl, .int .i64 wd, .int .i64 wf, .int .i64 wt, .int .i64 le] 99 := by rw [← hY]; exact Blk.new w _ _
  have z1 := B1.cell 1 (v := .int .i64 kd) rfl
  have z2 := B1.cell 2 (v := .int .i64 am) rfl
  clear B1
  generalize hr : amB kd am = r
  by_cases q1 : kd = 1
  · have q2 : (kd == 1) = true := by simp [q1]
    have R := Lib.hid (show r = (decide (0 ≤ am) && decide (am ≤ 1000)) by rw [← hr]; unfold amB; rw [if_pos q1])
    clear q1 hr
    by_cases a1 : 0 ≤ am
    · rw [decide_eq_true a1] at R
      go_enter Tryz.func70, Tryz.ntmps70
      go_wp2_with fail
      go_ret
      rw [R.out]
      exact ⟨ret_bool (by first | rfl | simp), bW⟩
    · rw [decide_eq_false a1] at R
      go_enter Tryz.func70, Tryz.ntmps70
      go_wp2_with fail
      go_ret
      rw [R.out]
      exact ⟨ret_bool (by first | rfl | simp), bW⟩
  · have q2 : (kd == 1) = false := by simp [q1]
    by_cases q3 : kd = 2
    · have q4 : (kd == 2) = true := by simp [q3]
      have R := Lib.hid (show r = (decide (0 ≤ am) && decide (am ≤ 1125899906842624)) by rw [← hr]; unfold amB; rw [if_neg q1, if_pos q3])
      clear q1 q3 hr
      by_cases a1 : 0 ≤ am
      · rw [decide_eq_true a1] at R
        go_enter Tryz.func70, Tryz.ntmps70
        go_wp2_with fail
        go_ret
        rw [R.out]
        exact ⟨ret_bool (by first | rfl | simp), bW⟩
      · rw [decide_eq_false a1] at R
        go_enter Tryz.func70, Tryz.ntmps70
        go_wp2_with fail
        go_ret
        rw [R.out]
        exact ⟨ret_bool (by first | rfl | simp), bW⟩
    · have q4 : (kd == 2) = false := by simp [q3]
      have R := Lib.hid (show r = (am == 0) by rw [← hr]; unfold amB; rw [if_neg q1, if_neg q3]; rfl)
      clear hr
      go_enter Tryz.func70, Tryz.ntmps70
      go_wp2_with fail
      go_ret
      rw [R.out]
      exact ⟨ret_bool (by first | rfl | simp), bW⟩
set_option maxRecDepth 100000 in
set_option maxHeartbeats 4000000 in
theorem dnamed2_any (s : ByteArray) (w : World) : Calls Tryz.prog 71 #[.string s] w fun e w' => e = .returned (.bool (optB s)) ∧ w' = w := by
  have CN := Lib.hid (fun (X : World) => r1name_any s X)
  unfold optB
  cases he : emp s
  · obtain ⟨e1, e2, e3⟩ := toList_neE he
    clear he
    go_enter Tryz.func71, Tryz.ntmps71
    go_wp2_with fail
    refine (CN.out _).mono ?_
    rintro e w' ⟨rfl, hw'⟩; rw [hw']; clear hw' w'
    go_wp2_with fail
    go_ret
    exact ⟨ret_bool (by first | rfl | simp), rfl⟩
  · obtain ⟨e1, e2, e3⟩ := toList_eE he
    clear he
    go_enter Tryz.func71, Tryz.ntmps71
    go_wp2_with fail
    go_ret
    exact ⟨ret_bool (by first | rfl | simp), rfl⟩

set_option maxRecDepth 100000 in
set_option maxHeartbeats 16000000 in
theorem dcheck2_any (x : Dc) (w : World) :
    Calls Tryz.prog 42 #[.agg #[.string x.nm, .int .i64 x.kd, .int .i64 x.am, .string x.gr, .string x.sy, .int .i64 x.cl, .int .i64 x.wd, .int .i64 x.wf, .int .i64 x.wt, .int .i64 x.le]] w fun e w' => ZR (DcOk x) e ∧ Below w.heap.size w w' := by
  obtain ⟨nm, kd, am, gr, sy, cl, wd, wf, wt, le⟩ := x
  obtain ⟨P, hP⟩ : ∃ P, DcOk ⟨nm, kd, am, gr, sy, cl, wd, wf, wt, le⟩ = P := ⟨_, rfl⟩
  have HO : Hid (P ↔ (nameB nm = true ∧ (1 ≤ kd ∧ kd ≤ 3) ∧ amB kd am = true ∧ optB gr = true ∧ optB sy = true ∧ (0 ≤ cl ∧ cl ≤ 9) ∧ ((wd = 0 ∧ wf = 0 ∧ wt = 0) ∨ (wd ≠ 0 ∧ vw (wd, wf, wt) = true)) ∧ (0 ≤ le ∧ le ≤ 2147483648))) := by
    rw [← hP]
    exact Lib.hid ⟨fun h => ⟨h.n, h.k, h.a, h.g, h.s, h.c, h.w, h.l⟩, fun ⟨h1, h2, h3, h4, h5, h6, h7, h8⟩ => ⟨h1, h2, h3, h4, h5, h6, h7, h8⟩⟩
  rw [hP]
  clear hP
  obtain ⟨Y, hY⟩ : ∃ Y, w.alloc (.cells #[.string nm, .int .i64 kd, .int .i64 am, .string gr, .string sy, .int .i64 cl, .int .i64 wd, .int .i64 wf, .int .i64 wt, .int .i64 le] 99) = Y := ⟨_, rfl⟩
  have bW : Below w.heap.size w Y := by rw [← hY]; exact (Below.refl _ w).al _
  have B1 : Blk Y w.heap.size #[.string nm, .int .i64 kd, .int .i64 am, .string gr, .string sy, .int .i64 cl, .int .i64 wd, .int .i64 wf, .int .i64 wt, .int .i64 le] 99 := by rw [← hY]; exact Blk.new w _ _
  have CN := Lib.hid (fun (X : World) => r1name_any nm X)
  have CA := Lib.hid (fun (X : World) => amounts2_any nm kd am gr sy cl wd wf wt le X)
  have C1 := Lib.hid (fun (s : ByteArray) (X : World) => dnamed2_any s X)
  have CW := Lib.hid (fun (X : World) => tvw_any (wd, wf, wt) X)
  have z0 := B1.cell 0 (v := .string nm) rfl; have z1 := B1.cell 1 (v := .int .i64 kd) rfl; have z2 := B1.cell 2 (v := .int .i64 am) rfl; have z3 := B1.cell 3 (v := .string gr) rfl; have z4 := B1.cell 4 (v := .string sy) rfl; have z5 := B1.cell 5 (v := .int .i64 cl) rfl; have z6 := B1.cell 6 (v := .int .i64 wd) rfl; have z7 := B1.cell 7 (v := .int .i64 wf) rfl; have z8 := B1.cell 8 (v := .int .i64 wt) rfl; have z9 := B1.cell 9 (v := .int .i64 le) rfl
  go_enter Tryz.func42, Tryz.ntmps42
  go_wp2_with fail
  refine (CN.out _).mono ?_
  rintro e w' ⟨rfl, hw'⟩
  rw [hw']
  clear hw' w' CN hY
  generalize hn : nameB nm = b1 at *
  have H1 := Lib.hid hn
  clear hn
  cases b1
  · go_wp2_with fail; go_ret; exact ⟨ZR.no (by simp) (fun hp => by have := (HO.out.1 hp).1; simp at this), bW⟩
  by_cases a1 : kd < 1
  · go_wp2_with fail; go_ret; exact ⟨ZR.no (by simp) (fun hp => by have := (HO.out.1 hp).2.1; omega), bW⟩
  by_cases a2 : 3 < kd
  · go_wp2_with fail; go_ret; exact ⟨ZR.no (by simp) (fun hp => by have := (HO.out.1 hp).2.1; omega), bW⟩
  have a1d : decide (kd < 1) = false := decide_eq_false a1
  have a2d : decide (3 < kd) = false := decide_eq_false a2
  go_wp2_with fail
  refine (CA.out _).mono ?_
  rintro e W2 ⟨rfl, hbn⟩
  have bW := bW.st hbn; have B1 := B1.below hbn B1.lt; clear hbn z0 z1 z2 z3 z4 z5 z6 z7 z8 z9
  generalize hm : amB kd am = b2 at *
  cases b2
  · clear hm
    go_wp2_with fail; go_ret; exact ⟨ZR.no (by simp) (fun hp => by have := (HO.out.1 hp).2.2.1; simp at this), bW⟩
  clear hm CA
  have z0 := B1.cell 0 (v := .string nm) rfl; have z1 := B1.cell 1 (v := .int .i64 kd) rfl; have z2 := B1.cell 2 (v := .int .i64 am) rfl; have z3 := B1.cell 3 (v := .string gr) rfl; have z4 := B1.cell 4 (v := .string sy) rfl; have z5 := B1.cell 5 (v := .int .i64 cl) rfl; have z6 := B1.cell 6 (v := .int .i64 wd) rfl; have z7 := B1.cell 7 (v := .int .i64 wf) rfl; have z8 := B1.cell 8 (v := .int .i64 wt) rfl; have z9 := B1.cell 9 (v := .int .i64 le) rfl
  go_wp2_with fail
  refine (C1.out _ _).mono ?_
  rintro e w' ⟨rfl, hw'⟩; rw [hw']; clear hw' w'
  generalize hm : optB gr = b2 at *
  cases b2
  · clear hm
    go_wp2_with fail; go_ret; exact ⟨ZR.no (by simp) (fun hp => by have := (HO.out.1 hp).2.2.2.1; simp at this), bW⟩
  clear hm
  go_wp2_with fail
  refine (C1.out _ _).mono ?_
  rintro e w' ⟨rfl, hw'⟩; rw [hw']; clear hw' w'
  generalize hm : optB sy = b2 at *
  cases b2
  · clear hm
    go_wp2_with fail; go_ret; exact ⟨ZR.no (by simp) (fun hp => by have := (HO.out.1 hp).2.2.2.2.1; simp at this), bW⟩
  clear hm
  by_cases a3 : cl < 0
  · go_wp2_with fail; go_ret; exact ⟨ZR.no (by simp) (fun hp => by have := (HO.out.1 hp).2.2.2.2.2.1; omega), bW⟩
  by_cases a4 : 9 < cl
  · go_wp2_with fail; go_ret; exact ⟨ZR.no (by simp) (fun hp => by have := (HO.out.1 hp).2.2.2.2.2.1; omega), bW⟩
  by_cases a5 : wd = 0
  · subst a5
    clear CW
    by_cases a6 : wf = 0
    · subst a6
      by_cases a7 : wt = 0
      · subst a7
        by_cases a8 : le < 0
        · go_wp2_with fail; go_ret; exact ⟨ZR.no (by simp) (fun hp => by have := (HO.out.1 hp).2.2.2.2.2.2.2; omega), bW⟩
        by_cases a9 : 2147483648 < le
        · go_wp2_with fail; go_ret; exact ⟨ZR.no (by simp) (fun hp => by have := (HO.out.1 hp).2.2.2.2.2.2.2; omega), bW⟩
        go_wp2_with fail; go_ret; exact ⟨ZR.yes (HO.out.2 (by simp; omega)), bW⟩
      · have a8 : (wt != 0) = true := by simp [a7]
        have HA := Lib.hid a7
        clear a7
        go_wp2_with fail; go_ret; exact ⟨ZR.no (by simp) (fun hp => by have := (HO.out.1 hp).2.2.2.2.2.2.1; rcases this with h | h; (exact HA.out h.2.2); (exact absurd rfl h.1)), bW⟩
    · have a8 : (wf != 0) = true := by simp [a6]
      have HA := Lib.hid a6
      clear a6
      go_wp2_with fail; go_ret; exact ⟨ZR.no (by simp) (fun hp => by have := (HO.out.1 hp).2.2.2.2.2.2.1; rcases this with h | h; (exact HA.out h.2.1); (exact absurd rfl h.1)), bW⟩
  · have a6 : (wd != 0) = true := by simp [a5]
    have a7 : (wd == 0) = false := by simp [a5]
    have HA := Lib.hid a5
    clear a5
    go_wp2_with fail
    refine (CW.out _).mono ?_
    rintro e W3 ⟨rfl, hY3⟩
    have hbn : Below W2.heap.size W2 W3 := by rw [← hY3]; exact (Below.refl _ W2).al _
    clear hY3 CW
    have bW := bW.st hbn; have B1 := B1.below hbn B1.lt; clear hbn z0 z1 z2 z3 z4 z5 z6 z7 z8 z9
    generalize hm : vw (wd, wf, wt) = b2 at *
    cases b2
    · clear hm
      go_wp2_with fail; go_ret; exact ⟨ZR.no (by simp) (fun hp => by have := (HO.out.1 hp).2.2.2.2.2.2.1; rcases this with h | h; (exact HA.out h.1); (simp at h)), bW⟩
    clear hm
    have z0 := B1.cell 0 (v := .string nm) rfl; have z1 := B1.cell 1 (v := .int .i64 kd) rfl; have z2 := B1.cell 2 (v := .int .i64 am) rfl; have z3 := B1.cell 3 (v := .string gr) rfl; have z4 := B1.cell 4 (v := .string sy) rfl; have z5 := B1.cell 5 (v := .int .i64 cl) rfl; have z6 := B1.cell 6 (v := .int .i64 wd) rfl; have z7 := B1.cell 7 (v := .int .i64 wf) rfl; have z8 := B1.cell 8 (v := .int .i64 wt) rfl; have z9 := B1.cell 9 (v := .int .i64 le) rfl
    by_cases a8 : le < 0
    · go_wp2_with fail; go_ret; exact ⟨ZR.no (by simp) (fun hp => by have := (HO.out.1 hp).2.2.2.2.2.2.2; omega), bW⟩
    by_cases a9 : 2147483648 < le
    · go_wp2_with fail; go_ret; exact ⟨ZR.no (by simp) (fun hp => by have := (HO.out.1 hp).2.2.2.2.2.2.2; omega), bW⟩
    go_wp2_with fail; go_ret; exact ⟨ZR.yes (HO.out.2 (by have hA := HA.out; simp [hA]; omega)), bW⟩

end Go.Proofs.YtelchfijalkibaaGreatDoor
