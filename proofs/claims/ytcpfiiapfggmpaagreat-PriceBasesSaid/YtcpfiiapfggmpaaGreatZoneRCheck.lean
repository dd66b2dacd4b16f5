/- The reference's Check of a zone, walked. -/
import Derived.Test.YtcpfiiapfggmpaaGreatJZoneAllMath
import Derived.Test.YtcpfiiapfggmpaaGreatJZoneLeaf
namespace Go.Proofs.YtcpfiiapfggmpaaGreat
open Go.RowKit Go.Lib

set_option maxRecDepth 100000 in
set_option maxHeartbeats 4000000 in
theorem rcheck_any (z : Zn) {w : World} (h : ZOk w z) :
    Calls Tryz.prog 63 #[ZV z] w fun e w' => e = .returned (.int .i64 (checkE z)) ∧ Below w.heap.size w w' := by
  have hname := @checkE_name z
  have hhours := @checkE_hours z
  have hwin := @checkE_win z
  have hstep := @checkE_step z
  have htail := @checkE_tail z
  have t12 := @tailE_12 z
  have t13 := @tailE_13 z
  have t0 := @tailE_0 z
  generalize checkE z = r at *
  generalize tailE z = u at *
  obtain ⟨nm, hA, hc, hs, sA, sc, ss, gr, fr, dm, ms⟩ := z
  have h1 : Rd encW 3 w w.heap.size hA hs := h.1
  have h2 : Rd encW 3 w w.heap.size sA ss := h.2
  clear h
  simp only [ZV] at *
  cases hn : nameB nm
  · have R := Lib.hid (hname hn)
    have HN := Lib.hid hn
    clear hname hhours hwin hstep htail t12 t13 t0 hn h1 h2
    go_enter Tryz.func63, Tryz.ntmps63
    go_wp2_with (go_at_call 104; (refine (rIsName_any _ _).mono ?_); rw [HN.out]; rintro e w1 ⟨rfl, rfl⟩)
    all_goals (go_ret; rw [R.out]; exact ⟨rfl, (Below.refl _ w).al _⟩)
  · by_cases h32 : 32 < hs.length
    · have R := Lib.hid (hhours hn h32)
      have HN := Lib.hid hn
      clear hname hhours hwin hstep htail t12 t13 t0 hn h1 h2
      go_enter Tryz.func63, Tryz.ntmps63
      go_wp2_with (go_at_call 104; (refine (rIsName_any _ _).mono ?_); rw [HN.out]; rintro e w1 ⟨rfl, rfl⟩)
      all_goals (go_ret; rw [R.out]; exact ⟨rfl, (Below.refl _ w).al _⟩)
    · have HN := Lib.hid hn
      have Hwin := Lib.hid (hwin hn h32)
      have Hstep := Lib.hid (hstep hn h32)
      have Htail := Lib.hid (htail hn h32)
      have T12 := Lib.hid t12
      have T13 := Lib.hid t13
      have T0 := Lib.hid t0
      clear hname hhours hwin hstep htail t12 t13 t0 hn
      go_enter Tryz.func63, Tryz.ntmps63
      go_wp2_with (go_at_call 104; (refine (rIsName_any _ _).mono ?_); rw [HN.out]; rintro e w1 ⟨rfl, rfl⟩)
      have hb0 : Below w.heap.size w (w.alloc (.cells #[.string nm, .slice hA hs.length hc, .slice sA ss.length sc, .int .i64 gr, .int .i64 fr, .int .i64 dm, .int .i64 ms] 76)) := (Below.refl _ w).al _
      have hz0 : w.heap.size < (w.alloc (.cells #[.string nm, .slice hA hs.length hc, .slice sA ss.length sc, .int .i64 gr, .int .i64 fr, .int .i64 dm, .int .i64 ms] 76)).heap.size := by simp
      have b1 := box_cell (Below.refl _ (w.alloc (.cells #[.string nm, .slice hA hs.length hc, .slice sA ss.length sc, .int .i64 gr, .int .i64 fr, .int .i64 dm, .int .i64 ms] 76))) hz0 1 _ rfl
      have b2 := box_cell (Below.refl _ (w.alloc (.cells #[.string nm, .slice hA hs.length hc, .slice sA ss.length sc, .int .i64 gr, .int .i64 fr, .int .i64 dm, .int .i64 ms] 76))) hz0 2 _ rfl
      have b3 := box_cell (Below.refl _ (w.alloc (.cells #[.string nm, .slice hA hs.length hc, .slice sA ss.length sc, .int .i64 gr, .int .i64 fr, .int .i64 dm, .int .i64 ms] 76))) hz0 3 _ rfl
      have b4 := box_cell (Below.refl _ (w.alloc (.cells #[.string nm, .slice hA hs.length hc, .slice sA ss.length sc, .int .i64 gr, .int .i64 fr, .int .i64 dm, .int .i64 ms] 76))) hz0 4 _ rfl
      have b5 := box_cell (Below.refl _ (w.alloc (.cells #[.string nm, .slice hA hs.length hc, .slice sA ss.length sc, .int .i64 gr, .int .i64 fr, .int .i64 dm, .int .i64 ms] 76))) hz0 5 _ rfl
      have b6 := box_cell (Below.refl _ (w.alloc (.cells #[.string nm, .slice hA hs.length hc, .slice sA ss.length sc, .int .i64 gr, .int .i64 fr, .int .i64 dm, .int .i64 ms] 76))) hz0 6 _ rfl
      have h1' := h1.st hb0
      have h2' := h2.st hb0
      clear h1 h2
      generalize w.alloc (.cells #[.string nm, .slice hA hs.length hc, .slice sA ss.length sc, .int .i64 gr, .int .i64 fr, .int .i64 dm, .int .i64 ms] 76) = w1 at *
      go_loopw [3] (fun i wr => ∃ k : Nat, k ≤ hs.length ∧ i = .int .i64 k ∧ Hid (∀ y ∈ hs.take k, vw y = true) ∧ Below w1.heap.size w1 wr) (fun i _ => hs.length - (RowKit.intOf i).toNat)
      case atStart => exact ⟨0, Nat.zero_le _, rfl, (by unfold Hid; simp), Below.refl _ _⟩
      case round =>
        obtain ⟨k, hk, rfl, HV, hbr⟩ := hrel
        have bel := hb0.st hbr
        have c1 := (hbr.cell (p := ⟨w.heap.size, 1, none⟩) hz0).trans b1
        by_cases hi : k < hs.length
        · obtain ⟨b, off, x, y, z, rfl, hb, hx, d0, d1, d2⟩ := (h1'.keep hbr).w3 hi
          have hi2 : (k : Int) < (hs.length : Int) := by omega
          have hb2 := hbr.al (.cells #[.int .i64 x, .int .i64 y, .int .i64 z] 91)
          cases hv : vw (x, y, z)
          · have R := Lib.hid (Hwin.out (all_no hx hv))
            have HV2 := Lib.hid hv
            clear hx hv b1 b2 b3 b4 b5 b6 h1' h2'
            go_wp2_with (go_at_call 105; (refine (rIsWindow_any (x, y, z) _).mono ?_); rw [HV2.out]; rintro e w' ⟨rfl, rfl⟩)
            all_goals (go_ret; rw [R.out]; exact ⟨rfl, bel.al _⟩)
          · have R := Lib.hid (all_succ hx HV.out hv)
            have HV2 := Lib.hid hv
            clear hx hv b1 b2 b3 b4 b5 b6 h1' h2'
            go_wp2_with (go_at_call 105; (refine (rIsWindow_any (x, y, z) _).mono ?_); rw [HV2.out]; rintro e w' ⟨rfl, rfl⟩)
            go_roundw
            case rel => exact ⟨k + 1, by omega, by go_num, R, hb2⟩
            case measure => simp [RowKit.intOf]; omega
        · obtain rfl : k = hs.length := by omega
          have HA := Lib.hid (all_yes HV.out)
          have c2 := (hbr.cell (p := ⟨w.heap.size, 2, none⟩) hz0).trans b2
          have c3 := (hbr.cell (p := ⟨w.heap.size, 3, none⟩) hz0).trans b3
          have c4 := (hbr.cell (p := ⟨w.heap.size, 4, none⟩) hz0).trans b4
          have c5 := (hbr.cell (p := ⟨w.heap.size, 5, none⟩) hz0).trans b5
          have c6 := (hbr.cell (p := ⟨w.heap.size, 6, none⟩) hz0).trans b6
          have h2 := h2'.st hbr
          have hz1 : w.heap.size < wr.heap.size := Nat.lt_of_lt_of_le hz0 hbr.size
          clear b1 b2 b3 b4 b5 b6 h1' h2' HV hbr hb0
          by_cases h16 : 16 < ss.length
          · have E : stepsE ss = 3 := by simp [stepsE, h16]
            have R := Lib.hid (show r = 3 by rw [Hstep.out HA.out (by rw [E]; decide), E])
            clear E
            go_wp2
            all_goals (go_ret; rw [R.out]; exact ⟨rfl, bel⟩)
          · by_cases h0 : ss.length = 0
            · have E : stepsE ss = 1 := by simp [stepsE, h0]
              have R := Lib.hid (show r = 1 by rw [Hstep.out HA.out (by rw [E]; decide), E])
              clear E
              go_wp2
              all_goals (go_ret; rw [R.out]; exact ⟨rfl, bel⟩)
            · have E := Lib.hid (show stepsE ss = firstE (stepE ss) ss.length by simp [stepsE, h16, h0])
              obtain ⟨wo, rfl⟩ : ∃ wo : World, wo = wr := ⟨_, rfl⟩
              have hl0 : ((ss.length : Int) == 0) = false := beq_eq_false_iff_ne.2 (by omega)
              go_wp2
              go_loopw [4] (fun i wr => ∃ k : Nat, k ≤ ss.length ∧ i = .int .i64 k ∧ Hid (∀ j, j < k → stepE ss j = 0) ∧ Below wo.heap.size wo wr) (fun i _ => ss.length - (RowKit.intOf i).toNat)
              case atStart => exact ⟨0, Nat.zero_le _, rfl, fun j hj => absurd hj (Nat.not_lt_zero _), Below.refl _ _⟩
              case round =>
                obtain ⟨k, hk, rfl, HZ, hbr⟩ := hrel
                have d2 := (hbr.cell (p := ⟨w.heap.size, 2, none⟩) hz1).trans c2
                have bel2 := bel.st hbr
                by_cases hi : k < ss.length
                · have C := Lib.hid (rstep_any sc (h2.st hbr) hi (by omega))
                  clear c2 c3 c4 c5 c6 c1 h2
                  by_cases he : stepE ss k = 0
                  · have R := Lib.hid (firstE_up HZ.out he)
                    have HE := Lib.hid he
                    clear he
                    go_wp2_with (go_at_call 106; (refine C.out.mono ?_); rw [HE.out]; rintro e w' ⟨rfl, n, rfl⟩)
                    go_roundw
                    case rel => exact ⟨k + 1, by omega, by go_num, R, below_drewN hbr _⟩
                    case measure => simp [RowKit.intOf]; omega
                  · have R := Lib.hid (show r = stepE ss k by rw [Hstep.out HA.out (by rw [E.out, firstE_some HZ.out hi he]; exact he), E.out, firstE_some HZ.out hi he])
                    generalize stepE ss k = v at *
                    have hv : (v != 0) = true := by simp [he]
                    clear he
                    go_wp2_with (go_at_call 106; (refine C.out.mono ?_); rintro e w' ⟨rfl, n, rfl⟩)
                    all_goals (go_ret; rw [R.out]; exact ⟨rfl, below_drewN bel2 _⟩)
                · obtain rfl : k = ss.length := by omega
                  have RT := Lib.hid (Htail.out HA.out (by rw [E.out, firstE_none HZ.out]))
                  have d3 := (hbr.cell (p := ⟨w.heap.size, 3, none⟩) hz1).trans c3
                  have d4 := (hbr.cell (p := ⟨w.heap.size, 4, none⟩) hz1).trans c4
                  have d5 := (hbr.cell (p := ⟨w.heap.size, 5, none⟩) hz1).trans c5
                  have d6 := (hbr.cell (p := ⟨w.heap.size, 6, none⟩) hz1).trans c6
                  clear c1 c2 c3 c4 c5 c6 HZ Hstep Hwin Htail E HA h2 hbr bel
                  by_cases q : (0 ≤ gr ∧ gr ≤ 68719476736) ∧ (0 ≤ fr ∧ fr ≤ 68719476736) ∧ (0 ≤ ms ∧ ms ≤ 68719476736)
                  · by_cases q2 : 0 ≤ dm ∧ dm ≤ 1125899906842624
                    · have R := Lib.hid (RT.out.trans (T0.out q q2))
                      obtain ⟨⟨q10, q11⟩, ⟨q20, q21⟩, q30, q31⟩ := q
                      obtain ⟨q40, q41⟩ := q2
                      go_wp2
                      all_goals (go_ret; rw [R.out]; exact ⟨rfl, bel2⟩)
                    · have R := Lib.hid (RT.out.trans (T13.out q q2))
                      obtain ⟨⟨q10, q11⟩, ⟨q20, q21⟩, q30, q31⟩ := q
                      go_wp2
                      all_goals first | (go_ret; rw [R.out]; exact ⟨rfl, bel2⟩) | (exfalso; omega)
                  · have R := Lib.hid (RT.out.trans (T12.out q))
                    go_wp2
                    all_goals first | (go_ret; rw [R.out]; exact ⟨rfl, bel2⟩) | (exfalso; omega)
end Go.Proofs.YtcpfiiapfggmpaaGreat
