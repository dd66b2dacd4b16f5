/- zone.Check, walked. -/
import Derived.Test.YtfilfdkbchkpmaaZoneSteps2
import Derived.Test.YtfilfdkbchkpmaaZoneWords
namespace Go.Proofs.Ytfilfdkbchkpmaa
open Go.RowKit Go.Lib

set_option maxRecDepth 100000 in
set_option maxHeartbeats 4000000 in
theorem zcheck_any (z : Zn) {w : World} (h : ZOk w z) :
    Calls Try.prog 23 #[ZV z] w fun e w' => e = .returned (.int .i64 (checkE z)) ∧ Below w.heap.size w w' := by
  have hname := @checkE_name z
  have hhours := @checkE_hours z
  have hwin := @checkE_win z
  have hstep := @checkE_step z
  have htail := @checkE_tail z
  have t12 := @tailE_12 z
  have t13 := @tailE_13 z
  have t0 := @tailE_0 z
  generalize checkE z = r at *
  generalize tailE z = u at *
  obtain ⟨nm, hA, hc, hs, sA, sc, ss, gr, fr, dm, ms⟩ := z
  have h1 : Rd encW 3 w w.heap.size hA hs := h.1
  have h2 : Rd encW 3 w w.heap.size sA ss := h.2
  clear h
  simp only [ZV] at *
  cases hn : nameB nm
  · have R := Lib.hid (hname hn)
    have HN := Lib.hid hn
    clear hname hhours hwin hstep htail t12 t13 t0 hn h1 h2
    go_enter Try.func23, Try.ntmps23
    go_wp2_with (go_at_call 41; (refine (name_any _ _).mono ?_); rw [HN.out]; rintro e w1 ⟨rfl, hb1⟩)
    all_goals (go_ret; rw [R.out]; exact ⟨rfl, ((Below.refl _ w).al _).st (by assumption)⟩)
  · by_cases h32 : 32 < hs.length
    · have R := Lib.hid (hhours hn h32)
      have HN := Lib.hid hn
      clear hname hhours hwin hstep htail t12 t13 t0 hn h1 h2
      go_enter Try.func23, Try.ntmps23
      go_wp2_with (go_at_call 41; (refine (name_any _ _).mono ?_); rw [HN.out]; rintro e w1 ⟨rfl, hb1⟩; have b1 := box_cell hb1 (by simp) 1 _ rfl)
      all_goals (go_ret; rw [R.out]; exact ⟨rfl, ((Below.refl _ w).al _).st (by assumption)⟩)
    · have HN := Lib.hid hn
      have Hwin := Lib.hid (hwin hn h32)
      have Hstep := Lib.hid (hstep hn h32)
      have Htail := Lib.hid (htail hn h32)
      have T12 := Lib.hid t12
      have T13 := Lib.hid t13
      have T0 := Lib.hid t0
      clear hname hhours hwin hstep htail t12 t13 t0 hn
      go_enter Try.func23, Try.ntmps23
      go_wp2_with fail
      refine (name_any _ _).mono ?_
      rw [HN.out]
      rintro e w1 ⟨rfl, hb1⟩
      have hb0 : Below w.heap.size w w1 := ((Below.refl _ w).al _).st hb1
      have hz0 : w.heap.size < w1.heap.size := by have := hb1.size; simp at this; omega
      have b1 := box_cell hb1 (by simp) 1 _ rfl
      have b2 := box_cell hb1 (by simp) 2 _ rfl
      have b3 := box_cell hb1 (by simp) 3 _ rfl
      have b4 := box_cell hb1 (by simp) 4 _ rfl
      have b5 := box_cell hb1 (by simp) 5 _ rfl
      have b6 := box_cell hb1 (by simp) 6 _ rfl
      have h1' := h1.st hb0
      have h2' := h2.st hb0
      clear h1 h2 hb1
      go_wp2_with fail
      go_loopw [17] (fun i wr => ∃ k : Nat, k ≤ hs.length ∧ i = .int .i64 k ∧ Hid (∀ y ∈ hs.take k, vw y = true) ∧ Below w1.heap.size w1 wr) (fun i _ => hs.length - (intOf i).toNat)
      case atStart => exact ⟨0, Nat.zero_le _, rfl, (by unfold Hid; simp), Below.refl _ _⟩
      case round =>
        obtain ⟨k, hk, rfl, HV, hbr⟩ := hrel
        have bel := hb0.st hbr
        by_cases hi : k < hs.length
        · obtain ⟨b, off, x, y, z, rfl, hb, hx, d0, d1, d2⟩ := (h1'.keep hbr).w3 hi
          have hi2 : (k : Int) < (hs.length : Int) := by omega
          have hb2 := (hbr.al (.cells #[.int .i64 x, .int .i64 y, .int .i64 z] 80)).al (.cells #[.int .i64 x, .int .i64 y, .int .i64 z] 80)
          have bel2 := hb0.st hb2
          cases hv : vw (x, y, z)
          · have R := Lib.hid (Hwin.out (all_no hx hv))
            have HV2 := Lib.hid hv
            clear hx hv b1 b2 b3 b4 b5 b6 h1' h2'
            go_wp2_with (go_at_call 42; (refine (zvalid_any (x, y, z) _).mono ?_); rw [HV2.out]; rintro e w' ⟨rfl, rfl⟩)
            all_goals (go_ret; rw [R.out]; exact ⟨rfl, bel2⟩)
          · have R := Lib.hid (all_succ hx HV.out hv)
            have HV2 := Lib.hid hv
            clear hx hv b1 b2 b3 b4 b5 b6 h1' h2'
            go_wp2_with (go_at_call 42; (refine (zvalid_any (x, y, z) _).mono ?_); rw [HV2.out]; rintro e w' ⟨rfl, rfl⟩)
            go_roundw
            case rel => exact ⟨k + 1, by omega, by go_num, R, hb2⟩
            case measure => simp [intOf]; omega
        · obtain rfl : k = hs.length := by omega
          have HA := Lib.hid (all_yes HV.out)
          have c2 := (hbr.cell (p := ⟨w.heap.size, 2, none⟩) hz0).trans b2
          have c3 := (hbr.cell (p := ⟨w.heap.size, 3, none⟩) hz0).trans b3
          have c4 := (hbr.cell (p := ⟨w.heap.size, 4, none⟩) hz0).trans b4
          have c5 := (hbr.cell (p := ⟨w.heap.size, 5, none⟩) hz0).trans b5
          have c6 := (hbr.cell (p := ⟨w.heap.size, 6, none⟩) hz0).trans b6
          have C := Lib.hid (steps_any sc (h2'.st hbr))
          have hz1 : w.heap.size < wr.heap.size := Nat.lt_of_lt_of_le hz0 hbr.size
          clear b1 b2 b3 b4 b5 b6 h1' h2' HV hbr hb0
          by_cases he : stepsE ss = 0
          · have RT := Lib.hid (Htail.out HA.out he)
            have HE := Lib.hid he
            clear he Hstep Hwin Htail HA
            go_wp2_with fail
            refine C.out.mono ?_
            rw [HE.out]
            rintro e w2 ⟨rfl, hb2⟩
            have bel2 := bel.st hb2
            have d3 := (hb2.cell (p := ⟨w.heap.size, 3, none⟩) hz1).trans c3
            have d4 := (hb2.cell (p := ⟨w.heap.size, 4, none⟩) hz1).trans c4
            have d5 := (hb2.cell (p := ⟨w.heap.size, 5, none⟩) hz1).trans c5
            have d6 := (hb2.cell (p := ⟨w.heap.size, 6, none⟩) hz1).trans c6
            clear c2 c3 c4 c5 c6 C hb2 bel
            cases g1 : decide (0 ≤ gr ∧ gr ≤ 68719476736)
            · have R := Lib.hid (RT.out.trans (T12.out fun q => dec_no g1 q.1))
              have G1 := Lib.hid g1
              have G2 := G1; have G3 := G1; have G4 := G1
              clear g1
              go_wp2_with (go_at_call 44; (first | (with_reducible refine (zwithin_is G1.out _).mono ?_) | (with_reducible refine (zwithin_is G2.out _).mono ?_) | (with_reducible refine (zwithin_is G3.out _).mono ?_) | (with_reducible refine (zwithin_is G4.out _).mono ?_)); rintro e w' ⟨rfl, rfl⟩)
              all_goals (go_ret; rw [R.out]; exact ⟨rfl, bel2⟩)
            · cases g2 : decide (0 ≤ fr ∧ fr ≤ 68719476736)
              · have R := Lib.hid (RT.out.trans (T12.out fun q => dec_no g2 q.2.1))
                have G1 := Lib.hid g1
                have G2 := Lib.hid g2
                have G3 := G1; have G4 := G1
                clear g1 g2
                go_wp2_with (go_at_call 44; (first | (with_reducible refine (zwithin_is G1.out _).mono ?_) | (with_reducible refine (zwithin_is G2.out _).mono ?_) | (with_reducible refine (zwithin_is G3.out _).mono ?_) | (with_reducible refine (zwithin_is G4.out _).mono ?_)); rintro e w' ⟨rfl, rfl⟩)
                all_goals (go_ret; rw [R.out]; exact ⟨rfl, bel2⟩)
              · cases g3 : decide (0 ≤ ms ∧ ms ≤ 68719476736)
                · have R := Lib.hid (RT.out.trans (T12.out fun q => dec_no g3 q.2.2))
                  have G1 := Lib.hid g1
                  have G2 := Lib.hid g2
                  have G3 := Lib.hid g3
                  have G4 := G1
                  clear g1 g2 g3
                  go_wp2_with (go_at_call 44; (first | (with_reducible refine (zwithin_is G1.out _).mono ?_) | (with_reducible refine (zwithin_is G2.out _).mono ?_) | (with_reducible refine (zwithin_is G3.out _).mono ?_) | (with_reducible refine (zwithin_is G4.out _).mono ?_)); rintro e w' ⟨rfl, rfl⟩)
                  all_goals (go_ret; rw [R.out]; exact ⟨rfl, bel2⟩)
                · have HQ := And.intro (dec_yes g1) (And.intro (dec_yes g2) (dec_yes g3))
                  cases g4 : decide (0 ≤ dm ∧ dm ≤ 1125899906842624)
                  · have R := Lib.hid (RT.out.trans (T13.out HQ (dec_no g4)))
                    have G1 := Lib.hid g1
                    have G2 := Lib.hid g2
                    have G3 := Lib.hid g3
                    have G4 := Lib.hid g4
                    clear g1 g2 g3 g4 HQ
                    go_wp2_with (go_at_call 44; (first | (with_reducible refine (zwithin_is G1.out _).mono ?_) | (with_reducible refine (zwithin_is G2.out _).mono ?_) | (with_reducible refine (zwithin_is G3.out _).mono ?_) | (with_reducible refine (zwithin_is G4.out _).mono ?_)); rintro e w' ⟨rfl, rfl⟩)
                    all_goals (go_ret; rw [R.out]; exact ⟨rfl, bel2⟩)
                  · have R := Lib.hid (RT.out.trans (T0.out HQ (dec_yes g4)))
                    have G1 := Lib.hid g1
                    have G2 := Lib.hid g2
                    have G3 := Lib.hid g3
                    have G4 := Lib.hid g4
                    clear g1 g2 g3 g4 HQ
                    go_wp2_with (go_at_call 44; (first | (with_reducible refine (zwithin_is G1.out _).mono ?_) | (with_reducible refine (zwithin_is G2.out _).mono ?_) | (with_reducible refine (zwithin_is G3.out _).mono ?_) | (with_reducible refine (zwithin_is G4.out _).mono ?_)); rintro e w' ⟨rfl, rfl⟩)
                    all_goals (go_ret; rw [R.out]; exact ⟨rfl, bel2⟩)
          · have R := Lib.hid (Hstep.out HA.out he)
            generalize stepsE ss = v at *
            have hv : (v != 0) = true := by simp [he]
            clear he c3 c4 c5 c6 Hwin Htail HA
            go_wp2_with fail
            refine C.out.mono ?_
            rintro e w2 ⟨rfl, hb2⟩
            go_wp2_with fail
            all_goals (go_ret; rw [R.out]; exact ⟨rfl, bel.st hb2⟩)
end Go.Proofs.Ytfilfdkbchkpmaa
