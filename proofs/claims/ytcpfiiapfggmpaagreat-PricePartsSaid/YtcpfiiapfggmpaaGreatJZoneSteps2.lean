/- Joined texts: ZoneSteps2, ZoneZCheck. -/
import Derived.Test.YtcpfiiapfggmpaaGreatJZoneAllMath
import Derived.Test.YtcpfiiapfggmpaaGreatJZoneLeaf
/- zone.steps, walked. -/
namespace Go.Proofs.YtcpfiiapfggmpaaGreat
open Go.RowKit Go.Lib

theorem zwithin_is {n a b : Int} {r : Bool} (h : decide (a ≤ n ∧ n ≤ b) = r) (w : World) :
    Calls Tryz.prog 153 #[.int .i64 n, .int .i64 a, .int .i64 b] w fun e w' => e = .returned (.bool r) ∧ w' = w := by
  subst h
  exact zwithin_any n a b w
theorem dec_yes {n a b : Int} (h : decide (a ≤ n ∧ n ≤ b) = true) : a ≤ n ∧ n ≤ b := of_decide_eq_true h
theorem dec_no {n a b : Int} (h : decide (a ≤ n ∧ n ≤ b) = false) : ¬ (a ≤ n ∧ n ≤ b) := of_decide_eq_false h

set_option maxHeartbeats 4000000 in
theorem steps_any {A : Option Addr} (c : Nat) {ss : List Wn} {w : World} (h : Rd encW 3 w w.heap.size A ss) :
    Calls Tryz.prog 152 #[.slice A ss.length c] w fun e w' => e = .returned (.int .i64 (stepsE ss)) ∧ Below w.heap.size w w' := by
  generalize hr : stepsE ss = r
  by_cases h16 : 16 < ss.length
  · have R := Lib.hid (show r = 3 by rw [← hr]; simp [stepsE, h16])
    clear hr
    go_enter Tryz.func152, Tryz.ntmps152
    go_wp2
    all_goals (go_ret; rw [R.out]; exact ⟨rfl, Below.refl _ _⟩)
  · by_cases h0 : ss.length = 0
    · have R := Lib.hid (show r = 1 by rw [← hr]; simp [stepsE, h0])
      clear hr
      go_enter Tryz.func152, Tryz.ntmps152
      go_wp2
      all_goals (go_ret; rw [R.out]; exact ⟨rfl, Below.refl _ _⟩)
    · have HR := Lib.hid (show r = firstE (stepE ss) ss.length by rw [← hr]; simp [stepsE, h16, h0])
      clear hr
      have hl0 : ((ss.length : Int) == 0) = false := beq_eq_false_iff_ne.2 (by omega)
      go_enter Tryz.func152, Tryz.ntmps152
      go_wp2
      go_loopw [16] (fun i wr => ∃ k : Nat, k ≤ ss.length ∧ i = .int .i64 k ∧ Hid (∀ j, j < k → stepE ss j = 0) ∧ Below w.heap.size w wr) (fun i _ => ss.length - (RowKit.intOf i).toNat)
      case atStart => exact ⟨0, Nat.zero_le _, rfl, fun j hj => absurd hj (Nat.not_lt_zero _), Below.refl _ _⟩
      case round =>
        obtain ⟨k, hk, rfl, HZ, hbel⟩ := hrel
        by_cases hi : k < ss.length
        · have hp := fun h0 : k ≠ 0 => (h.keep hbel).w3 (i := k - 1) (by omega)
          obtain ⟨b, off, x, y, z, rfl, hb, hx, c0, c1, c2⟩ := (h.keep hbel).w3 hi
          clear h
          have he := stepE_at hx
          have hi1 : (0 : Int) ≤ (k : Int) := by omega
          have hi2 : (k : Int) < (ss.length : Int) := by omega
          have hbw : b < wr.heap.size := Nat.lt_of_lt_of_le hb hbel.size
          have hbal : Below w.heap.size w (wr.alloc (.cells #[.int .i64 x, .int .i64 y, .int .i64 z] 228)) := hbel.al _
          clear hx
          cases hy : decide (1 ≤ y ∧ y ≤ 68719476736)
          · rw [stepX_bad (fun q => dec_no hy q.1)] at he
            have R := Lib.hid (show r = 1 by rw [HR.out, firstE_some HZ.out hi (by rw [he]; decide), he])
            have Hy := Lib.hid hy
            clear hp he hy
            go_wp2_with (go_at_call 153; (first | (with_reducible refine (zwithin_is Hy.out _).mono ?_) | (with_reducible refine (zwithin_is Hz.out _).mono ?_) | (with_reducible refine (zwithin_is Hx.out _).mono ?_)); rintro e w' ⟨rfl, rfl⟩)
            all_goals (go_ret; rw [R.out]; exact ⟨rfl, hbal⟩)
          · cases hz : decide (0 ≤ z ∧ z ≤ 2147483648)
            · rw [stepX_bad (fun q => dec_no hz q.2)] at he
              have R := Lib.hid (show r = 1 by rw [HR.out, firstE_some HZ.out hi (by rw [he]; decide), he])
              have Hy := Lib.hid hy
              have Hz := Lib.hid hz
              clear hp he hy hz
              go_wp2_with (go_at_call 153; (first | (with_reducible refine (zwithin_is Hy.out _).mono ?_) | (with_reducible refine (zwithin_is Hz.out _).mono ?_) | (with_reducible refine (zwithin_is Hx.out _).mono ?_)); rintro e w' ⟨rfl, rfl⟩)
              all_goals (go_ret; rw [R.out]; exact ⟨rfl, hbal⟩)
            · have hu := And.intro (dec_yes hy) (dec_yes hz)
              have Hy := Lib.hid hy
              have Hz := Lib.hid hz
              clear hy hz
              by_cases hla : k + 1 = ss.length
              · rw [stepX_last hu hla] at he
                have hl1 : ((k : Int) == (ss.length : Int) - 1) = true := by simp; omega
                clear hp hu
                by_cases hx0 : x = 0
                · rw [if_pos hx0] at he
                  have HK := Lib.hid (show ∀ j, j < k + 1 → stepE ss j = 0 from fun j hj => by rcases (by omega : j < k ∨ j = k) with q | rfl; exact HZ.out j q; exact he)
                  subst hx0
                  clear he
                  go_wp2_with (go_at_call 153; (first | (with_reducible refine (zwithin_is Hy.out _).mono ?_) | (with_reducible refine (zwithin_is Hz.out _).mono ?_) | (with_reducible refine (zwithin_is Hx.out _).mono ?_)); rintro e w' ⟨rfl, rfl⟩)
                  go_big_quiet (fail)
                  go_wp2
                  (go_roundw; (case rel => exact ⟨k + 1, by omega, by go_num, HK, below_drewN hbal _⟩); (case measure => (simp [RowKit.intOf]; omega)))
                · rw [if_neg hx0] at he
                  have R := Lib.hid (show r = 12 by rw [HR.out, firstE_some HZ.out hi (by rw [he]; decide), he])
                  clear he
                  go_wp2_with (go_at_call 153; (first | (with_reducible refine (zwithin_is Hy.out _).mono ?_) | (with_reducible refine (zwithin_is Hz.out _).mono ?_) | (with_reducible refine (zwithin_is Hx.out _).mono ?_)); rintro e w' ⟨rfl, rfl⟩)
                  all_goals (go_ret; rw [R.out]; exact ⟨rfl, hbal⟩)
              · have hl1 : ((k : Int) == (ss.length : Int) - 1) = false := by simp; omega
                cases hx : decide (1 ≤ x ∧ x ≤ 68719476736)
                · rw [stepX_out hu hla (dec_no hx)] at he
                  have R := Lib.hid (show r = 12 by rw [HR.out, firstE_some HZ.out hi (by rw [he]; decide), he])
                  have Hx := Lib.hid hx
                  clear hp he hx hu
                  go_wp2_with (go_at_call 153; (first | (with_reducible refine (zwithin_is Hy.out _).mono ?_) | (with_reducible refine (zwithin_is Hz.out _).mono ?_) | (with_reducible refine (zwithin_is Hx.out _).mono ?_)); rintro e w' ⟨rfl, rfl⟩)
                  all_goals (go_ret; rw [R.out]; exact ⟨rfl, hbal⟩)
                · rw [stepX_in hu hla (dec_yes hx)] at he
                  have Hx := Lib.hid hx
                  clear hx hu
                  by_cases hk0 : k = 0
                  · rw [if_neg (by omega)] at he
                    have HK := Lib.hid (show ∀ j, j < k + 1 → stepE ss j = 0 from fun j hj => by rcases (by omega : j < k ∨ j = k) with q | rfl; exact HZ.out j q; exact he)
                    have h6 : decide ((0 : Int) < (k : Int)) = false := decide_eq_false (by omega)
                    have h8 : decide (0 < k) = false := decide_eq_false (by omega)
                    clear hp he hk0
                    go_wp2_with (go_at_call 153; (first | (with_reducible refine (zwithin_is Hy.out _).mono ?_) | (with_reducible refine (zwithin_is Hz.out _).mono ?_) | (with_reducible refine (zwithin_is Hx.out _).mono ?_)); rintro e w' ⟨rfl, rfl⟩)
                    go_big_quiet (fail)
                    go_wp2
                    (go_roundw; (case rel => exact ⟨k + 1, by omega, by go_num, HK, below_drewN hbal _⟩); (case measure => (simp [RowKit.intOf]; omega)))
                  · obtain ⟨b', off', x', y', z', hA, hb', hx', d0, d1, d2⟩ := hp hk0
                    injection hA with hA
                    injection hA with hA1 hA2
                    subst hA1 hA2
                    rw [prevU_at hx'] at he
                    have h1 : (0 : Int) < (k : Int) := by omega
                    have h2 : (0 : Int) ≤ (k : Int) - 1 := by omega
                    have h3 : (k : Int) - 1 < (ss.length : Int) := by omega
                    have h4 : ((k : Int) - 1).toNat = k - 1 := by omega
                    have h5 : IntKind.i64.wrap ((k : Int) - 1) = (k : Int) - 1 := IntWalk.i64_in _ (by omega)
                    have h6 : decide ((0 : Int) < (k : Int)) = true := decide_eq_true h1
                    have h8 : decide (0 < k) = true := decide_eq_true (by omega)
                    have d3 := (World.cell?_alloc_lt wr (.cells #[.int .i64 x, .int .i64 y, .int .i64 z] 228) ⟨b, off + (k - 1) * 3, none⟩ hbw).trans d0
                    clear hx' hp d1 d2
                    by_cases hle : x ≤ x'
                    · rw [if_pos ⟨by omega, hle⟩] at he
                      have R := Lib.hid (show r = 15 by rw [HR.out, firstE_some HZ.out hi (by rw [he]; decide), he])
                      clear he
                      go_wp2_with (go_at_call 153; (first | (with_reducible refine (zwithin_is Hy.out _).mono ?_) | (with_reducible refine (zwithin_is Hz.out _).mono ?_) | (with_reducible refine (zwithin_is Hx.out _).mono ?_)); rintro e w' ⟨rfl, rfl⟩)
                      go_big_quiet (fail)
                      go_wp2
                      all_goals (go_ret; rw [R.out]; exact ⟨rfl, below_drewN hbal _⟩)
                    · rw [if_neg (by omega)] at he
                      have HK := Lib.hid (show ∀ j, j < k + 1 → stepE ss j = 0 from fun j hj => by rcases (by omega : j < k ∨ j = k) with q | rfl; exact HZ.out j q; exact he)
                      clear he
                      go_wp2_with (go_at_call 153; (first | (with_reducible refine (zwithin_is Hy.out _).mono ?_) | (with_reducible refine (zwithin_is Hz.out _).mono ?_) | (with_reducible refine (zwithin_is Hx.out _).mono ?_)); rintro e w' ⟨rfl, rfl⟩)
                      go_big_quiet (fail)
                      go_wp2
                      (go_roundw; (case rel => exact ⟨k + 1, by omega, by go_num, HK, below_drewN hbal _⟩); (case measure => (simp [RowKit.intOf]; omega)))
        · obtain rfl : k = ss.length := by omega
          have R := Lib.hid (show r = 0 by rw [HR.out, firstE_none HZ.out])
          go_wp2
          go_ret
          rw [R.out]
          exact ⟨rfl, hbel⟩
end Go.Proofs.YtcpfiiapfggmpaaGreat
/- zone.Check, walked. -/
namespace Go.Proofs.YtcpfiiapfggmpaaGreat
open Go.RowKit Go.Lib

set_option maxRecDepth 100000 in
set_option maxHeartbeats 4000000 in
theorem zcheck_any (z : Zn) {w : World} (h : ZOk w z) :
    Calls Tryz.prog 115 #[ZV z] w fun e w' => e = .returned (.int .i64 (checkE z)) ∧ Below w.heap.size w w' := by
  have hname := @checkE_name z
  have hhours := @checkE_hours z
  have hwin := @checkE_win z
  have hstep := @checkE_step z
  have htail := @checkE_tail z
  have t12 := @tailE_12 z
  have t13 := @tailE_13 z
  have t0 := @tailE_0 z
  generalize checkE z = r at *
  generalize tailE z = u at *
  obtain ⟨nm, hA, hc, hs, sA, sc, ss, gr, fr, dm, ms⟩ := z
  have h1 : Rd encW 3 w w.heap.size hA hs := h.1
  have h2 : Rd encW 3 w w.heap.size sA ss := h.2
  clear h
  simp only [ZV] at *
  cases hn : nameB nm
  · have R := Lib.hid (hname hn)
    have HN := Lib.hid hn
    clear hname hhours hwin hstep htail t12 t13 t0 hn h1 h2
    go_enter Tryz.func115, Tryz.ntmps115
    go_wp2_with (go_at_call 125; (refine (name_any _ _).mono ?_); rw [HN.out]; rintro e w1 ⟨rfl, hb1⟩)
    all_goals (go_ret; rw [R.out]; exact ⟨rfl, ((Below.refl _ w).al _).st (by assumption)⟩)
  · by_cases h32 : 32 < hs.length
    · have R := Lib.hid (hhours hn h32)
      have HN := Lib.hid hn
      clear hname hhours hwin hstep htail t12 t13 t0 hn h1 h2
      go_enter Tryz.func115, Tryz.ntmps115
      go_wp2_with (go_at_call 125; (refine (name_any _ _).mono ?_); rw [HN.out]; rintro e w1 ⟨rfl, hb1⟩; have b1 := box_cell hb1 (by simp) 1 _ rfl)
      all_goals (go_ret; rw [R.out]; exact ⟨rfl, ((Below.refl _ w).al _).st (by assumption)⟩)
    · have HN := Lib.hid hn
      have Hwin := Lib.hid (hwin hn h32)
      have Hstep := Lib.hid (hstep hn h32)
      have Htail := Lib.hid (htail hn h32)
      have T12 := Lib.hid t12
      have T13 := Lib.hid t13
      have T0 := Lib.hid t0
      clear hname hhours hwin hstep htail t12 t13 t0 hn
      go_enter Tryz.func115, Tryz.ntmps115
      go_wp2_with fail
      refine (name_any _ _).mono ?_
      rw [HN.out]
      rintro e w1 ⟨rfl, hb1⟩
      have hb0 : Below w.heap.size w w1 := ((Below.refl _ w).al _).st hb1
      have hz0 : w.heap.size < w1.heap.size := by have := hb1.size; simp at this; omega
      have b1 := box_cell hb1 (by simp) 1 _ rfl
      have b2 := box_cell hb1 (by simp) 2 _ rfl
      have b3 := box_cell hb1 (by simp) 3 _ rfl
      have b4 := box_cell hb1 (by simp) 4 _ rfl
      have b5 := box_cell hb1 (by simp) 5 _ rfl
      have b6 := box_cell hb1 (by simp) 6 _ rfl
      have h1' := h1.st hb0
      have h2' := h2.st hb0
      clear h1 h2 hb1
      go_wp2_with fail
      go_loopw [17] (fun i wr => ∃ k : Nat, k ≤ hs.length ∧ i = .int .i64 k ∧ Hid (∀ y ∈ hs.take k, vw y = true) ∧ Below w1.heap.size w1 wr) (fun i _ => hs.length - (RowKit.intOf i).toNat)
      case atStart => exact ⟨0, Nat.zero_le _, rfl, (by unfold Hid; simp), Below.refl _ _⟩
      case round =>
        obtain ⟨k, hk, rfl, HV, hbr⟩ := hrel
        have bel := hb0.st hbr
        by_cases hi : k < hs.length
        · obtain ⟨b, off, x, y, z, rfl, hb, hx, d0, d1, d2⟩ := (h1'.keep hbr).w3 hi
          have hi2 : (k : Int) < (hs.length : Int) := by omega
          have hb2 := (hbr.al (.cells #[.int .i64 x, .int .i64 y, .int .i64 z] 91)).al (.cells #[.int .i64 x, .int .i64 y, .int .i64 z] 91)
          have bel2 := hb0.st hb2
          cases hv : vw (x, y, z)
          · have R := Lib.hid (Hwin.out (all_no hx hv))
            have HV2 := Lib.hid hv
            clear hx hv b1 b2 b3 b4 b5 b6 h1' h2'
            go_wp2_with (go_at_call 151; (refine (zvalid_any (x, y, z) _).mono ?_); rw [HV2.out]; rintro e w' ⟨rfl, rfl⟩)
            all_goals (go_ret; rw [R.out]; exact ⟨rfl, bel2⟩)
          · have R := Lib.hid (all_succ hx HV.out hv)
            have HV2 := Lib.hid hv
            clear hx hv b1 b2 b3 b4 b5 b6 h1' h2'
            go_wp2_with (go_at_call 151; (refine (zvalid_any (x, y, z) _).mono ?_); rw [HV2.out]; rintro e w' ⟨rfl, rfl⟩)
            go_roundw
            case rel => exact ⟨k + 1, by omega, by go_num, R, hb2⟩
            case measure => simp [RowKit.intOf]; omega
        · obtain rfl : k = hs.length := by omega
          have HA := Lib.hid (all_yes HV.out)
          have c2 := (hbr.cell (p := ⟨w.heap.size, 2, none⟩) hz0).trans b2
          have c3 := (hbr.cell (p := ⟨w.heap.size, 3, none⟩) hz0).trans b3
          have c4 := (hbr.cell (p := ⟨w.heap.size, 4, none⟩) hz0).trans b4
          have c5 := (hbr.cell (p := ⟨w.heap.size, 5, none⟩) hz0).trans b5
          have c6 := (hbr.cell (p := ⟨w.heap.size, 6, none⟩) hz0).trans b6
          have C := Lib.hid (steps_any sc (h2'.st hbr))
          have hz1 : w.heap.size < wr.heap.size := Nat.lt_of_lt_of_le hz0 hbr.size
          clear b1 b2 b3 b4 b5 b6 h1' h2' HV hbr hb0
          by_cases he : stepsE ss = 0
          · have RT := Lib.hid (Htail.out HA.out he)
            have HE := Lib.hid he
            clear he Hstep Hwin Htail HA
            go_wp2_with fail
            refine C.out.mono ?_
            rw [HE.out]
            rintro e w2 ⟨rfl, hb2⟩
            have bel2 := bel.st hb2
            have d3 := (hb2.cell (p := ⟨w.heap.size, 3, none⟩) hz1).trans c3
            have d4 := (hb2.cell (p := ⟨w.heap.size, 4, none⟩) hz1).trans c4
            have d5 := (hb2.cell (p := ⟨w.heap.size, 5, none⟩) hz1).trans c5
            have d6 := (hb2.cell (p := ⟨w.heap.size, 6, none⟩) hz1).trans c6
            clear c2 c3 c4 c5 c6 C hb2 bel
            cases g1 : decide (0 ≤ gr ∧ gr ≤ 68719476736)
            · have R := Lib.hid (RT.out.trans (T12.out fun q => dec_no g1 q.1))
              have G1 := Lib.hid g1
              have G2 := G1; have G3 := G1; have G4 := G1
              clear g1
              go_wp2_with (go_at_call 153; (first | (with_reducible refine (zwithin_is G1.out _).mono ?_) | (with_reducible refine (zwithin_is G2.out _).mono ?_) | (with_reducible refine (zwithin_is G3.out _).mono ?_) | (with_reducible refine (zwithin_is G4.out _).mono ?_)); rintro e w' ⟨rfl, rfl⟩)
              all_goals (go_ret; rw [R.out]; exact ⟨rfl, bel2⟩)
            · cases g2 : decide (0 ≤ fr ∧ fr ≤ 68719476736)
              · have R := Lib.hid (RT.out.trans (T12.out fun q => dec_no g2 q.2.1))
                have G1 := Lib.hid g1
                have G2 := Lib.hid g2
                have G3 := G1; have G4 := G1
                clear g1 g2
                go_wp2_with (go_at_call 153; (first | (with_reducible refine (zwithin_is G1.out _).mono ?_) | (with_reducible refine (zwithin_is G2.out _).mono ?_) | (with_reducible refine (zwithin_is G3.out _).mono ?_) | (with_reducible refine (zwithin_is G4.out _).mono ?_)); rintro e w' ⟨rfl, rfl⟩)
                all_goals (go_ret; rw [R.out]; exact ⟨rfl, bel2⟩)
              · cases g3 : decide (0 ≤ ms ∧ ms ≤ 68719476736)
                · have R := Lib.hid (RT.out.trans (T12.out fun q => dec_no g3 q.2.2))
                  have G1 := Lib.hid g1
                  have G2 := Lib.hid g2
                  have G3 := Lib.hid g3
                  have G4 := G1
                  clear g1 g2 g3
                  go_wp2_with (go_at_call 153; (first | (with_reducible refine (zwithin_is G1.out _).mono ?_) | (with_reducible refine (zwithin_is G2.out _).mono ?_) | (with_reducible refine (zwithin_is G3.out _).mono ?_) | (with_reducible refine (zwithin_is G4.out _).mono ?_)); rintro e w' ⟨rfl, rfl⟩)
                  all_goals (go_ret; rw [R.out]; exact ⟨rfl, bel2⟩)
                · have HQ := And.intro (dec_yes g1) (And.intro (dec_yes g2) (dec_yes g3))
                  cases g4 : decide (0 ≤ dm ∧ dm ≤ 1125899906842624)
                  · have R := Lib.hid (RT.out.trans (T13.out HQ (dec_no g4)))
                    have G1 := Lib.hid g1
                    have G2 := Lib.hid g2
                    have G3 := Lib.hid g3
                    have G4 := Lib.hid g4
                    clear g1 g2 g3 g4 HQ
                    go_wp2_with (go_at_call 153; (first | (with_reducible refine (zwithin_is G1.out _).mono ?_) | (with_reducible refine (zwithin_is G2.out _).mono ?_) | (with_reducible refine (zwithin_is G3.out _).mono ?_) | (with_reducible refine (zwithin_is G4.out _).mono ?_)); rintro e w' ⟨rfl, rfl⟩)
                    all_goals (go_ret; rw [R.out]; exact ⟨rfl, bel2⟩)
                  · have R := Lib.hid (RT.out.trans (T0.out HQ (dec_yes g4)))
                    have G1 := Lib.hid g1
                    have G2 := Lib.hid g2
                    have G3 := Lib.hid g3
                    have G4 := Lib.hid g4
                    clear g1 g2 g3 g4 HQ
                    go_wp2_with (go_at_call 153; (first | (with_reducible refine (zwithin_is G1.out _).mono ?_) | (with_reducible refine (zwithin_is G2.out _).mono ?_) | (with_reducible refine (zwithin_is G3.out _).mono ?_) | (with_reducible refine (zwithin_is G4.out _).mono ?_)); rintro e w' ⟨rfl, rfl⟩)
                    all_goals (go_ret; rw [R.out]; exact ⟨rfl, bel2⟩)
          · have R := Lib.hid (Hstep.out HA.out he)
            generalize stepsE ss = v at *
            have hv : (v != 0) = true := by simp [he]
            clear he c3 c4 c5 c6 Hwin Htail HA
            go_wp2_with fail
            refine C.out.mono ?_
            rintro e w2 ⟨rfl, hb2⟩
            go_wp2_with fail
            all_goals (go_ret; rw [R.out]; exact ⟨rfl, bel.st hb2⟩)
end Go.Proofs.YtcpfiiapfggmpaaGreat
