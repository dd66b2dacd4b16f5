/- parkfee.Steps, walked. -/
import Derived.Test.YtfilfdkbchkpmaaParkFee
import Derived.Test.YtfilfdkbchkpmaaZoneZCheck
import Derived.Test.YtfilfdkbchkpmaaMoney
namespace Go.Proofs.Ytfilfdkbchkpmaa
open Go.RowKit Go.Lib

theorem stepsP_1 {z : Zn} (h : checkE z ≠ 0) (s : Int) : stepsPN z s = 0 ∧ stepsPE z s = checkE z := by
  have e : stepsPE z s = checkE z := by unfold stepsPE; rw [if_pos h]
  exact ⟨by unfold stepsPN; rw [e, if_neg h], e⟩
theorem stepsP_2 {z : Zn} {s : Int} (h : checkE z = 0) (hs : s < 0 ∨ 68719476736 < s) : stepsPN z s = 0 ∧ stepsPE z s = 1 := by
  have e : stepsPE z s = 1 := by unfold stepsPE; rw [if_neg (by simp [h]), if_pos hs]
  exact ⟨by unfold stepsPN; rw [e, if_neg (by omega)], e⟩
theorem stepsP_13 {z : Zn} {s : Int} (h : checkE z = 0) (hs : 0 ≤ s ∧ s ≤ 68719476736) (hv : 1125899906842624 < V z.ss s) : stepsPN z s = 0 ∧ stepsPE z s = 13 := by
  have e : stepsPE z s = 13 := by unfold stepsPE; rw [if_neg (by simp [h]), if_neg (by omega), if_pos hv]
  exact ⟨by unfold stepsPN; rw [e, if_neg (by omega)], e⟩
theorem stepsP_0 {z : Zn} {s : Int} (h : checkE z = 0) (hs : 0 ≤ s ∧ s ≤ 68719476736) (hv : V z.ss s ≤ 1125899906842624) : stepsPN z s = V z.ss s ∧ stepsPE z s = 0 := by
  have e : stepsPE z s = 0 := by unfold stepsPE; rw [if_neg (by simp [h]), if_neg (by omega), if_neg (by omega)]
  exact ⟨by unfold stepsPN; rw [e, if_pos rfl], e⟩
theorem quo_pos {t u : Int} (h : 0 ≤ t) : t.tdiv u = t / u := Int.tdiv_eq_ediv_of_nonneg h

set_option maxRecDepth 100000 in
set_option maxHeartbeats 4000000 in
theorem psteps_any (z : Zn) (s : Int) {w : World} (h : ZOk w z) :
    Calls Try.prog 11 #[ZV z, .int .i64 s] w fun e w' => e = .returned (.tuple #[.int .i64 (stepsPN z s), .int .i64 (stepsPE z s)]) ∧ Below w.heap.size w w' := by
  have C := Lib.hid (fun (W : World) (hW : Below w.heap.size w W) => zcheck_any z (h.st hW))
  have f1 := Lib.hid (fun hc => stepsP_1 (z := z) hc s)
  have f2 := Lib.hid (@stepsP_2 z s)
  have f13 := Lib.hid (@stepsP_13 z s)
  have f0 := Lib.hid (@stepsP_0 z s)
  have st := Lib.hid (@check_st z)
  generalize stepsPN z s = rn at *
  generalize stepsPE z s = re at *
  generalize checkE z = ce at *
  obtain ⟨nm, hA, hc, hs, sA, sc, ss, gr, fr, dm, ms⟩ := z
  have h2 : Rd encW 3 w w.heap.size sA ss := h.2
  clear h
  simp only [ZV] at *
  have hb1 : Below w.heap.size w (w.alloc (.cells #[.string nm, .slice hA hs.length hc, .slice sA ss.length sc, .int .i64 gr, .int .i64 fr, .int .i64 dm, .int .i64 ms] 25)) := (Below.refl _ w).al _
  by_cases hce : ce = 0
  · subst hce
    by_cases hr : s < 0 ∨ 68719476736 < s
    · obtain ⟨rfl, rfl⟩ := f2.out rfl hr
      clear f1 f2 f13 f0 st h2
      rcases hr with hr | hr
      · go_enter Try.func11, Try.ntmps11
        go_wp2_with (go_at_call 23; (refine (C.out _ hb1).mono ?_); rintro e w1 ⟨rfl, hb2⟩)
        all_goals (go_ret2; exact ⟨rfl, hb1.st hb2⟩)
      · have hr' : 0 ≤ s := by omega
        go_enter Try.func11, Try.ntmps11
        go_wp2_with (go_at_call 23; (refine (C.out _ hb1).mono ?_); rintro e w1 ⟨rfl, hb2⟩)
        all_goals (go_ret2; exact ⟨rfl, hb1.st hb2⟩)
    · obtain ⟨hr0, hr1⟩ : 0 ≤ s ∧ s ≤ 68719476736 := by omega
      obtain ⟨St, -⟩ := st.out rfl
      have ST : Hid (StOk ss) := St
      have hlen : ss.length ≤ 16 := St.len
      have f0' : Hid (V ss s ≤ 1125899906842624 → rn = V ss s ∧ re = 0) := Lib.hid (f0.out rfl ⟨hr0, hr1⟩)
      have f13' : Hid (1125899906842624 < V ss s → rn = 0 ∧ re = 13) := Lib.hid (f13.out rfl ⟨hr0, hr1⟩)
      clear f1 f2 st hr St f0 f13
      go_enter Try.func11, Try.ntmps11
      go_wp2_with fail
      refine (C.out _ hb1).mono ?_
      rintro e w1 ⟨rfl, hb2⟩
      have hz0 : w.heap.size < w1.heap.size := by have := hb2.size; simp at this; omega
      have b2 := box_cell hb2 (by simp) 2 _ rfl
      have hbw := hb1.st hb2
      have h2' := h2.st hbw
      clear h2 hb1 hb2 C
      go_wp2_with fail
      go_loopw [7, 8, 28] (fun v f i wr => ∃ (k : Nat) (p g : Int), k ≤ ss.length ∧ i = .int .i64 k ∧ v = .int .i64 p ∧ f = .int .i64 g ∧ Hid (k < ss.length → g = min s (lim ss k)) ∧ Hid (p + val (ss.drop k) (lim ss k) s = V ss s) ∧ 0 ≤ p ∧ p ≤ 1125899906842624 ∧ Below w1.heap.size w1 wr) (fun _ _ i _ => ss.length - (intOf i).toNat)
      case atStart => exact ⟨0, 0, 0, Nat.zero_le _, rfl, rfl, rfl, (fun _ => by rw [lim_zero]; omega), (by unfold Hid V; rw [lim_zero]; simp), by omega, by omega, Below.refl _ _⟩
      case round =>
        obtain ⟨k, p, g, hk, rfl, rfl, rfl, HG, HP, hp0, hp1, hbr⟩ := hrel
        have bel := hbw.st hbr
        have c2 := (hbr.cell (p := ⟨w.heap.size, 2, none⟩) hz0).trans b2
        have hzr : w.heap.size < wr.heap.size := Nat.lt_of_lt_of_le hz0 hbr.size
        by_cases hi : k < ss.length
        · obtain ⟨b, off, x, y, c, rfl, hb, hx, d0, d1, d2⟩ := (h2'.keep hbr).w3 hi
          have hi2 : (k : Int) < (ss.length : Int) := by omega
          have hg := HG.out hi
          obtain ⟨y1, y2, c1, c3⟩ := ST.out.ok _ (List.mem_of_getElem? hx)
          simp only at y1 y2 c1 c3
          have hbA := hbr.al (.cells #[.int .i64 x, .int .i64 y, .int .i64 c] 53)
          have belA := hbw.st hbA
          by_cases hlow : s ≤ lim ss k
          · -- no second is left
            have E0 : Hid (p = V ss s) := by have := HP.out; rw [ST.out.low hlow] at this; unfold Hid; omega
            obtain ⟨rfl, rfl⟩ := f0'.out (by have := E0.out; show V ss s ≤ _; omega)
            have hg' : g = s := by omega
            subst hg'
            clear f0' f13' HG HP hg
            by_cases hl : k + 1 < ss.length
            · have hl2 : (k : Int) < (ss.length : Int) - 1 := by omega
              have hup := (ST.out.up k _ hx hl).2.2
              simp only at hup
              have hmin : min g x = g := by omega
              clear hx hlow hup
              go_wp2
              all_goals (go_ret2; show _ = Ending.returned (.tuple #[.int .i64 (V ss g), .int .i64 0]) ∧ _; rw [← E0.out]; exact ⟨rfl, belA⟩)
            · have hl2 : ¬ (k : Int) < (ss.length : Int) - 1 := by omega
              clear hx hlow
              go_wp2
              all_goals (go_ret2; show _ = Ending.returned (.tuple #[.int .i64 (V ss g), .int .i64 0]) ∧ _; rw [← E0.out]; exact ⟨rfl, belA⟩)
          · have hg' : g = lim ss k := by omega
            have hg0 : 0 ≤ g := by
              rw [hg']
              unfold lim prevU
              split
              · omega
              · rename_i hk0
                obtain ⟨y', hy'⟩ : ∃ y', ss[k - 1]? = some y' := ⟨_, List.getElem?_eq_getElem (by omega)⟩
                have := (ST.out.up (k - 1) y' hy' (by omega)).1
                rw [hy']
                simp
                omega
            have hend : V ss s = V ss s := rfl
            -- the end of the step: t
            obtain ⟨t, ht, hgt, hts, hval, hlim⟩ : ∃ t, (if k + 1 < ss.length then min s x else s) = t ∧ g < t ∧ t ≤ s ∧ (p + piece (x, y, c) (t - g) + val (ss.drop (k + 1)) (lim ss (k + 1)) s = V ss s) ∧ (k + 1 < ss.length → t = min s (lim ss (k + 1))) := by
              by_cases hl : k + 1 < ss.length
              · have hup := (ST.out.up k _ hx hl).2.2
                simp only at hup
                have e1 := V_on hx hl HP.out
                rw [← hg'] at e1 hup
                refine ⟨min s x, by rw [if_pos hl], by omega, by omega, e1, fun _ => by rw [lim_succ hx]⟩
              · have e1 := V_last hx hl HP.out
                rw [← hg'] at e1
                refine ⟨s, by rw [if_neg hl], by omega, by omega, ?_, fun q => absurd q hl⟩
                rw [List.drop_eq_nil_of_le (by omega), val]
                omega
            have hU := units_pos (x := (x, y, c)) (show 0 < t - g by omega) ⟨y1, y2, c1, c3⟩
            have hP := Lib.hid (piece_pos (x := (x, y, c)) (show 0 < t - g by omega))
            have hN := piece_nonneg (x := (x, y, c)) (t - g) ⟨y1, y2, c1, c3⟩
            have hD := drop_ok ST.out (k + 1) (lim ss (k + 1)) s
            have hq : (t - g - 1).tdiv y = (t - g - 1) / y := quo_pos (by omega)
            simp only at hU hN
            generalize piece (x, y, c) (t - g) = pc at *
            generalize hrest : val (ss.drop (k + 1)) (lim ss (k + 1)) s = rest at *
            have HV : Hid (p + pc + val (ss.drop (k + 1)) (lim ss (k + 1)) s = V ss s) := by rw [hrest]; exact hval
            have HV' := Lib.hid hval
            have HL := Lib.hid hlim
            have HT := Lib.hid ht
            have HD := Lib.hid hD
            obtain ⟨hU1, hU2⟩ := hU
            have hq0 : 0 ≤ (t - g - 1) / y := by omega
            have hq1 : (t - g - 1) / y ≤ 68719476736 := by omega
            have hy0 : y ≠ 0 := by omega
            have hle : ¬ t ≤ g := by omega
            have ht0 : 0 ≤ t := by omega
            have ht1 : t ≤ 68719476736 := by omega
            clear hU1 hU2 hrest hval hlim ht hD hlow hg hg' HG HP hend
            by_cases hpc : pc ≤ 1125899906842624
            · have CR := Lib.hid (fun w => ratio1_ok (n := c) (m := (t - g - 1) / y + 1) c1 (by omega) (by omega) (by omega) (by rw [← show pc = ((t - g - 1) / y + 1) * c from hP.out]; exact hpc) w)
              rw [show ((t - g - 1) / y + 1) * c = pc from hP.out.symm] at CR
              clear hP
              by_cases hsum : p + pc ≤ 1125899906842624
              · have CA := Lib.hid (fun w => add_ok (a := p) (b := pc) (by omega) (by omega) (by omega) w)
                by_cases hl : k + 1 < ss.length
                · have hl2 : (k : Int) < (ss.length : Int) - 1 := by omega
                  have hmin : min s x = t := by have := HT.out; rwa [if_pos hl] at this
                  go_wp2_with fail; go_quiet ((go_at_call 24; with_reducible refine Calls.quiet_of (CR.out _))); go_wp2_with fail; refine (CA.out _).mono ?_; rintro e w4 ⟨rfl, hb4⟩; go_wp2; go_roundw; (case rel => exact ⟨k + 1, _, _, by omega, by go_num, rfl, rfl, HL.out, HV.out, by omega, by omega, (below_drewN hbA _).st hb4⟩); (case measure => simp [intOf]; omega)
                · have hl2 : ¬ (k : Int) < (ss.length : Int) - 1 := by omega
                  obtain rfl : s = t := by have := HT.out; rwa [if_neg hl] at this
                  go_wp2_with fail; go_quiet ((go_at_call 24; with_reducible refine Calls.quiet_of (CR.out _))); go_wp2_with fail; refine (CA.out _).mono ?_; rintro e w4 ⟨rfl, hb4⟩; go_wp2; go_roundw; (case rel => exact ⟨k + 1, _, _, by omega, by go_num, rfl, rfl, HL.out, HV.out, by omega, by omega, (below_drewN hbA _).st hb4⟩); (case measure => simp [intOf]; omega)
              · have CA := Lib.hid (fun w => add_no (a := p) (b := pc) (by omega) (by omega) (by omega) w)
                obtain ⟨rfl, rfl⟩ := f13'.out (by have := HV'.out; have := HD.out; show _ < V ss s; omega)
                by_cases hl : k + 1 < ss.length
                · have hl2 : (k : Int) < (ss.length : Int) - 1 := by omega
                  have hmin : min s x = t := by have := HT.out; rwa [if_pos hl] at this
                  go_wp2_with fail; go_quiet ((go_at_call 24; with_reducible refine Calls.quiet_of (CR.out _))); go_wp2_with fail; refine (CA.out _).mono ?_; rintro e w4 ⟨rfl, hb4⟩; go_wp2; all_goals (go_ret2; exact ⟨rfl, (below_drewN belA _).st hb4⟩)
                · have hl2 : ¬ (k : Int) < (ss.length : Int) - 1 := by omega
                  obtain rfl : s = t := by have := HT.out; rwa [if_neg hl] at this
                  go_wp2_with fail; go_quiet ((go_at_call 24; with_reducible refine Calls.quiet_of (CR.out _))); go_wp2_with fail; refine (CA.out _).mono ?_; rintro e w4 ⟨rfl, hb4⟩; go_wp2; all_goals (go_ret2; exact ⟨rfl, (below_drewN belA _).st hb4⟩)
            · have CR := Lib.hid (fun w => ratio1_no (n := c) (m := (t - g - 1) / y + 1) c1 (by omega) (by omega) (by omega) (by rw [← show pc = ((t - g - 1) / y + 1) * c from hP.out]; omega) w)
              clear hP
              obtain ⟨rfl, rfl⟩ := f13'.out (by have := HV'.out; have := HD.out; show _ < V ss s; omega)
              by_cases hl : k + 1 < ss.length
              · have hl2 : (k : Int) < (ss.length : Int) - 1 := by omega
                have hmin : min s x = t := by have := HT.out; rwa [if_pos hl] at this
                go_wp2_with fail; go_quiet ((go_at_call 24; with_reducible refine Calls.quiet_of (CR.out _))); go_wp2; all_goals (go_ret2; exact ⟨rfl, below_drewN belA _⟩)
              · have hl2 : ¬ (k : Int) < (ss.length : Int) - 1 := by omega
                obtain rfl : s = t := by have := HT.out; rwa [if_neg hl] at this
                go_wp2_with fail; go_quiet ((go_at_call 24; with_reducible refine Calls.quiet_of (CR.out _))); go_wp2; all_goals (go_ret2; exact ⟨rfl, below_drewN belA _⟩)
        · obtain rfl : k = ss.length := by omega
          have E0 : Hid (p = V ss s) := by have := HP.out; rw [List.drop_eq_nil_of_le (Nat.le_refl _), val] at this; unfold Hid; omega
          obtain ⟨rfl, rfl⟩ := f0'.out (by have := E0.out; show V ss s ≤ _; omega)
          clear f0' f13' HG HP
          go_wp2
          all_goals (go_ret2; show _ = Ending.returned (.tuple #[.int .i64 (V ss s), .int .i64 0]) ∧ _; rw [← E0.out]; exact ⟨rfl, bel⟩)
  · obtain ⟨rfl, rfl⟩ := f1.out hce
    clear f1 f2 f13 f0 st h2
    go_enter Try.func11, Try.ntmps11
    go_wp2_with (go_at_call 23; (refine (C.out _ hb1).mono ?_); rintro e w1 ⟨rfl, hb2⟩)
    all_goals (go_ret2; exact ⟨rfl, hb1.st hb2⟩)
end Go.Proofs.Ytfilfdkbchkpmaa
