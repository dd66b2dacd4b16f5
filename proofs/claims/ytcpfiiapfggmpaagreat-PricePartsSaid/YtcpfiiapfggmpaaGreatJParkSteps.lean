/- Joined texts: ParkSteps, Meet, Length. -/
import Derived.Test.YtcpfiiapfggmpaaGreatParkFee
import Derived.Test.YtcpfiiapfggmpaaGreatJZoneSteps2
import Derived.Test.YtcpfiiapfggmpaaGreatMoney
import Derived.Test.YtcpfiiapfggmpaaGreatJJoin
/- parkfee.Steps, walked. -/
namespace Go.Proofs.YtcpfiiapfggmpaaGreat
open Go.RowKit Go.Lib

theorem stepsP_1 {z : Zn} (h : checkE z ≠ 0) (s : Int) : stepsPN z s = 0 ∧ stepsPE z s = checkE z := by
  have e : stepsPE z s = checkE z := by unfold stepsPE; rw [if_pos h]
  exact ⟨by unfold stepsPN; rw [e, if_neg h], e⟩
theorem stepsP_2 {z : Zn} {s : Int} (h : checkE z = 0) (hs : s < 0 ∨ 68719476736 < s) : stepsPN z s = 0 ∧ stepsPE z s = 1 := by
  have e : stepsPE z s = 1 := by unfold stepsPE; rw [if_neg (by simp [h]), if_pos hs]
  exact ⟨by unfold stepsPN; rw [e, if_neg (by omega)], e⟩
theorem stepsP_13 {z : Zn} {s : Int} (h : checkE z = 0) (hs : 0 ≤ s ∧ s ≤ 68719476736) (hv : 1125899906842624 < V z.ss s) : stepsPN z s = 0 ∧ stepsPE z s = 13 := by
  have e : stepsPE z s = 13 := by unfold stepsPE; rw [if_neg (by simp [h]), if_neg (by omega), if_pos hv]
  exact ⟨by unfold stepsPN; rw [e, if_neg (by omega)], e⟩
theorem stepsP_0 {z : Zn} {s : Int} (h : checkE z = 0) (hs : 0 ≤ s ∧ s ≤ 68719476736) (hv : V z.ss s ≤ 1125899906842624) : stepsPN z s = V z.ss s ∧ stepsPE z s = 0 := by
  have e : stepsPE z s = 0 := by unfold stepsPE; rw [if_neg (by simp [h]), if_neg (by omega), if_neg (by omega)]
  exact ⟨by unfold stepsPN; rw [e, if_pos rfl], e⟩
theorem quo_pos {t u : Int} (h : 0 ≤ t) : t.tdiv u = t / u := Int.tdiv_eq_ediv_of_nonneg h

set_option maxRecDepth 100000 in
set_option maxHeartbeats 4000000 in
theorem psteps_any (z : Zn) (s : Int) {w : World} (h : ZOk w z) :
    Calls Tryz.prog 117 #[ZV z, .int .i64 s] w fun e w' => e = .returned (.tuple #[.int .i64 (stepsPN z s), .int .i64 (stepsPE z s)]) ∧ Below w.heap.size w w' := by
  have C := Lib.hid (fun (W : World) (hW : Below w.heap.size w W) => zcheck_any z (h.st hW))
  have f1 := Lib.hid (fun hc => stepsP_1 (z := z) hc s)
  have f2 := Lib.hid (@stepsP_2 z s)
  have f13 := Lib.hid (@stepsP_13 z s)
  have f0 := Lib.hid (@stepsP_0 z s)
  have st := Lib.hid (@check_st z)
  generalize stepsPN z s = rn at *
  generalize stepsPE z s = re at *
  generalize checkE z = ce at *
  obtain ⟨nm, hA, hc, hs, sA, sc, ss, gr, fr, dm, ms⟩ := z
  have h2 : Rd encW 3 w w.heap.size sA ss := h.2
  clear h
  simp only [ZV] at *
  have hb1 : Below w.heap.size w (w.alloc (.cells #[.string nm, .slice hA hs.length hc, .slice sA ss.length sc, .int .i64 gr, .int .i64 fr, .int .i64 dm, .int .i64 ms] 76)) := (Below.refl _ w).al _
  by_cases hce : ce = 0
  · subst hce
    by_cases hr : s < 0 ∨ 68719476736 < s
    · obtain ⟨rfl, rfl⟩ := f2.out rfl hr
      clear f1 f2 f13 f0 st h2
      rcases hr with hr | hr
      · go_enter Tryz.func117, Tryz.ntmps117
        go_wp2_with (go_at_call 115; (refine (C.out _ hb1).mono ?_); rintro e w1 ⟨rfl, hb2⟩)
        all_goals (go_ret2; exact ⟨rfl, hb1.st hb2⟩)
      · have hr' : 0 ≤ s := by omega
        go_enter Tryz.func117, Tryz.ntmps117
        go_wp2_with (go_at_call 115; (refine (C.out _ hb1).mono ?_); rintro e w1 ⟨rfl, hb2⟩)
        all_goals (go_ret2; exact ⟨rfl, hb1.st hb2⟩)
    · obtain ⟨hr0, hr1⟩ : 0 ≤ s ∧ s ≤ 68719476736 := by omega
      obtain ⟨St, -⟩ := st.out rfl
      have ST : Hid (StOk ss) := St
      have hlen : ss.length ≤ 16 := St.len
      have f0' : Hid (V ss s ≤ 1125899906842624 → rn = V ss s ∧ re = 0) := Lib.hid (f0.out rfl ⟨hr0, hr1⟩)
      have f13' : Hid (1125899906842624 < V ss s → rn = 0 ∧ re = 13) := Lib.hid (f13.out rfl ⟨hr0, hr1⟩)
      clear f1 f2 st hr St f0 f13
      go_enter Tryz.func117, Tryz.ntmps117
      go_wp2_with fail
      refine (C.out _ hb1).mono ?_
      rintro e w1 ⟨rfl, hb2⟩
      have hz0 : w.heap.size < w1.heap.size := by have := hb2.size; simp at this; omega
      have b2 := box_cell hb2 (by simp) 2 _ rfl
      have hbw := hb1.st hb2
      have h2' := h2.st hbw
      clear h2 hb1 hb2 C
      go_wp2_with fail
      go_loopw [7, 8, 28] (fun v f i wr => ∃ (k : Nat) (p g : Int), k ≤ ss.length ∧ i = .int .i64 k ∧ v = .int .i64 p ∧ f = .int .i64 g ∧ Hid (k < ss.length → g = min s (lim ss k)) ∧ Hid (p + val (ss.drop k) (lim ss k) s = V ss s) ∧ 0 ≤ p ∧ p ≤ 1125899906842624 ∧ Below w1.heap.size w1 wr) (fun _ _ i _ => ss.length - (RowKit.intOf i).toNat)
      case atStart => exact ⟨0, 0, 0, Nat.zero_le _, rfl, rfl, rfl, (fun _ => by rw [lim_zero]; omega), (by unfold Hid V; rw [lim_zero]; simp), by omega, by omega, Below.refl _ _⟩
      case round =>
        obtain ⟨k, p, g, hk, rfl, rfl, rfl, HG, HP, hp0, hp1, hbr⟩ := hrel
        have bel := hbw.st hbr
        have c2 := (hbr.cell (p := ⟨w.heap.size, 2, none⟩) hz0).trans b2
        have hzr : w.heap.size < wr.heap.size := Nat.lt_of_lt_of_le hz0 hbr.size
        by_cases hi : k < ss.length
        · obtain ⟨b, off, x, y, c, rfl, hb, hx, d0, d1, d2⟩ := (h2'.keep hbr).w3 hi
          have hi2 : (k : Int) < (ss.length : Int) := by omega
          have hg := HG.out hi
          obtain ⟨y1, y2, c1, c3⟩ := ST.out.ok _ (List.mem_of_getElem? hx)
          simp only at y1 y2 c1 c3
          have hbA := hbr.al (.cells #[.int .i64 x, .int .i64 y, .int .i64 c] 228)
          have belA := hbw.st hbA
          by_cases hlow : s ≤ lim ss k
          · -- no second is left
            have E0 : Hid (p = V ss s) := by have := HP.out; rw [ST.out.low hlow] at this; unfold Hid; omega
            obtain ⟨rfl, rfl⟩ := f0'.out (by have := E0.out; show V ss s ≤ _; omega)
            have hg' : g = s := by omega
            subst hg'
            clear f0' f13' HG HP hg
            by_cases hl : k + 1 < ss.length
            · have hl2 : (k : Int) < (ss.length : Int) - 1 := by omega
              have hup := (ST.out.up k _ hx hl).2.2
              simp only at hup
              have hmin : min g x = g := by omega
              clear hx hlow hup
              go_wp2
              all_goals (go_ret2; show _ = Ending.returned (.tuple #[.int .i64 (V ss g), .int .i64 0]) ∧ _; rw [← E0.out]; exact ⟨rfl, belA⟩)
            · have hl2 : ¬ (k : Int) < (ss.length : Int) - 1 := by omega
              clear hx hlow
              go_wp2
              all_goals (go_ret2; show _ = Ending.returned (.tuple #[.int .i64 (V ss g), .int .i64 0]) ∧ _; rw [← E0.out]; exact ⟨rfl, belA⟩)
          · have hg' : g = lim ss k := by omega
            have hg0 : 0 ≤ g := by
              rw [hg']
              unfold lim prevU
              split
              · omega
              · rename_i hk0
                obtain ⟨y', hy'⟩ : ∃ y', ss[k - 1]? = some y' := ⟨_, List.getElem?_eq_getElem (by omega)⟩
                have := (ST.out.up (k - 1) y' hy' (by omega)).1
                rw [hy']
                simp
                omega
            have hend : V ss s = V ss s := rfl
            -- the end of the step: t
            obtain ⟨t, ht, hgt, hts, hval, hlim⟩ : ∃ t, (if k + 1 < ss.length then min s x else s) = t ∧ g < t ∧ t ≤ s ∧ (p + piece (x, y, c) (t - g) + val (ss.drop (k + 1)) (lim ss (k + 1)) s = V ss s) ∧ (k + 1 < ss.length → t = min s (lim ss (k + 1))) := by
              by_cases hl : k + 1 < ss.length
              · have hup := (ST.out.up k _ hx hl).2.2
                simp only at hup
                have e1 := V_on hx hl HP.out
                rw [← hg'] at e1 hup
                refine ⟨min s x, by rw [if_pos hl], by omega, by omega, e1, fun _ => by rw [lim_succ hx]⟩
              · have e1 := V_last hx hl HP.out
                rw [← hg'] at e1
                refine ⟨s, by rw [if_neg hl], by omega, by omega, ?_, fun q => absurd q hl⟩
                rw [List.drop_eq_nil_of_le (by omega), val]
                omega
            have hU := units_pos (x := (x, y, c)) (show 0 < t - g by omega) ⟨y1, y2, c1, c3⟩
            have hP := Lib.hid (piece_pos (x := (x, y, c)) (show 0 < t - g by omega))
            have hN := piece_nonneg (x := (x, y, c)) (t - g) ⟨y1, y2, c1, c3⟩
            have hD := drop_ok ST.out (k + 1) (lim ss (k + 1)) s
            have hq : (t - g - 1).tdiv y = (t - g - 1) / y := quo_pos (by omega)
            simp only at hU hN
            generalize piece (x, y, c) (t - g) = pc at *
            generalize hrest : val (ss.drop (k + 1)) (lim ss (k + 1)) s = rest at *
            have HV : Hid (p + pc + val (ss.drop (k + 1)) (lim ss (k + 1)) s = V ss s) := by rw [hrest]; exact hval
            have HV' := Lib.hid hval
            have HL := Lib.hid hlim
            have HT := Lib.hid ht
            have HD := Lib.hid hD
            obtain ⟨hU1, hU2⟩ := hU
            have hq0 : 0 ≤ (t - g - 1) / y := by omega
            have hq1 : (t - g - 1) / y ≤ 68719476736 := by omega
            have hy0 : y ≠ 0 := by omega
            have hle : ¬ t ≤ g := by omega
            have ht0 : 0 ≤ t := by omega
            have ht1 : t ≤ 68719476736 := by omega
            clear hU1 hU2 hrest hval hlim ht hD hlow hg hg' HG HP hend
            by_cases hpc : pc ≤ 1125899906842624
            · have CR := Lib.hid (fun w => ratio1_ok (n := c) (m := (t - g - 1) / y + 1) c1 (by omega) (by omega) (by omega) (by rw [← show pc = ((t - g - 1) / y + 1) * c from hP.out]; exact hpc) w)
              rw [show ((t - g - 1) / y + 1) * c = pc from hP.out.symm] at CR
              clear hP
              by_cases hsum : p + pc ≤ 1125899906842624
              · have CA := Lib.hid (fun w => add_ok (a := p) (b := pc) (by omega) (by omega) (by omega) w)
                by_cases hl : k + 1 < ss.length
                · have hl2 : (k : Int) < (ss.length : Int) - 1 := by omega
                  have hmin : min s x = t := by have := HT.out; rwa [if_pos hl] at this
                  go_wp2_with fail; go_quiet ((go_at_call 47; with_reducible refine Calls.quiet_of (CR.out _))); go_wp2_with fail; refine (CA.out _).mono ?_; rintro e w4 ⟨rfl, hb4⟩; go_wp2; go_roundw; (case rel => exact ⟨k + 1, _, _, by omega, by go_num, rfl, rfl, HL.out, HV.out, by omega, by omega, (below_drewN hbA _).st hb4⟩); (case measure => simp [RowKit.intOf]; omega)
                · have hl2 : ¬ (k : Int) < (ss.length : Int) - 1 := by omega
                  obtain rfl : s = t := by have := HT.out; rwa [if_neg hl] at this
                  go_wp2_with fail; go_quiet ((go_at_call 47; with_reducible refine Calls.quiet_of (CR.out _))); go_wp2_with fail; refine (CA.out _).mono ?_; rintro e w4 ⟨rfl, hb4⟩; go_wp2; go_roundw; (case rel => exact ⟨k + 1, _, _, by omega, by go_num, rfl, rfl, HL.out, HV.out, by omega, by omega, (below_drewN hbA _).st hb4⟩); (case measure => simp [RowKit.intOf]; omega)
              · have CA := Lib.hid (fun w => add_no (a := p) (b := pc) (by omega) (by omega) (by omega) w)
                obtain ⟨rfl, rfl⟩ := f13'.out (by have := HV'.out; have := HD.out; show _ < V ss s; omega)
                by_cases hl : k + 1 < ss.length
                · have hl2 : (k : Int) < (ss.length : Int) - 1 := by omega
                  have hmin : min s x = t := by have := HT.out; rwa [if_pos hl] at this
                  go_wp2_with fail; go_quiet ((go_at_call 47; with_reducible refine Calls.quiet_of (CR.out _))); go_wp2_with fail; refine (CA.out _).mono ?_; rintro e w4 ⟨rfl, hb4⟩; go_wp2; all_goals (go_ret2; exact ⟨rfl, (below_drewN belA _).st hb4⟩)
                · have hl2 : ¬ (k : Int) < (ss.length : Int) - 1 := by omega
                  obtain rfl : s = t := by have := HT.out; rwa [if_neg hl] at this
                  go_wp2_with fail; go_quiet ((go_at_call 47; with_reducible refine Calls.quiet_of (CR.out _))); go_wp2_with fail; refine (CA.out _).mono ?_; rintro e w4 ⟨rfl, hb4⟩; go_wp2; all_goals (go_ret2; exact ⟨rfl, (below_drewN belA _).st hb4⟩)
            · have CR := Lib.hid (fun w => ratio1_no (n := c) (m := (t - g - 1) / y + 1) c1 (by omega) (by omega) (by omega) (by rw [← show pc = ((t - g - 1) / y + 1) * c from hP.out]; omega) w)
              clear hP
              obtain ⟨rfl, rfl⟩ := f13'.out (by have := HV'.out; have := HD.out; show _ < V ss s; omega)
              by_cases hl : k + 1 < ss.length
              · have hl2 : (k : Int) < (ss.length : Int) - 1 := by omega
                have hmin : min s x = t := by have := HT.out; rwa [if_pos hl] at this
                go_wp2_with fail; go_quiet ((go_at_call 47; with_reducible refine Calls.quiet_of (CR.out _))); go_wp2; all_goals (go_ret2; exact ⟨rfl, below_drewN belA _⟩)
              · have hl2 : ¬ (k : Int) < (ss.length : Int) - 1 := by omega
                obtain rfl : s = t := by have := HT.out; rwa [if_neg hl] at this
                go_wp2_with fail; go_quiet ((go_at_call 47; with_reducible refine Calls.quiet_of (CR.out _))); go_wp2; all_goals (go_ret2; exact ⟨rfl, below_drewN belA _⟩)
        · obtain rfl : k = ss.length := by omega
          have E0 : Hid (p = V ss s) := by have := HP.out; rw [List.drop_eq_nil_of_le (Nat.le_refl _), val] at this; unfold Hid; omega
          obtain ⟨rfl, rfl⟩ := f0'.out (by have := E0.out; show V ss s ≤ _; omega)
          clear f0' f13' HG HP
          go_wp2
          all_goals (go_ret2; show _ = Ending.returned (.tuple #[.int .i64 (V ss s), .int .i64 0]) ∧ _; rw [← E0.out]; exact ⟨rfl, bel⟩)
  · obtain ⟨rfl, rfl⟩ := f1.out hce
    clear f1 f2 f13 f0 st h2
    go_enter Tryz.func117, Tryz.ntmps117
    go_wp2_with (go_at_call 115; (refine (C.out _ hb1).mono ?_); rintro e w1 ⟨rfl, hb2⟩)
    all_goals (go_ret2; exact ⟨rfl, hb1.st hb2⟩)
end Go.Proofs.YtcpfiiapfggmpaaGreat
/- span.Meet, walked. -/
namespace Go.Proofs.YtcpfiiapfggmpaaGreat
open Go.RowKit Go.Lib

set_option maxHeartbeats 4000000 in
theorem meet_any {A B : Option Addr} (c d : Nat) {a b : List Iv} {w : World} (ha : Rd encIv 2 w w.heap.size A a) (hb : Rd encIv 2 w w.heap.size B b) (hla : a.length ≤ 100000000000) (hlb : b.length ≤ 100000000000) :
    Calls Tryz.prog 169 #[.slice A a.length c, .slice B b.length d] w fun e w' => NFr (fun t => Mem a t ∧ Mem b t) w w' e := by
  have C1 := Lib.hid (join1 c ha hla)
  have C2 := Lib.hid (fun (w1 : World) (h1 : Below w.heap.size w w1) => join1 d ((hb.keep h1).more h1.size) hlb)
  clear ha hb
  go_enter Tryz.func169, Tryz.ntmps169
  go_wp2_with fail
  refine C1.out.mono ?_
  rintro e w1 ⟨A1, c1, x, rfl, hnx, hmx, hox, hb1⟩
  have HMX := Lib.hid hmx
  clear hmx C1
  go_wp2_with fail
  refine (C2.out w1 hb1).mono ?_
  rintro e w2 ⟨A2, c2, y, rfl, hny, hmy, hoy, hb2⟩
  have HMY := Lib.hid hmy
  have hrx := Lib.hid ((hox.keep hb2 (Nat.le_refl _)).rd encIv_ok)
  have hry := Lib.hid (hoy.rd encIv_ok)
  have hbel := hb1.trans (hb2.mono hb1.size)
  have R1 := Lib.hid (meetL_NF hnx hny)
  have R2 := Lib.hid (fun t => (meetL_mem hnx hny t).trans (by rw [HMX.out, HMY.out] : _ ↔ Mem a t ∧ Mem b t))
  have hlx := hnx.length_max
  have hly := hny.length_max
  have R3 := Lib.hid (meetL_NF hnx hny).length_max
  have HNX := Lib.hid hnx
  clear C2 hmy hox hoy hb1 hb2 HMX HMY hnx hny
  go_wp2_with fail
  go_loopw [7, 8, 9] (fun v i j wr => ∃ (k1 k2 : Nat) (A' : Option Addr) (c' : Nat) (o : List Iv), k1 ≤ x.length ∧ k2 ≤ y.length ∧ i = .int .i64 k1 ∧ j = .int .i64 k2 ∧ Hid (o ++ meetL (x.drop k1) (y.drop k2) = meetL x y) ∧ v = .slice A' o.length c' ∧ Own 59 encIv 2 wr w2.heap.size A' c' o ∧ Below w2.heap.size w2 wr) (fun _ i j _ => (x.length - (RowKit.intOf i).toNat) + (y.length - (RowKit.intOf j).toNat))
  case atStart => exact ⟨0, 0, none, 0, [], Nat.zero_le _, Nat.zero_le _, rfl, rfl, rfl, rfl, Own.nil _ _, Below.refl _ _⟩
  case round =>
    obtain ⟨k1, k2, A', c', o, hk1, hk2, rfl, rfl, HO, rfl, hown, hbr⟩ := hrel
    have hol : o.length ≤ 68719476736 := by
      have h1 := R3.out
      rw [← HO.out, List.length_append] at h1
      omega
    by_cases hl1 : k1 < x.length
    · by_cases hl2 : k2 < y.length
      · obtain ⟨g, off, f, u, rfl, hg, hx, hc0, hc1⟩ := (hrx.out.keep hbr).iv hl1
        obtain ⟨g', off', f', u', rfl, hg', hy, hc2, hc3⟩ := (hry.out.keep hbr).iv hl2
        have hst : o ++ (one? (isect (f, u) (f', u')) ++ if u < u' then meetL (x.drop (k1 + 1)) (y.drop k2) else meetL (x.drop k1) (y.drop (k2 + 1))) = meetL x y := by
          rw [← HO.out, meetL_step hx hy]
        clear hx hy HO
        have hk1' : (0 : Int) ≤ (k1 : Int) := by omega
        have hk2' : (0 : Int) ≤ (k2 : Int) := by omega
        have hl1' : (k1 : Int) < (x.length : Int) := by omega
        have hl2' : (k2 : Int) < (y.length : Int) := by omega
        have n0 := World.new_ne wr _ hc0
        have n1 := World.new_ne wr _ hc1
        have n2 := World.new_ne wr _ hc2
        have n3 := World.new_ne wr _ hc3
        go_wp2_with fail
        go_region_held3 (fun w' => w'.cell? ⟨g, off + k1 * 2, none⟩ = some (.int .i64 f) ∧ w'.cell? ⟨g, off + k1 * 2 + 1, none⟩ = some (.int .i64 u) ∧ w'.cell? ⟨g', off' + k2 * 2, none⟩ = some (.int .i64 f') ∧ w'.cell? ⟨g', off' + k2 * 2 + 1, none⟩ = some (.int .i64 u')) (go_keep) (fail)
        all_goals
          have p1 := hbr.al (.cells #[.int .i64 (max f f'), .int .i64 (min u u')] 59)
          have p2 := hown.alloc (.cells #[.int .i64 (max f f'), .int .i64 (min u u')] 59)
          have q1 : Below w2.heap.size w2 (wr.alloc (.cells #[.int .i64 (max f f'), .int .i64 (min u u')] 59)).drew := p1.drew
          have q2 : Own 59 encIv 2 (wr.alloc (.cells #[.int .i64 (max f f'), .int .i64 (min u u')] 59)).drew w2.heap.size A' c' o := p2
          have q3 : (wr.alloc (.cells #[.int .i64 (max f f'), .int .i64 (min u u')] 59)).drew.cell? ⟨wr.heap.size, 0, none⟩ = some (.int .i64 (max f f')) := by simp
          have q4 : (wr.alloc (.cells #[.int .i64 (max f f'), .int .i64 (min u u')] 59)).drew.cell? ⟨wr.heap.size, 1, none⟩ = some (.int .i64 (min u u')) := by simp
          have q5 : wr.heap.size < (wr.alloc (.cells #[.int .i64 (max f f'), .int .i64 (min u u')] 59)).drew.heap.size := by simp
          have hgr : g < wr.heap.size := Nat.lt_of_lt_of_le hg hbr.size
          have hgr' : g' < wr.heap.size := Nat.lt_of_lt_of_le hg' hbr.size
          have q6 : (wr.alloc (.cells #[.int .i64 (max f f'), .int .i64 (min u u')] 59)).drew.cell? ⟨g, off + k1 * 2 + 1, none⟩ = some (.int .i64 u) := (World.cell?_alloc_lt wr _ _ hgr).trans hc1
          have q7 : (wr.alloc (.cells #[.int .i64 (max f f'), .int .i64 (min u u')] 59)).drew.cell? ⟨g', off' + k2 * 2 + 1, none⟩ = some (.int .i64 u') := (World.cell?_alloc_lt wr _ _ hgr').trans hc3
          have q8 : wr.heap.size < wr.heap.size + 1 := by omega
          clear p1 p2 hbr hown hc0 hc1 hc2 hc3 n0 n1 n2 n3
          generalize (wr.alloc (.cells #[.int .i64 (max f f'), .int .i64 (min u u')] 59)).drew = wq at *
          generalize wr.heap.size = bx at *
          have HST := Lib.hid hst
          clear hst
          by_cases hm : max f f' < min u u'
          · go_wp2_with (at_builtin; refine wpList_app1 rfl (.tmp 55) (.tmp 57) tyIv encIv_ok rfl ((max f f', min u u') : Iv) rfl _ rfl (by simp) q2 rfl (by first | rfl | simp) (by first | omega | (simp; omega)) (by first | omega | (simp; omega)) q1.size ?_; intro A3 c3 w3 hown3 hb3 hs3 hf3; have hbel3 := q1.trans hb3)
            have r6 := (hb3.cell (p := ⟨g, off + k1 * 2 + 1, none⟩) hg).trans q6
            have r7 := (hb3.cell (p := ⟨g', off' + k2 * 2 + 1, none⟩) hg').trans q7
            by_cases hc : u < u'
            · have R := Lib.hid (show (o ++ [(max f f', min u u')]) ++ meetL (x.drop (k1 + 1)) (y.drop k2) = meetL x y by rw [← HST.out, if_pos hc]; simp [one?, isect, hm])
              go_quiet (fail)
              go_wp2
              go_roundw
              case rel => exact ⟨k1 + 1, k2, A3, c3, _, by omega, by omega, by go_num, rfl, R, by simp, hown3.drewN nq, below_drewN hbel3 nq⟩
              case measure => simp [RowKit.intOf]; omega
            · have R := Lib.hid (show (o ++ [(max f f', min u u')]) ++ meetL (x.drop k1) (y.drop (k2 + 1)) = meetL x y by rw [← HST.out, if_neg hc]; simp [one?, isect, hm])
              go_quiet (fail)
              go_wp2
              go_roundw
              case rel => exact ⟨k1, k2 + 1, A3, c3, _, by omega, by omega, rfl, by go_num, R, by simp, hown3.drewN nq, below_drewN hbel3 nq⟩
              case measure => simp [RowKit.intOf]; omega
          · have H1 := Lib.hid (show one? (isect (f, u) (f', u')) = [] from if_neg hm)
            go_wp2_with fail
            by_cases hc : u < u'
            · have R := Lib.hid (show o ++ meetL (x.drop (k1 + 1)) (y.drop k2) = meetL x y by rw [← HST.out, if_pos hc, H1.out]; rfl)
              go_quiet (fail)
              go_wp2
              go_roundw
              case rel => exact ⟨k1 + 1, k2, A', c', _, by omega, by omega, by go_num, rfl, R, rfl, q2.drewN nq, below_drewN q1 nq⟩
              case measure => simp [RowKit.intOf]; omega
            · have R := Lib.hid (show o ++ meetL (x.drop k1) (y.drop (k2 + 1)) = meetL x y by rw [← HST.out, if_neg hc, H1.out]; rfl)
              go_quiet (fail)
              go_wp2
              go_roundw
              case rel => exact ⟨k1, k2 + 1, A', c', _, by omega, by omega, rfl, by go_num, R, rfl, q2.drewN nq, below_drewN q1 nq⟩
              case measure => simp [RowKit.intOf]; omega
      · obtain rfl : k2 = y.length := by omega
        have R := Lib.hid (show o = meetL x y by have := HO.out; rw [List.drop_length, meetL_nil_right, List.append_nil] at this; exact this)
        clear HO
        go_wp2
        go_ret
        exact ⟨A', c', o, rfl, by rw [R.out]; exact R1.out, by rw [R.out]; exact R2.out, hown.mono hbel.size, hbel.trans (hbr.mono hbel.size)⟩
    · obtain rfl : k1 = x.length := by omega
      have R := Lib.hid (show o = meetL x y by have := HO.out; rw [List.drop_length, meetL_nil_left, List.append_nil] at this; exact this)
      clear HO
      go_wp2
      go_ret
      exact ⟨A', c', o, rfl, by rw [R.out]; exact R1.out, by rw [R.out]; exact R2.out, hown.mono hbel.size, hbel.trans (hbr.mono hbel.size)⟩
end Go.Proofs.YtcpfiiapfggmpaaGreat
/- span.Length, walked. -/
namespace Go.Proofs.YtcpfiiapfggmpaaGreat
open Go.RowKit Go.Lib

set_option maxHeartbeats 2000000 in
theorem length_any {A : Option Addr} (c : Nat) {l : List Iv} {w : World} (h : Rd encIv 2 w w.heap.size A l) (hl : l.length ≤ 100000000000) :
    Calls Tryz.prog 118 #[.slice A l.length c] w fun e w' => ∃ n, e = .returned (.int .i64 (len n)) ∧ NF n ∧ (∀ t, Mem n t ↔ Mem l t) ∧ Below w.heap.size w w' := by
  have C1 := Lib.hid (join1 c h hl)
  clear h
  go_enter Tryz.func118, Tryz.ntmps118
  go_wp2_with fail
  refine C1.out.mono ?_
  rintro e w2 ⟨A2, c2, n, rfl, hn, hm, hon, hb2⟩
  have HM := Lib.hid hm
  have hrd := Lib.hid (hon.rd encIv_ok)
  have hln := hn.length_max
  have HN := Lib.hid hn
  clear C1 hm hon hn
  go_wp2_with fail
  go_loopw [3, 10] (fun v i wr => ∃ (k : Nat) (q : Int), k ≤ n.length ∧ i = .int .i64 k ∧ Hid (len (n.take k) = q) ∧ v = .int .i64 q ∧ Below w2.heap.size w2 wr) (fun _ i _ => n.length - (RowKit.intOf i).toNat)
  case atStart => exact ⟨0, 0, Nat.zero_le _, rfl, rfl, rfl, Below.refl _ _⟩
  case round =>
    obtain ⟨k, q, hk, rfl, HO, rfl, hbr⟩ := hrel
    have hq := len_bounds (HN.out.take k)
    rw [HO.out] at hq
    obtain ⟨hq1, hq2⟩ := hq
    by_cases hlt : k < n.length
    · obtain ⟨g, off, f, u, rfl, hg, hx, hc0, hc1⟩ := (hrd.out.keep hbr).iv hlt
      have hv := HN.out.1 _ (List.mem_of_getElem? hx)
      unfold vld at hv
      simp only at hv
      obtain ⟨hv1, hv2, hv3⟩ := hv
      have R := Lib.hid (show len (n.take (k + 1)) = q + (u - f) by rw [take_snoc hx, len_snoc, HO.out])
      have hbr1 := hbr.al (.cells #[.int .i64 f, .int .i64 u] 59)
      clear hx HO hbr
      go_wp2
      go_roundw
      case rel => exact ⟨k + 1, _, by omega, by go_num, R, rfl, hbr1⟩
      case measure => simp [RowKit.intOf]; omega
    · obtain rfl : k = n.length := by omega
      have R := Lib.hid (show len n = q by have := HO.out; rwa [List.take_length] at this)
      clear HO
      go_wp2
      go_ret
      exact ⟨n, ret_int R.out.symm, HN.out, HM.out, hb2.trans (hbr.mono hb2.size)⟩
end Go.Proofs.YtcpfiiapfggmpaaGreat
