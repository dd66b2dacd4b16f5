/- Joined texts: ZoneAllMath, ZoneSteps, ZoneRCheck, ZoneRAll. -/
import Derived.Test.YtcpfiiapfggmpaaGreatZoneFind
import Derived.Test.YtcpfiiapfggmpaaGreatJDisAll
import Derived.Deep.RegionHeld3
import Derived.Deep.DrawnRows
import Derived.BigRegion
import Derived.IntWalk
/- The error of a list of zones, in plain words. -/
namespace Go.Proofs.YtcpfiiapfggmpaaGreat
def allE (l : List Zn) (i : Nat) : Int := ((l[i]?).map fun z => if checkE z ≠ 0 then checkE z else if (findZ (l.take i) z.name).isSome then 9 else 0).getD 0
def checkAllE (l : List Zn) : Int := if 1024 < l.length then 3 else firstE (allE l) l.length
theorem allE_bad {l : List Zn} {i : Nat} {z : Zn} (h : l[i]? = some z) (hb : checkE z ≠ 0) : allE l i = checkE z := by
  unfold allE; rw [h]; simp [hb]
theorem allE_two {l : List Zn} {i : Nat} {z : Zn} (h : l[i]? = some z) (hb : checkE z = 0) (hf : (findZ (l.take i) z.name).isSome = true) : allE l i = 9 := by
  unfold allE; rw [h]; simp [hb, hf]
theorem allE_ok {l : List Zn} {i : Nat} {z : Zn} (h : l[i]? = some z) (hb : checkE z = 0) (hf : (findZ (l.take i) z.name).isSome = false) : allE l i = 0 := by
  unfold allE; rw [h]; simp [hb, hf]
theorem checkAllE_big {l : List Zn} (h : 1024 < l.length) : checkAllE l = 3 := by unfold checkAllE; rw [if_pos h]
theorem checkAllE_at {l : List Zn} {k : Nat} (h : ¬ 1024 < l.length) (hz : ∀ j, j < k → allE l j = 0) (hk : k < l.length) (hne : allE l k ≠ 0) : checkAllE l = allE l k := by
  unfold checkAllE; rw [if_neg h, firstE_some hz hk hne]
theorem checkAllE_none {l : List Zn} (h : ¬ 1024 < l.length) (hz : ∀ j, j < l.length → allE l j = 0) : checkAllE l = 0 := by
  unfold checkAllE; rw [if_neg h, firstE_none hz]
end Go.Proofs.YtcpfiiapfggmpaaGreat
/- Steps: zone.steps and the reference's step, walked. -/
namespace Go.Proofs.YtcpfiiapfggmpaaGreat
open Go.RowKit Go.Lib

theorem stepE_at {ss : List Wn} {i : Nat} {x y z : Int} (h : ss[i]? = some (x, y, z)) : stepE ss i = stepX ss.length i (prevU ss i) (x, y, z) := by
  unfold stepE
  rw [h]
  rfl
theorem stepX_bad {n i : Nat} {pu x y z : Int} (h : ¬ ((1 ≤ y ∧ y ≤ 68719476736) ∧ (0 ≤ z ∧ z ≤ 2147483648))) : stepX n i pu (x, y, z) = 1 := by
  unfold stepX
  rw [if_pos (by simp only; omega)]
theorem stepX_last {n i : Nat} {pu x y z : Int} (h : (1 ≤ y ∧ y ≤ 68719476736) ∧ (0 ≤ z ∧ z ≤ 2147483648)) (hl : i + 1 = n) : stepX n i pu (x, y, z) = if x = 0 then 0 else 12 := by
  unfold stepX
  rw [if_neg (by simp only; omega), if_pos hl]
theorem stepX_out {n i : Nat} {pu x y z : Int} (h : (1 ≤ y ∧ y ≤ 68719476736) ∧ (0 ≤ z ∧ z ≤ 2147483648)) (hl : ¬ i + 1 = n) (hx : ¬ (1 ≤ x ∧ x ≤ 68719476736)) : stepX n i pu (x, y, z) = 12 := by
  unfold stepX
  rw [if_neg (by simp only; omega), if_neg hl, if_pos (by simp only; omega)]
theorem stepX_in {n i : Nat} {pu x y z : Int} (h : (1 ≤ y ∧ y ≤ 68719476736) ∧ (0 ≤ z ∧ z ≤ 2147483648)) (hl : ¬ i + 1 = n) (hx : 1 ≤ x ∧ x ≤ 68719476736) : stepX n i pu (x, y, z) = if 0 < i ∧ x ≤ pu then 15 else 0 := by
  unfold stepX
  rw [if_neg (by simp only; omega), if_neg hl, if_neg (by simp only; omega)]
theorem prevU_at {ss : List Wn} {i : Nat} {x y z : Int} (h : ss[i - 1]? = some (x, y, z)) : prevU ss i = x := by
  unfold prevU
  rw [h]
  rfl

set_option maxHeartbeats 2000000 in
theorem rstep_any {A : Option Addr} (c : Nat) {ss : List Wn} {i : Nat} {w : World} (h : Rd encW 3 w w.heap.size A ss) (hi : i < ss.length) (hl : ss.length ≤ 16) :
    Calls Tryz.prog 106 #[.slice A ss.length c, .int .i64 i] w fun e w' => e = .returned (.int .i64 (stepE ss i)) ∧ ∃ n, w' = w.drewN n := by
  have hp := fun h0 : i ≠ 0 => h.w3 (i := i - 1) (by omega)
  obtain ⟨b, off, x, y, z, rfl, hb, hx, c0, c1, c2⟩ := h.w3 hi
  have he := stepE_at hx
  generalize stepE ss i = r at he ⊢
  have hi1 : (0 : Int) ≤ (i : Int) := by omega
  have hi2 : (i : Int) < (ss.length : Int) := by omega
  clear h hx
  by_cases hu : (1 ≤ y ∧ y ≤ 68719476736) ∧ (0 ≤ z ∧ z ≤ 2147483648)
  · by_cases hla : i + 1 = ss.length
    · rw [stepX_last hu hla] at he
      obtain ⟨⟨u1, u2⟩, u3, u4⟩ := hu
      have hla' : ((i : Int) == (ss.length : Int) - 1) = true := by simp; omega
      by_cases hx0 : x = 0
      · rw [if_pos hx0] at he
        subst hx0 he
        clear hp hla
        go_enter Tryz.func106, Tryz.ntmps106
        go_wp2
        all_goals first | (go_ret; exact ⟨rfl, 0, rfl⟩) | (exfalso; first | omega | (rename_i hx; simp at hx; omega) | (rename_i hy hx; simp at hy; omega)) | skip
      · rw [if_neg hx0] at he
        subst he
        clear hp hla
        go_enter Tryz.func106, Tryz.ntmps106
        go_wp2
        all_goals first | (go_ret; exact ⟨rfl, 0, rfl⟩) | (exfalso; first | omega | (rename_i hx; simp at hx; omega) | (rename_i hy hx; simp at hy; omega)) | skip
    · have hla' : ((i : Int) == (ss.length : Int) - 1) = false := by simp; omega
      by_cases hxx : 1 ≤ x ∧ x ≤ 68719476736
      · rw [stepX_in hu hla hxx] at he
        obtain ⟨⟨u1, u2⟩, u3, u4⟩ := hu
        obtain ⟨x1, x2⟩ := hxx
        by_cases h0 : i = 0
        · subst h0
          rw [if_neg (by omega)] at he
          subst he
          clear hp hla
          simp at c0 c1 c2
          go_enter Tryz.func106, Tryz.ntmps106
          go_wp2_with fail
          go_quiet (fail)
          go_wp2
          all_goals first | (go_ret; exact ⟨rfl, _, rfl⟩) | (exfalso; first | omega | (rename_i hx; simp at hx; omega) | (rename_i hy hx; simp at hy; omega)) | skip
        · obtain ⟨b', off', x', y', z', hA, hb', hx', d0, d1, d2⟩ := hp h0
          injection hA with hA
          injection hA with hA1 hA2
          subst hA1 hA2
          rw [prevU_at hx'] at he
          have h1 : (0 : Int) < (i : Int) := by omega
          have h2 : (0 : Int) ≤ (i : Int) - 1 := by omega
          have h3 : (i : Int) - 1 < (ss.length : Int) := by omega
          have h4 : ((i : Int) - 1).toNat = i - 1 := by omega
          have h5 : IntKind.i64.wrap ((i : Int) - 1) = (i : Int) - 1 := IntWalk.i64_in _ (by omega)
          have h6 : decide ((0 : Int) < (i : Int)) = true := decide_eq_true h1
          have h8 : decide (0 < i) = true := decide_eq_true (by omega)
          have h7 : decide (x ≤ x') = decide (x ≤ x') := rfl
          clear hx' hp hla d1 d2 h7
          by_cases hle : x ≤ x'
          · rw [if_pos ⟨by omega, hle⟩] at he
            subst he
            go_enter Tryz.func106, Tryz.ntmps106
            go_wp2_with fail
            go_quiet (fail)
            go_wp2
            all_goals first | (go_ret; exact ⟨rfl, _, rfl⟩) | (exfalso; first | omega | (rename_i hx; simp at hx; omega) | (rename_i hy hx; simp at hy; omega)) | skip
          · rw [if_neg (by omega)] at he
            subst he
            go_enter Tryz.func106, Tryz.ntmps106
            go_wp2_with fail
            go_quiet (fail)
            go_wp2
            all_goals first | (go_ret; exact ⟨rfl, _, rfl⟩) | (exfalso; first | omega | (rename_i hx; simp at hx; omega) | (rename_i hy hx; simp at hy; omega)) | skip
      · rw [stepX_out hu hla hxx] at he
        subst he
        clear hp hla
        obtain ⟨⟨u1, u2⟩, u3, u4⟩ := hu
        go_enter Tryz.func106, Tryz.ntmps106
        go_wp2
        all_goals first | (go_ret; exact ⟨rfl, 0, rfl⟩) | (exfalso; first | omega | (rename_i hx; simp at hx; omega) | (rename_i hy hx; simp at hy; omega)) | skip
  · rw [stepX_bad hu] at he
    subst he
    clear hp
    go_enter Tryz.func106, Tryz.ntmps106
    go_wp2
    all_goals first | (go_ret; exact ⟨rfl, 0, rfl⟩) | (exfalso; first | omega | (rename_i hx; simp at hx; omega) | (rename_i hy hx; simp at hy; omega)) | skip
end Go.Proofs.YtcpfiiapfggmpaaGreat
/- The reference's Check of a zone, walked. -/
namespace Go.Proofs.YtcpfiiapfggmpaaGreat
open Go.RowKit Go.Lib

set_option maxRecDepth 100000 in
set_option maxHeartbeats 4000000 in
theorem rcheck_any (z : Zn) {w : World} (h : ZOk w z) :
    Calls Tryz.prog 63 #[ZV z] w fun e w' => e = .returned (.int .i64 (checkE z)) ∧ Below w.heap.size w w' := by
  have hname := @checkE_name z
  have hhours := @checkE_hours z
  have hwin := @checkE_win z
  have hstep := @checkE_step z
  have htail := @checkE_tail z
  have t12 := @tailE_12 z
  have t13 := @tailE_13 z
  have t0 := @tailE_0 z
  generalize checkE z = r at *
  generalize tailE z = u at *
  obtain ⟨nm, hA, hc, hs, sA, sc, ss, gr, fr, dm, ms⟩ := z
  have h1 : Rd encW 3 w w.heap.size hA hs := h.1
  have h2 : Rd encW 3 w w.heap.size sA ss := h.2
  clear h
  simp only [ZV] at *
  cases hn : nameB nm
  · have R := Lib.hid (hname hn)
    have HN := Lib.hid hn
    clear hname hhours hwin hstep htail t12 t13 t0 hn h1 h2
    go_enter Tryz.func63, Tryz.ntmps63
    go_wp2_with (go_at_call 104; (refine (rIsName_any _ _).mono ?_); rw [HN.out]; rintro e w1 ⟨rfl, rfl⟩)
    all_goals (go_ret; rw [R.out]; exact ⟨rfl, (Below.refl _ w).al _⟩)
  · by_cases h32 : 32 < hs.length
    · have R := Lib.hid (hhours hn h32)
      have HN := Lib.hid hn
      clear hname hhours hwin hstep htail t12 t13 t0 hn h1 h2
      go_enter Tryz.func63, Tryz.ntmps63
      go_wp2_with (go_at_call 104; (refine (rIsName_any _ _).mono ?_); rw [HN.out]; rintro e w1 ⟨rfl, rfl⟩)
      all_goals (go_ret; rw [R.out]; exact ⟨rfl, (Below.refl _ w).al _⟩)
    · have HN := Lib.hid hn
      have Hwin := Lib.hid (hwin hn h32)
      have Hstep := Lib.hid (hstep hn h32)
      have Htail := Lib.hid (htail hn h32)
      have T12 := Lib.hid t12
      have T13 := Lib.hid t13
      have T0 := Lib.hid t0
      clear hname hhours hwin hstep htail t12 t13 t0 hn
      go_enter Tryz.func63, Tryz.ntmps63
      go_wp2_with (go_at_call 104; (refine (rIsName_any _ _).mono ?_); rw [HN.out]; rintro e w1 ⟨rfl, rfl⟩)
      have hb0 : Below w.heap.size w (w.alloc (.cells #[.string nm, .slice hA hs.length hc, .slice sA ss.length sc, .int .i64 gr, .int .i64 fr, .int .i64 dm, .int .i64 ms] 76)) := (Below.refl _ w).al _
      have hz0 : w.heap.size < (w.alloc (.cells #[.string nm, .slice hA hs.length hc, .slice sA ss.length sc, .int .i64 gr, .int .i64 fr, .int .i64 dm, .int .i64 ms] 76)).heap.size := by simp
      have b1 := box_cell (Below.refl _ (w.alloc (.cells #[.string nm, .slice hA hs.length hc, .slice sA ss.length sc, .int .i64 gr, .int .i64 fr, .int .i64 dm, .int .i64 ms] 76))) hz0 1 _ rfl
      have b2 := box_cell (Below.refl _ (w.alloc (.cells #[.string nm, .slice hA hs.length hc, .slice sA ss.length sc, .int .i64 gr, .int .i64 fr, .int .i64 dm, .int .i64 ms] 76))) hz0 2 _ rfl
      have b3 := box_cell (Below.refl _ (w.alloc (.cells #[.string nm, .slice hA hs.length hc, .slice sA ss.length sc, .int .i64 gr, .int .i64 fr, .int .i64 dm, .int .i64 ms] 76))) hz0 3 _ rfl
      have b4 := box_cell (Below.refl _ (w.alloc (.cells #[.string nm, .slice hA hs.length hc, .slice sA ss.length sc, .int .i64 gr, .int .i64 fr, .int .i64 dm, .int .i64 ms] 76))) hz0 4 _ rfl
      have b5 := box_cell (Below.refl _ (w.alloc (.cells #[.string nm, .slice hA hs.length hc, .slice sA ss.length sc, .int .i64 gr, .int .i64 fr, .int .i64 dm, .int .i64 ms] 76))) hz0 5 _ rfl
      have b6 := box_cell (Below.refl _ (w.alloc (.cells #[.string nm, .slice hA hs.length hc, .slice sA ss.length sc, .int .i64 gr, .int .i64 fr, .int .i64 dm, .int .i64 ms] 76))) hz0 6 _ rfl
      have h1' := h1.st hb0
      have h2' := h2.st hb0
      clear h1 h2
      generalize w.alloc (.cells #[.string nm, .slice hA hs.length hc, .slice sA ss.length sc, .int .i64 gr, .int .i64 fr, .int .i64 dm, .int .i64 ms] 76) = w1 at *
      go_loopw [3] (fun i wr => ∃ k : Nat, k ≤ hs.length ∧ i = .int .i64 k ∧ Hid (∀ y ∈ hs.take k, vw y = true) ∧ Below w1.heap.size w1 wr) (fun i _ => hs.length - (RowKit.intOf i).toNat)
      case atStart => exact ⟨0, Nat.zero_le _, rfl, (by unfold Hid; simp), Below.refl _ _⟩
      case round =>
        obtain ⟨k, hk, rfl, HV, hbr⟩ := hrel
        have bel := hb0.st hbr
        have c1 := (hbr.cell (p := ⟨w.heap.size, 1, none⟩) hz0).trans b1
        by_cases hi : k < hs.length
        · obtain ⟨b, off, x, y, z, rfl, hb, hx, d0, d1, d2⟩ := (h1'.keep hbr).w3 hi
          have hi2 : (k : Int) < (hs.length : Int) := by omega
          have hb2 := hbr.al (.cells #[.int .i64 x, .int .i64 y, .int .i64 z] 91)
          cases hv : vw (x, y, z)
          · have R := Lib.hid (Hwin.out (all_no hx hv))
            have HV2 := Lib.hid hv
            clear hx hv b1 b2 b3 b4 b5 b6 h1' h2'
            go_wp2_with (go_at_call 105; (refine (rIsWindow_any (x, y, z) _).mono ?_); rw [HV2.out]; rintro e w' ⟨rfl, rfl⟩)
            all_goals (go_ret; rw [R.out]; exact ⟨rfl, bel.al _⟩)
          · have R := Lib.hid (all_succ hx HV.out hv)
            have HV2 := Lib.hid hv
            clear hx hv b1 b2 b3 b4 b5 b6 h1' h2'
            go_wp2_with (go_at_call 105; (refine (rIsWindow_any (x, y, z) _).mono ?_); rw [HV2.out]; rintro e w' ⟨rfl, rfl⟩)
            go_roundw
            case rel => exact ⟨k + 1, by omega, by go_num, R, hb2⟩
            case measure => simp [RowKit.intOf]; omega
        · obtain rfl : k = hs.length := by omega
          have HA := Lib.hid (all_yes HV.out)
          have c2 := (hbr.cell (p := ⟨w.heap.size, 2, none⟩) hz0).trans b2
          have c3 := (hbr.cell (p := ⟨w.heap.size, 3, none⟩) hz0).trans b3
          have c4 := (hbr.cell (p := ⟨w.heap.size, 4, none⟩) hz0).trans b4
          have c5 := (hbr.cell (p := ⟨w.heap.size, 5, none⟩) hz0).trans b5
          have c6 := (hbr.cell (p := ⟨w.heap.size, 6, none⟩) hz0).trans b6
          have h2 := h2'.st hbr
          have hz1 : w.heap.size < wr.heap.size := Nat.lt_of_lt_of_le hz0 hbr.size
          clear b1 b2 b3 b4 b5 b6 h1' h2' HV hbr hb0
          by_cases h16 : 16 < ss.length
          · have E : stepsE ss = 3 := by simp [stepsE, h16]
            have R := Lib.hid (show r = 3 by rw [Hstep.out HA.out (by rw [E]; decide), E])
            clear E
            go_wp2
            all_goals (go_ret; rw [R.out]; exact ⟨rfl, bel⟩)
          · by_cases h0 : ss.length = 0
            · have E : stepsE ss = 1 := by simp [stepsE, h0]
              have R := Lib.hid (show r = 1 by rw [Hstep.out HA.out (by rw [E]; decide), E])
              clear E
              go_wp2
              all_goals (go_ret; rw [R.out]; exact ⟨rfl, bel⟩)
            · have E := Lib.hid (show stepsE ss = firstE (stepE ss) ss.length by simp [stepsE, h16, h0])
              obtain ⟨wo, rfl⟩ : ∃ wo : World, wo = wr := ⟨_, rfl⟩
              have hl0 : ((ss.length : Int) == 0) = false := beq_eq_false_iff_ne.2 (by omega)
              go_wp2
              go_loopw [4] (fun i wr => ∃ k : Nat, k ≤ ss.length ∧ i = .int .i64 k ∧ Hid (∀ j, j < k → stepE ss j = 0) ∧ Below wo.heap.size wo wr) (fun i _ => ss.length - (RowKit.intOf i).toNat)
              case atStart => exact ⟨0, Nat.zero_le _, rfl, fun j hj => absurd hj (Nat.not_lt_zero _), Below.refl _ _⟩
              case round =>
                obtain ⟨k, hk, rfl, HZ, hbr⟩ := hrel
                have d2 := (hbr.cell (p := ⟨w.heap.size, 2, none⟩) hz1).trans c2
                have bel2 := bel.st hbr
                by_cases hi : k < ss.length
                · have C := Lib.hid (rstep_any sc (h2.st hbr) hi (by omega))
                  clear c2 c3 c4 c5 c6 c1 h2
                  by_cases he : stepE ss k = 0
                  · have R := Lib.hid (firstE_up HZ.out he)
                    have HE := Lib.hid he
                    clear he
                    go_wp2_with (go_at_call 106; (refine C.out.mono ?_); rw [HE.out]; rintro e w' ⟨rfl, n, rfl⟩)
                    go_roundw
                    case rel => exact ⟨k + 1, by omega, by go_num, R, below_drewN hbr _⟩
                    case measure => simp [RowKit.intOf]; omega
                  · have R := Lib.hid (show r = stepE ss k by rw [Hstep.out HA.out (by rw [E.out, firstE_some HZ.out hi he]; exact he), E.out, firstE_some HZ.out hi he])
                    generalize stepE ss k = v at *
                    have hv : (v != 0) = true := by simp [he]
                    clear he
                    go_wp2_with (go_at_call 106; (refine C.out.mono ?_); rintro e w' ⟨rfl, n, rfl⟩)
                    all_goals (go_ret; rw [R.out]; exact ⟨rfl, below_drewN bel2 _⟩)
                · obtain rfl : k = ss.length := by omega
                  have RT := Lib.hid (Htail.out HA.out (by rw [E.out, firstE_none HZ.out]))
                  have d3 := (hbr.cell (p := ⟨w.heap.size, 3, none⟩) hz1).trans c3
                  have d4 := (hbr.cell (p := ⟨w.heap.size, 4, none⟩) hz1).trans c4
                  have d5 := (hbr.cell (p := ⟨w.heap.size, 5, none⟩) hz1).trans c5
                  have d6 := (hbr.cell (p := ⟨w.heap.size, 6, none⟩) hz1).trans c6
                  clear c1 c2 c3 c4 c5 c6 HZ Hstep Hwin Htail E HA h2 hbr bel
                  by_cases q : (0 ≤ gr ∧ gr ≤ 68719476736) ∧ (0 ≤ fr ∧ fr ≤ 68719476736) ∧ (0 ≤ ms ∧ ms ≤ 68719476736)
                  · by_cases q2 : 0 ≤ dm ∧ dm ≤ 1125899906842624
                    · have R := Lib.hid (RT.out.trans (T0.out q q2))
                      obtain ⟨⟨q10, q11⟩, ⟨q20, q21⟩, q30, q31⟩ := q
                      obtain ⟨q40, q41⟩ := q2
                      go_wp2
                      all_goals (go_ret; rw [R.out]; exact ⟨rfl, bel2⟩)
                    · have R := Lib.hid (RT.out.trans (T13.out q q2))
                      obtain ⟨⟨q10, q11⟩, ⟨q20, q21⟩, q30, q31⟩ := q
                      go_wp2
                      all_goals first | (go_ret; rw [R.out]; exact ⟨rfl, bel2⟩) | (exfalso; omega)
                  · have R := Lib.hid (RT.out.trans (T12.out q))
                    go_wp2
                    all_goals first | (go_ret; rw [R.out]; exact ⟨rfl, bel2⟩) | (exfalso; omega)
end Go.Proofs.YtcpfiiapfggmpaaGreat
/- The reference's CheckAll, walked. -/
namespace Go.Proofs.YtcpfiiapfggmpaaGreat
open Go.RowKit Go.Lib

set_option maxRecDepth 100000 in
set_option maxHeartbeats 2000000 in
theorem rall_any {A : Option Addr} (c : Nat) {l : List Zn} {w : World} (h : Rd encZ 7 w w.heap.size A l) (hz : ZsOk w l) (hlen : l.length ≤ 9223372036854775807) :
    Calls Tryz.prog 30 #[.slice A l.length c] w fun e w' => e = .returned (.int .i64 (checkAllE l)) ∧ Below w.heap.size w w' := by
  have Hbig := Lib.hid (@checkAllE_big l)
  have Hat := Lib.hid (show ∀ k, ¬ 1024 < l.length → (∀ j, j < k → allE l j = 0) → k < l.length → allE l k ≠ 0 → checkAllE l = allE l k from fun k => checkAllE_at)
  have Hno := Lib.hid (@checkAllE_none l)
  generalize checkAllE l = r at *
  by_cases hbig : 1024 < l.length
  · have R := Lib.hid (Hbig.out hbig)
    clear Hbig Hat Hno h hz
    go_enter Tryz.func30, Tryz.ntmps30
    go_wp2
    all_goals (go_ret; rw [R.out]; exact ⟨rfl, Below.refl _ _⟩)
  · go_enter Tryz.func30, Tryz.ntmps30
    go_wp2
    go_loopw [3] (fun i wr => ∃ k : Nat, k ≤ l.length ∧ i = .int .i64 k ∧ Hid (∀ j, j < k → allE l j = 0) ∧ Below w.heap.size w wr) (fun i _ => l.length - (RowKit.intOf i).toNat)
    case atStart => exact ⟨0, Nat.zero_le _, rfl, fun j hj => absurd hj (Nat.not_lt_zero _), Below.refl _ _⟩
    case round =>
      obtain ⟨k, hk, rfl, HZ, hbr⟩ := hrel
      by_cases hi : k < l.length
      · obtain ⟨b, off, z, hA, hb, hx, d0, d1, d2, d3, d4, d5, d6⟩ := (h.keep hbr).z hi
        subst hA
        have hzk := hz z (List.mem_of_getElem? hx)
        have C := Lib.hid (rcheck_any z (hzk.st hbr))
        have hi1 : (0 : Int) ≤ (k : Int) := by omega
        have hi2 : (k : Int) < (l.length : Int) := by omega
        by_cases he : checkE z = 0
        · have HE := Lib.hid he
          have Hf1 := Lib.hid (show ∀ j y, l[j]? = some y → j < k → (∀ y ∈ (l.take k).take j, eqS y.name z.name = false) → eqS y.name z.name = true → (findZ (l.take k) z.name).isSome = true from fun j y h1 h2 h3 h4 => by rw [findZ_at (take_get h1 h2) h3 h4]; rfl)
          have Hf0 := Lib.hid (show (∀ y ∈ (l.take k).take k, eqS y.name z.name = false) → (findZ (l.take k) z.name).isSome = false from fun h3 => by rw [findZ_none (by rw [List.length_take, Nat.min_eq_left (by omega)]; exact h3)]; rfl)
          have R9 := Lib.hid (show (findZ (l.take k) z.name).isSome = true → r = 9 from fun hf => by rw [Hat.out k hbig HZ.out hi (by rw [allE_two hx he hf]; decide), allE_two hx he hf])
          have R0 := Lib.hid (show (findZ (l.take k) z.name).isSome = false → ∀ j, j < k + 1 → allE l j = 0 from fun hf => firstE_up HZ.out (allE_ok hx he hf))
          generalize (findZ (l.take k) z.name).isSome = q at *
          clear he hz
          obtain ⟨wo, rfl⟩ : ∃ wo : World, wo = wr := ⟨_, rfl⟩
          go_wp2_with fail
          refine C.out.mono ?_
          rw [HE.out]
          rintro e w2 ⟨rfl, hbz⟩
          have hb2 := hbr.st hbz
          go_wp2_with fail
          go_loopw [5] (fun i wr => ∃ j : Nat, j ≤ k ∧ i = .int .i64 j ∧ Hid (∀ y ∈ (l.take k).take j, eqS y.name z.name = false) ∧ ∃ n, wr = w2.drewN n) (fun i _ => k - (RowKit.intOf i).toNat)
          case atStart => exact ⟨0, Nat.zero_le _, rfl, (by unfold Hid; simp), 0, rfl⟩
          case round =>
            obtain ⟨j, hj, rfl, HN, n, rfl⟩ := hrel
            by_cases hjk : j < k
            · obtain ⟨b', off', y, hA, hb', hy, e0, -, -, -, -, -, -⟩ := (h.keep hb2).z (show j < l.length by omega)
              injection hA with hA
              injection hA with hA1 hA2
              subst hA1 hA2
              have d0' := ((h.keep hb2).z hi)
              obtain ⟨b', off', z', hA, hb', hz', f0, -, -, -, -, -, -⟩ := d0'
              injection hA with hA
              injection hA with hA1 hA2
              subst hA1 hA2
              rw [hx] at hz'
              injection hz' with hz'
              subst hz'
              have hj1 : (0 : Int) ≤ (j : Int) := by omega
              have hj2 : (j : Int) < (l.length : Int) := by omega
              cases hq : eqS y.name z.name
              · have R := Lib.hid (all_succ' (take_get hy hjk) HN.out hq)
                have hq2 : (y.name.toList == z.name.toList) = false := hq
                clear hq hy hx h d0 d1 d2 d3 d4 d5 d6
                go_wp2_with fail
                go_quiet (fail)
                go_wp2
                go_roundw
                case rel => exact ⟨j + 1, by omega, by go_num, R, _, rfl⟩
                case measure => simp [RowKit.intOf]; omega
              · have R := Lib.hid (R9.out (Hf1.out j y hy hjk HN.out hq))
                have hq2 : (y.name.toList == z.name.toList) = true := hq
                clear hq hy hx h d0 d1 d2 d3 d4 d5 d6
                go_wp2_with fail
                go_quiet (fail)
                go_wp2
                all_goals (go_ret; rw [R.out]; exact ⟨rfl, below_drewN (below_drewN hb2 _) _⟩)
            · obtain rfl : j = k := by omega
              have R := Lib.hid (R0.out (Hf0.out HN.out))
              clear hx h d0 d1 d2 d3 d4 d5 d6
              go_wp2
              go_roundw
              case rel => exact ⟨j + 1, by omega, by go_num, R, below_drewN hb2 _⟩
              case measure => simp [RowKit.intOf]; omega
        · have R := Lib.hid (show r = checkE z by rw [Hat.out k hbig HZ.out hi (by rw [allE_bad hx he]; exact he), allE_bad hx he])
          generalize checkE z = v at *
          have hv : (v != 0) = true := by simp [he]
          clear he h hz hx
          go_wp2_with fail
          refine C.out.mono ?_
          rintro e w2 ⟨rfl, hbz⟩
          go_wp2_with fail
          all_goals (go_ret; rw [R.out]; exact ⟨rfl, hbr.st hbz⟩)
      · obtain rfl : k = l.length := by omega
        have R := Lib.hid (Hno.out hbig HZ.out)
        go_wp2
        go_ret
        rw [R.out]
        exact ⟨rfl, hbr⟩
end Go.Proofs.YtcpfiiapfggmpaaGreat
