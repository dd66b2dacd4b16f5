/- The date of a day and the month of a time, walked: the clock's and the reference's. -/
import Derived.Test.YtlnnbkpcnhlfcaaDoorJStrEq
import Derived.OwnWalk
set_option linter.unusedSimpArgs false
namespace Go.Proofs.YtlnnbkpcnhlfcaaDoor
open Go.RowKit Go.Lib

def dateV (d : Int) : Value := if 0 ≤ d ∧ d < 795364 then .tuple #[.int .i64 (2001 + (ymd d).1), .int .i64 ((ymd d).2.1 + 1), .int .i64 ((ymd d).2.2 + 1)] else .tuple #[.int .i64 0, .int .i64 0, .int .i64 0]
theorem dateV_of {d : Int} (h0 : 0 ≤ d) (h1 : d < 795364) {n m : Nat} {l r : Int} (hc : cumY n + l = d) (hm : m < 12) (hl : cumM (2001 + n) m + r = l) (r0 : 0 ≤ r) (r1 : r < lenM (2001 + n) (m + 1)) :
    dateV d = .tuple #[.int .i64 (2001 + n), .int .i64 (m + 1), .int .i64 (r + 1)] := by
  have k : DR d n m r := ⟨by omega, hm, r0, r1⟩
  obtain ⟨e1, e2, e3⟩ := (ymd_holds h0 h1).unique k
  unfold dateV
  rw [if_pos ⟨h0, h1⟩, e1, e2, e3]
theorem cum_next {n : Nat} {l d : Int} (h : cumY n + l = d) : cumY (n + 1) + (l - yearN (2001 + n)) = d := by
  have c : cumY (n + 1) = cumY n + yearN (2001 + n) := rfl
  omega
theorem cumM_next {y : Int} {m : Nat} {l r : Int} (h : cumM y m + r = l) : cumM y (m + 1) + (r - lenM y (m + 1)) = l := by
  have c : cumM y (m + 1) = cumM y m + lenM y ((m : Int) + 1) := rfl
  omega
theorem m_lt {y : Int} {m : Nat} {l r : Int} (h : cumM y m + r = l) (hl : l < yearN y) (hm : m < 12) (hr : lenM y (m + 1) ≤ r) : m + 1 < 12 := by
  rcases (by omega : m + 1 < 12 ∨ m = 11) with q | rfl
  · exact q
  · have c : cumM y 12 = cumM y 11 + lenM y ((11 : Int) + 1) := rfl
    rw [cumM_12] at c
    have : lenM y (((11 : Nat) : Int) + 1) = lenM y ((11 : Int) + 1) := rfl
    omega
theorem n_le {n : Nat} {l d : Int} (h : cumY n + l = d) (hl : 0 ≤ l) (hd : d < 795364) : n ≤ 2200 := by
  have a := cumY_lt 0 n
  have z : cumY 0 = 0 := rfl
  rw [Nat.zero_add] at a
  omega

set_option maxRecDepth 100000 in
set_option maxHeartbeats 8000000 in
theorem cdate_any (d : Int) {w : World} (hw : Mon w) : Calls Tryd.prog 34 #[.int .i64 d] w fun e w' => e = .returned (dateV d) ∧ w' = w := by
  by_cases hd : 0 ≤ d ∧ d < 795364
  · have hD := decide_eq_true hd
    obtain ⟨h0, h1⟩ := hd
    have CD := Lib.hid (cisDay_any d w)
    rw [hD] at CD
    have CLP := Lib.hid (fun (y : Int) (q : 0 ≤ y) => cleap_any y q w)
    have CLN := Lib.hid (fun (y m : Int) (q : 0 ≤ y) (q1 : 1 ≤ m) (q2 : m ≤ 12) => clen_any y m q q1 q2 w hw)
    have HOF := Lib.hid (fun (n m : Nat) (l r : Int) hc hm hl r0 r1 => dateV_of h0 h1 (n := n) (m := m) (l := l) (r := r) hc hm hl r0 r1)
    generalize hdv : dateV d = dv at *
    have e1 : d.tdiv 146097 = d / 146097 := Int.tdiv_eq_ediv_of_nonneg h0
    have e2 : d.tmod 146097 = d % 146097 := Int.tmod_eq_emod_of_nonneg h0
    have hk0 : 0 ≤ d / 146097 := by omega
    have hk1 : d / 146097 ≤ 5 := by omega
    have hr0 : 0 ≤ d % 146097 := by omega
    have hr1 : d % 146097 < 146097 := by omega
    have HST : Hid (cumY (400 * (d / 146097).toNat) + d % 146097 = d) := Lib.hid (by rw [cumY_cycle]; omega)
    have HST2 : Hid ((2001 + d / 146097 * 400 : Int) = 2001 + ((400 * (d / 146097).toNat : Nat) : Int)) := Lib.hid (by omega)
    generalize hq : d / 146097 = k0 at *
    generalize hq2 : d % 146097 = l0 at *
    clear hw hdv hD hq hq2
    go_enter Tryd.func34, Tryd.ntmps34
    go_wp2_with fail
    refine CD.out.mono ?_
    rintro e w' ⟨rfl, rfl⟩
    go_wp2_with fail
    go_loopw [5, 6] (fun vy vl wr => ∃ (n : Nat) (l : Int), 0 ≤ l ∧ l ≤ 146097 ∧ vy = .int .i64 (2001 + (n : Int)) ∧ vl = .int .i64 l ∧ Hid (cumY n + l = d) ∧ wr = w') (fun _ vl _ => (RowKit.intOf vl).toNat)
    case atStart => exact ⟨400 * k0.toNat, l0, hr0, by omega, by rw [HST2.out], rfl, HST, rfl⟩
    case round =>
      clear HST HST2 hk0 hk1 hr0 hr1 e1 e2
      obtain ⟨n, l, hl0, hl1, rfl, rfl, HC, rfl⟩ := hrel
      have hn := n_le HC.out hl0 h1
      have CL := Lib.hid (CLP.out (2001 + n) (by omega))
      have HN := Lib.hid (cum_next HC.out)
      have hY : (leapB (2001 + n) = false ∧ yearN (2001 + n) = 365) ∨ (leapB (2001 + n) = true ∧ yearN (2001 + n) = 366) := by unfold yearN; cases leapB (2001 + (n : Int)) <;> simp
      rcases hY with ⟨hlp, hyn⟩ | ⟨hlp, hyn⟩
      all_goals
        rw [hlp] at CL
        rw [hyn] at HN
        have HYN := Lib.hid hyn
        clear hlp hyn
        go_wp2_with fail
        refine CL.out.mono ?_
        rintro e wz ⟨rfl, rfl⟩
      · by_cases hlt : l < 365
        · have HL : Hid (l < yearN (2001 + n)) := Lib.hid (by rw [HYN.out]; exact hlt)
          clear HN HYN CL CLP CD
          go_wp2_with fail
          (obtain ⟨wo, hwo⟩ : ∃ wo, wo = wz := ⟨_, rfl⟩); go_loopw [6, 8] (fun vr vm wr => ∃ (m : Nat) (r : Int), m < 12 ∧ 0 ≤ r ∧ r ≤ 366 ∧ vr = .int .i64 r ∧ vm = .int .i64 ((m : Int) + 1) ∧ Hid (cumM (2001 + n) m + r = l) ∧ wr = wo) (fun vr _ _ => (RowKit.intOf vr).toNat); (case atStart => exact ⟨0, l, by omega, hl0, by omega, rfl, rfl, Lib.hid (by show (0 : Int) + l = l; omega), hwo.symm⟩); (case round => (obtain ⟨m, r, hm, hr0, hr1, rfl, rfl, HM, rfl⟩ := hrel); subst hwo; (have CLM := Lib.hid (CLN.out (2001 + n) ((m : Int) + 1) (by omega) (by omega) (by omega))); (have HMN := Lib.hid (cumM_next HM.out)); (have hlp := lenM_pos (2001 + n) ((m : Int) + 1)); (have HO := Lib.hid (fun (q : r < lenM (2001 + n) (m + 1)) => HOF.out n m l r HC.out hm HM.out hr0 q)); (have HMLT := Lib.hid (fun (q : lenM (2001 + n) (m + 1) ≤ r) => m_lt HM.out HL.out hm q)); generalize lenM (2001 + (n : Int)) ((m : Int) + 1) = ln at CLM HMN hlp HO HMLT; (obtain ⟨hlp1, hlp2⟩ := hlp); by_cases hrl : r < ln; (focus (have R := Lib.hid (HO.out hrl); clear HO HMN HMLT; go_wp2_with fail; refine CLM.out.mono ?_; rintro e wz ⟨rfl, rfl⟩; go_wp2_with fail; go_ret3; rw [R.out]; exact ⟨rfl, rfl⟩)); (focus (have hm2 := HMLT.out (by omega); have hge : 0 ≤ r - ln := (by omega); clear HO HMLT; go_wp2_with fail; refine CLM.out.mono ?_; rintro e wz ⟨rfl, rfl⟩; go_wp2_with fail; refine CLM.out.mono ?_; rintro e wz ⟨rfl, rfl⟩; go_wp2_with fail; go_roundw; (case rel => exact ⟨m + 1, r - ln, hm2, hge, by omega, rfl, by go_num, HMN, trivial⟩); (case measure => simp [RowKit.intOf]; omega))))
        · have h365 : 0 ≤ l - 365 := by omega
          go_wp2_with fail
          go_roundw
          case rel => exact ⟨n + 1, l - 365, h365, by omega, by go_num, rfl, HN, trivial⟩
          case measure => simp [RowKit.intOf]; omega
      · by_cases hlt : l < 366
        · have HL : Hid (l < yearN (2001 + n)) := Lib.hid (by rw [HYN.out]; exact hlt)
          clear HN HYN CL CLP CD
          go_wp2_with fail
          (obtain ⟨wo, hwo⟩ : ∃ wo, wo = wz := ⟨_, rfl⟩); go_loopw [6, 8] (fun vr vm wr => ∃ (m : Nat) (r : Int), m < 12 ∧ 0 ≤ r ∧ r ≤ 366 ∧ vr = .int .i64 r ∧ vm = .int .i64 ((m : Int) + 1) ∧ Hid (cumM (2001 + n) m + r = l) ∧ wr = wo) (fun vr _ _ => (RowKit.intOf vr).toNat); (case atStart => exact ⟨0, l, by omega, hl0, by omega, rfl, rfl, Lib.hid (by show (0 : Int) + l = l; omega), hwo.symm⟩); (case round => (obtain ⟨m, r, hm, hr0, hr1, rfl, rfl, HM, rfl⟩ := hrel); subst hwo; (have CLM := Lib.hid (CLN.out (2001 + n) ((m : Int) + 1) (by omega) (by omega) (by omega))); (have HMN := Lib.hid (cumM_next HM.out)); (have hlp := lenM_pos (2001 + n) ((m : Int) + 1)); (have HO := Lib.hid (fun (q : r < lenM (2001 + n) (m + 1)) => HOF.out n m l r HC.out hm HM.out hr0 q)); (have HMLT := Lib.hid (fun (q : lenM (2001 + n) (m + 1) ≤ r) => m_lt HM.out HL.out hm q)); generalize lenM (2001 + (n : Int)) ((m : Int) + 1) = ln at CLM HMN hlp HO HMLT; (obtain ⟨hlp1, hlp2⟩ := hlp); by_cases hrl : r < ln; (focus (have R := Lib.hid (HO.out hrl); clear HO HMN HMLT; go_wp2_with fail; refine CLM.out.mono ?_; rintro e wz ⟨rfl, rfl⟩; go_wp2_with fail; go_ret3; rw [R.out]; exact ⟨rfl, rfl⟩)); (focus (have hm2 := HMLT.out (by omega); have hge : 0 ≤ r - ln := (by omega); clear HO HMLT; go_wp2_with fail; refine CLM.out.mono ?_; rintro e wz ⟨rfl, rfl⟩; go_wp2_with fail; refine CLM.out.mono ?_; rintro e wz ⟨rfl, rfl⟩; go_wp2_with fail; go_roundw; (case rel => exact ⟨m + 1, r - ln, hm2, hge, by omega, rfl, by go_num, HMN, trivial⟩); (case measure => simp [RowKit.intOf]; omega))))
        · have h366 : 0 ≤ l - 366 := by omega
          go_wp2_with fail
          go_roundw
          case rel => exact ⟨n + 1, l - 366, h366, by omega, by go_num, rfl, HN, trivial⟩
          case measure => simp [RowKit.intOf]; omega
  · have hD := decide_eq_false hd
    have CD := Lib.hid (cisDay_any d w)
    rw [hD] at CD
    unfold dateV
    rw [if_neg hd]
    clear hd hD hw
    go_enter Tryd.func34, Tryd.ntmps34
    go_wp2_with fail
    refine CD.out.mono ?_
    rintro e w' ⟨rfl, rfl⟩
    go_wp2_with fail
    go_ret3
    exact ⟨rfl, rfl⟩

set_option maxRecDepth 100000 in
set_option maxHeartbeats 8000000 in
theorem rdate_any (d : Int) (w : World) : Calls Tryd.prog 35 #[.int .i64 d] w fun e w' => e = .returned (dateV d) ∧ w' = w := by
  by_cases hd : 0 ≤ d ∧ d < 795364
  · have hD := decide_eq_true hd
    obtain ⟨h0, h1⟩ := hd
    have CD := Lib.hid (risDay_any d w)
    rw [hD] at CD
    have CLP := Lib.hid (fun (y : Int) (q : 0 ≤ y) => ryear_any y q w)
    have CLN := Lib.hid (fun (y m : Int) (q : 0 ≤ y) => rlen_any y m q w)
    have HOF := Lib.hid (fun (n m : Nat) (l r : Int) hc hm hl r0 r1 => dateV_of h0 h1 (n := n) (m := m) (l := l) (r := r) hc hm hl r0 r1)
    generalize hdv : dateV d = dv at *
    have HST : Hid (cumY 0 + d = d) := Lib.hid (by rw [show cumY 0 = 0 from rfl]; omega)
    clear hdv hD
    go_enter Tryd.func35, Tryd.ntmps35
    go_wp2_with fail
    refine CD.out.mono ?_
    rintro e w' ⟨rfl, rfl⟩
    go_wp2_with fail
    go_loopw [5, 6] (fun vl vy wr => ∃ (n : Nat) (l : Int), 0 ≤ l ∧ l < 795364 ∧ vy = .int .i64 (2001 + (n : Int)) ∧ vl = .int .i64 l ∧ Hid (cumY n + l = d) ∧ wr = w') (fun vl _ _ => (RowKit.intOf vl).toNat)
    case atStart => exact ⟨0, d, h0, h1, rfl, rfl, HST, rfl⟩
    case round =>
      clear HST
      obtain ⟨n, l, hl0, hl1, rfl, rfl, HC, rfl⟩ := hrel
      have hn := n_le HC.out hl0 h1
      have CL := Lib.hid (CLP.out (2001 + n) (by omega))
      have HN := Lib.hid (cum_next HC.out)
      have hyp := yearN_pos (2001 + n)
      have HYN : Hid (yearN (2001 + (n : Int)) = yearN (2001 + n)) := Lib.hid rfl
      generalize hyn : yearN (2001 + (n : Int)) = yn at CL HN hyp
      have HYN := Lib.hid hyn
      clear hyn
      obtain ⟨hy1, hy2⟩ := hyp
      by_cases hlt : l < yn
      · have HL : Hid (l < yearN (2001 + n)) := Lib.hid (by rw [HYN.out]; exact hlt)
        clear HN HYN
        go_wp2_with fail
        refine CL.out.mono ?_
        rintro e wz ⟨rfl, rfl⟩
        go_wp2_with fail
        clear CL CLP CD
        (obtain ⟨wo, hwo⟩ : ∃ wo, wo = wz := ⟨_, rfl⟩); go_loopw [5, 7] (fun vr vm wr => ∃ (m : Nat) (r : Int), m < 12 ∧ 0 ≤ r ∧ r ≤ 366 ∧ vr = .int .i64 r ∧ vm = .int .i64 ((m : Int) + 1) ∧ Hid (cumM (2001 + n) m + r = l) ∧ wr = wo) (fun vr _ _ => (RowKit.intOf vr).toNat); (case atStart => exact ⟨0, l, by omega, hl0, by omega, rfl, rfl, Lib.hid (by show (0 : Int) + l = l; omega), hwo.symm⟩); (case round => (obtain ⟨m, r, hm, hr0, hr1, rfl, rfl, HM, rfl⟩ := hrel); subst hwo; (have CLM := Lib.hid (CLN.out (2001 + n) ((m : Int) + 1) (by omega))); (have HMN := Lib.hid (cumM_next HM.out)); (have hlp := lenM_pos (2001 + n) ((m : Int) + 1)); (have HO := Lib.hid (fun (q : r < lenM (2001 + n) (m + 1)) => HOF.out n m l r HC.out hm HM.out hr0 q)); (have HMLT := Lib.hid (fun (q : lenM (2001 + n) (m + 1) ≤ r) => m_lt HM.out HL.out hm q)); generalize lenM (2001 + (n : Int)) ((m : Int) + 1) = ln at CLM HMN hlp HO HMLT; (obtain ⟨hlp1, hlp2⟩ := hlp); by_cases hrl : r < ln; (focus (have R := Lib.hid (HO.out hrl); clear HO HMN HMLT; go_wp2_with fail; refine CLM.out.mono ?_; rintro e wz ⟨rfl, rfl⟩; go_wp2_with fail; go_ret3; rw [R.out]; exact ⟨rfl, rfl⟩)); (focus (have hm2 := HMLT.out (by omega); have hge : 0 ≤ r - ln := (by omega); clear HO HMLT; go_wp2_with fail; refine CLM.out.mono ?_; rintro e wz ⟨rfl, rfl⟩; go_wp2_with fail; refine CLM.out.mono ?_; rintro e wz ⟨rfl, rfl⟩; go_wp2_with fail; go_roundw; (case rel => exact ⟨m + 1, r - ln, hm2, hge, by omega, rfl, by go_num, HMN, trivial⟩); (case measure => simp [RowKit.intOf]; omega))))
      · have hge : 0 ≤ l - yn := by omega
        go_wp2_with fail
        refine CL.out.mono ?_
        rintro e wz ⟨rfl, rfl⟩
        go_wp2_with fail
        refine CL.out.mono ?_
        rintro e wz ⟨rfl, rfl⟩
        go_wp2_with fail
        go_roundw
        case rel => exact ⟨n + 1, l - yn, hge, by omega, by go_num, rfl, HN, trivial⟩
        case measure => simp [RowKit.intOf]; omega
  · have hD := decide_eq_false hd
    have CD := Lib.hid (risDay_any d w)
    rw [hD] at CD
    unfold dateV
    rw [if_neg hd]
    clear hd hD
    go_enter Tryd.func35, Tryd.ntmps35
    go_wp2_with fail
    refine CD.out.mono ?_
    rintro e w' ⟨rfl, rfl⟩
    go_wp2_with fail
    go_ret3
    exact ⟨rfl, rfl⟩

theorem ret_i {a b : Int} (h : a = b) : (Ending.returned (.int .i64 a)) = .returned (.int .i64 b) := by rw [h]
theorem month_rng {d : Int} (h0 : 0 ≤ d) (h1 : d < 795364) : (ymd d).1 ≤ 2200 ∧ (ymd d).2.1 < 12 := ⟨(ymd_holds h0 h1).n_le h1, (ymd_holds h0 h1).m12⟩
set_option maxRecDepth 100000 in
set_option maxHeartbeats 2000000 in
theorem month_any (t : Int) {w : World} (hw : Mon w) : Calls Tryd.prog 12 #[.int .i64 t] w fun e w' => e = .returned (.int .i64 (monN t)) ∧ w' = w := by
  have CD := Lib.hid (cday_any t w)
  have CT := Lib.hid (cdate_any (dayN t) hw)
  unfold monN
  have hr : dayN t = -1 ∨ 0 ≤ dayN t := by unfold dayN; split <;> omega
  generalize dayN t = d at *
  clear hw
  unfold monD
  by_cases h0 : d < 0
  · rw [if_neg (by omega)]
    clear CT
    go_enter Tryd.func12, Tryd.ntmps12
    go_wp2_with fail
    refine CD.out.mono ?_
    rintro e w' ⟨rfl, rfl⟩
    go_wp2_with fail
    go_ret
    exact ⟨rfl, rfl⟩
  · by_cases h1 : d < 795364
    · rw [if_pos (by omega)]
      unfold dateV at CT
      rw [if_pos (by omega)] at CT
      have hm := month_rng (by omega : 0 ≤ d) h1
      generalize (ymd d).1 = n at *
      generalize (ymd d).2.1 = m at *
      generalize (ymd d).2.2 = r at *
      obtain ⟨hn, hm⟩ := hm
      go_enter Tryd.func12, Tryd.ntmps12
      go_wp2_with fail
      refine CD.out.mono ?_
      rintro e w' ⟨rfl, rfl⟩
      go_wp2_with fail
      refine CT.out.mono ?_
      rintro e w' ⟨rfl, rfl⟩
      go_wp2_with fail
      go_ret
      exact ⟨ret_i (by omega), rfl⟩
    · rw [if_neg (by omega)]
      unfold dateV at CT
      rw [if_neg (by omega)] at CT
      go_enter Tryd.func12, Tryd.ntmps12
      go_wp2_with fail
      refine CD.out.mono ?_
      rintro e w' ⟨rfl, rfl⟩
      go_wp2_with fail
      refine CT.out.mono ?_
      rintro e w' ⟨rfl, rfl⟩
      go_wp2_with fail
      go_ret
      exact ⟨rfl, rfl⟩
set_option maxRecDepth 100000 in
set_option maxHeartbeats 2000000 in
theorem rmonth_any (t : Int) (w : World) : Calls Tryd.prog 13 #[.int .i64 t] w fun e w' => e = .returned (.int .i64 (monN t)) ∧ w' = w := by
  have CD := Lib.hid (rday_any t w)
  have CT := Lib.hid (rdate_any (dayN t) w)
  unfold monN
  have hr : dayN t = -1 ∨ 0 ≤ dayN t := by unfold dayN; split <;> omega
  generalize dayN t = d at *
  unfold monD
  by_cases h1 : 0 ≤ d ∧ d < 795364
  · rw [if_pos h1]
    unfold dateV at CT
    rw [if_pos h1] at CT
    have hm := month_rng h1.1 h1.2
    generalize (ymd d).1 = n at *
    generalize (ymd d).2.1 = m at *
    generalize (ymd d).2.2 = r at *
    obtain ⟨hn, hm⟩ := hm
    clear h1
    go_enter Tryd.func13, Tryd.ntmps13
    go_wp2_with fail
    refine CD.out.mono ?_
    rintro e w' ⟨rfl, rfl⟩
    go_wp2_with fail
    refine CT.out.mono ?_
    rintro e w' ⟨rfl, rfl⟩
    go_wp2_with fail
    go_ret
    exact ⟨ret_i (by omega), rfl⟩
  · rw [if_neg h1]
    unfold dateV at CT
    rw [if_neg h1] at CT
    clear h1
    go_enter Tryd.func13, Tryd.ntmps13
    go_wp2_with fail
    refine CD.out.mono ?_
    rintro e w' ⟨rfl, rfl⟩
    go_wp2_with fail
    refine CT.out.mono ?_
    rintro e w' ⟨rfl, rfl⟩
    go_wp2_with fail
    go_ret
    exact ⟨rfl, rfl⟩
end Go.Proofs.YtlnnbkpcnhlfcaaDoor
