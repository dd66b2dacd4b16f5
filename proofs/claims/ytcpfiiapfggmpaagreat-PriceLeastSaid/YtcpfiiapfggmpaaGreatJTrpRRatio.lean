/- Joined texts: TrpRRatio, TarRBase. -/
import Derived.Test.YtcpfiiapfggmpaaGreatJRelUp
import Derived.OwnWalk
import Derived.BigQuiet
import Derived.Test.YtcpfiiapfggmpaaGreatJTarBase
/- The reference's Ratio in thousandths, to the nearest, walked. -/
namespace Go.Proofs.YtcpfiiapfggmpaaGreat
open Go.RowKit Go.Lib

/-- long division in thousandths, of integers -/
def DivR (n m W Q R : Int) : Prop := ∃ (a b k W' q r : Nat), n = a ∧ m = b ∧ W = W' ∧ Q = q ∧ R = r ∧ a ≤ 1125899906842624 ∧ DivS a b k W' q r
theorem DivR.start {n m : Int} (h0 : 0 ≤ n) (h1 : n ≤ 1125899906842624) (h2 : 0 ≤ m) : DivR n m 1125899906842624 0 0 := by
  obtain ⟨a, rfl⟩ := Int.eq_ofNat_of_zero_le h0
  obtain ⟨b, rfl⟩ := Int.eq_ofNat_of_zero_le h2
  exact ⟨a, b, 0, _, 0, 0, rfl, rfl, rfl, rfl, rfl, by omega, DivS.start b (by omega)⟩
theorem DivR.bounds {n m W Q R : Int} (h : DivR n m W Q R) : 0 ≤ W ∧ W ≤ 1125899906842624 ∧ 0 ≤ Q ∧ 0 ≤ R ∧ R < 1000 := by
  obtain ⟨a, b, k, W', q, r, rfl, rfl, rfl, rfl, rfl, ha, h⟩ := h
  have h2 := h.2.2.2
  by_cases hk : k < 51
  · have h3 := h.pos hk
    clear h
    omega
  · obtain rfl : k = 51 := by have := h.1; omega
    have h3 := h.fin.1
    clear h
    omega
theorem DivR.le {n m W Q R : Int} (h : DivR n m W Q R) : Q ≤ n * m / 1000 := by
  obtain ⟨a, b, k, W', q, r, rfl, rfl, rfl, rfl, rfl, ha, h⟩ := h
  obtain ⟨_, _, h1, _⟩ := h
  have hb : a / 2 ^ (51 - k) * b ≤ a * b := Nat.mul_le_mul_right _ (Nat.div_le_self _ _)
  rw [← Int.natCast_mul]
  generalize a / 2 ^ (51 - k) * b = x at *
  generalize a * b = y at *
  omega
theorem DivR.next0 {n m W Q R : Int} (h : DivR n m W Q R) (hW : 0 < W) (hb : n / W % 2 = 0) : DivR n m (W / 2) (2 * Q + R * 2 / 1000) (R * 2 % 1000) := by
  obtain ⟨a, b, k, W', q, r, rfl, rfl, rfl, rfl, rfl, ha, h⟩ := h
  have hb2 : a / W' % 2 = 0 := by
    have e : ((a / W' % 2 : Nat) : Int) = 0 := by rw [Int.natCast_emod, Int.natCast_ediv]; exact hb
    exact Int.ofNat_eq_zero.1 e
  exact ⟨a, b, k + 1, W' / 2, 2 * q + r * 2 / 1000, r * 2 % 1000, rfl, rfl, by omega, by omega, by omega, ha, h.next0 (DivI.lt h hW) hb2⟩
theorem DivR.next1 {n m W Q R : Int} (h : DivR n m W Q R) (hW : 0 < W) (hb : n / W % 2 = 1) : DivR n m (W / 2) (2 * Q + R * 2 / 1000 + m / 1000 + (R * 2 % 1000 + m % 1000) / 1000) ((R * 2 % 1000 + m % 1000) % 1000) := by
  obtain ⟨a, b, k, W', q, r, rfl, rfl, rfl, rfl, rfl, ha, h⟩ := h
  have hb2 : a / W' % 2 = 1 := by
    have e : ((a / W' % 2 : Nat) : Int) = 1 := by rw [Int.natCast_emod, Int.natCast_ediv]; exact hb
    exact Int.ofNat_inj.1 e
  exact ⟨a, b, k + 1, W' / 2, 2 * q + r * 2 / 1000 + b / 1000 + (r * 2 % 1000 + b % 1000) / 1000, (r * 2 % 1000 + b % 1000) % 1000, rfl, rfl, by omega, by omega, by omega, ha, h.next1 (DivI.lt h hW) hb2⟩
theorem DivR.fin {n m W Q R : Int} (h : DivR n m W Q R) (hW : W ≤ 0) : Q = n * m / 1000 ∧ R = n * m % 1000 := by
  obtain ⟨a, b, k, W', q, r, rfl, rfl, rfl, rfl, rfl, ha, h⟩ := h
  have hk : k = 51 := by
    rcases Nat.lt_or_ge k 51 with q1 | q1
    · have h3 := h.pos q1
      clear h
      omega
    · have := h.1; omega
  subst hk
  obtain ⟨_, rfl, rfl⟩ := h.fin
  exact ⟨by rw [Int.natCast_ediv, Int.natCast_mul]; rfl, by rw [Int.natCast_emod, Int.natCast_mul]; rfl⟩
/-- what divide hands back -/
def divV (q r : Int) : Value := if 4503599627370496 ≤ q then .tuple #[.int .u64 0, .int .u64 0, .bool false] else .tuple #[.int .u64 q, .int .u64 r, .bool true]

set_option maxRecDepth 100000 in
set_option maxHeartbeats 4000000 in
theorem rdivN_any {n m : Int} (hn0 : 0 ≤ n) (hn1 : n ≤ 1125899906842624) (hm0 : 0 ≤ m) (hm1 : m ≤ 10000) (w : World) :
    Calls Tryz.prog 54 #[.int .u64 n, .int .u64 m, .int .u64 1000] w fun e w' => e = .returned (divV (n * m / 1000) (n * m % 1000)) ∧ ∃ k, w' = w.drewN k := by
  have H0 := Lib.hid (DivR.start hn0 hn1 hm0)
  have HE := Lib.hid (fun W q r => @DivR.fin n m W q r)
  have HLE := Lib.hid (fun W q r => @DivR.le n m W q r)
  generalize n * m / 1000 = qq at *
  generalize n * m % 1000 = rr at *
  go_enter Tryz.func54, Tryz.ntmps54
  go_wp2
  go_loopw [9, 10, 11] (fun qv rv wv wr => ∃ (W q r : Int) (dn : Nat), qv = .int .u64 q ∧ rv = .int .u64 r ∧ wv = .int .u64 W ∧ q < 4503599627370496 ∧ Hid (DivR n m W q r) ∧ wr = w.drewN dn) (fun _ _ wv _ => (RowKit.intOf wv).toNat)
  case atStart => exact ⟨_, 0, 0, 0, rfl, rfl, rfl, by omega, H0, rfl⟩
  case round =>
    obtain ⟨W, q, r, dn, rfl, rfl, rfl, hq, HD, rfl⟩ := hrel
    obtain ⟨w0, w1, q0, r0, r1⟩ := HD.out.bounds
    clear H0
    by_cases hlt : 0 < W
    · have hdv : n.tdiv W = n / W := Int.tdiv_eq_ediv_of_nonneg hn0
      have hdb : 0 ≤ n / W := Int.ediv_nonneg hn0 w0
      have hdc : n / W ≤ 1125899906842624 := Int.le_trans (Int.ediv_le_self _ hn0) hn1
      rcases bit_of (n / W) with hb | hb
      · have HD2 := Lib.hid (HD.out.next0 hlt hb)
        by_cases hbig : 4503599627370496 ≤ 2 * q + r * 2 / 1000
        · have HV := Lib.hid (show divV qq rr = .tuple #[.int .u64 0, .int .u64 0, .bool false] from if_pos (Int.le_trans hbig (HLE.out _ _ _ HD2.out)))
          clear HD HE HLE HD2
          go_wp2_with fail
          go_ret3
          rw [HV.out]
          exact ⟨rfl, dn, rfl⟩
        · clear HD HE HLE
          go_wp2_with fail
          go_roundw
          case rel => exact ⟨_, _, _, dn, by go_num, by go_num, by go_num, by omega, HD2, rfl⟩
          case measure => simp [RowKit.intOf]; omega
      · have HD2 := Lib.hid (HD.out.next1 hlt hb)
        by_cases hbig : 4503599627370496 ≤ 2 * q + r * 2 / 1000 + m / 1000 + (r * 2 % 1000 + m % 1000) / 1000
        · have HV := Lib.hid (show divV qq rr = .tuple #[.int .u64 0, .int .u64 0, .bool false] from if_pos (Int.le_trans hbig (HLE.out _ _ _ HD2.out)))
          clear HD HE HLE HD2
          go_wp2_with fail
          go_quiet (fail)
          go_wp2
          go_ret3
          rw [HV.out]
          exact ⟨rfl, _, rfl⟩
        · clear HD HE HLE
          go_wp2_with fail
          go_quiet (fail)
          go_wp2
          go_roundw
          case rel => exact ⟨_, _, _, _, by go_num, by go_num, by go_num, by omega, HD2, rfl⟩
          case measure => simp [RowKit.intOf]; omega
    · obtain ⟨e1, e2⟩ := HE.out _ _ _ HD.out (by omega)
      have HV := Lib.hid (show divV qq rr = .tuple #[.int .u64 q, .int .u64 r, .bool true] by rw [← e1, ← e2]; exact if_neg (by omega))
      clear HD HE HLE e1 e2
      go_wp2
      go_ret3
      rw [HV.out]
      exact ⟨rfl, _, rfl⟩

set_option maxRecDepth 100000 in
set_option maxHeartbeats 8000000 in
theorem rnear_any {n m : Int} (hn0 : 0 ≤ n) (hn1 : n ≤ 1125899906842624) (hm0 : 0 ≤ m) (hm1 : m ≤ 10000) (w : World) :
    Calls Tryz.prog 21 #[.int .i64 n, .int .i64 m, .int .i64 1000, .int .i64 3] w fun e w' => e = .returned (.tuple #[.int .i64 (nearP n m).1, .int .i64 (nearP n m).2]) ∧ ∃ k, w' = w.drewN k := by
  have C1 := Lib.hid (fun w => rfits3_yes (n := n) (by omega) w)
  have C2 := Lib.hid (fun w => rsize3_any (x := n) hn0 (by omega) w)
  have C3 := Lib.hid (fun w => rsize3_any (x := m) hm0 (by omega) w)
  have C4 := Lib.hid (fun w => rsize3_any (x := 1000) (by omega) (by omega) w)
  have C6 := Lib.hid (fun w => rdivN_any hn0 hn1 hm0 hm1 w)
  unfold nearP
  have hp0 : 0 ≤ n * m := Int.mul_nonneg hn0 hm0
  generalize n * m = p at *
  obtain ⟨q, hq⟩ : ∃ q : Int, p / 1000 = q := ⟨_, rfl⟩
  obtain ⟨r, hr⟩ : ∃ r : Int, p % 1000 = r := ⟨_, rfl⟩
  have hq0 : 0 ≤ q := by omega
  have hr0 : 0 ≤ r := by omega
  have hr1 : r < 1000 := by omega
  rw [hq, hr] at C6 ⊢
  clear hp0 hq hr
  by_cases hhuge : 4503599627370496 ≤ q
  · have HV := Lib.hid (nearV_big (q := q) (r := r) (by omega))
    have hdv : divV q r = .tuple #[.int .u64 0, .int .u64 0, .bool false] := if_pos hhuge
    rw [hdv] at C6
    clear hdv
    (go_enter Tryz.func21, Tryz.ntmps21); (go_wp2_with (first | (go_at_call 52; with_reducible refine (C1.out _).mono ?_; rintro e w' ⟨rfl, rfl⟩) | (go_at_call 53; with_reducible refine (C4.out _).mono ?_; rintro e w' ⟨rfl, rfl⟩) | (go_at_call 53; with_reducible refine (C2.out _).mono ?_; rintro e w' ⟨rfl, rfl⟩) | (go_at_call 53; with_reducible refine (C3.out _).mono ?_; rintro e w' ⟨rfl, rfl⟩) | (go_at_call 54; with_reducible refine (C6.out _).mono ?_; rintro e w6 ⟨rfl, k6, rfl⟩))); (all_goals (go_ret2; rw [HV.out]; exact ⟨by first | rfl | simp, k6, rfl⟩))
  have hdv : divV q r = .tuple #[.int .u64 q, .int .u64 r, .bool true] := if_neg hhuge
  rw [hdv] at C6
  clear hdv
  by_cases hbig : 1125899906842624 < q
  · have HV := Lib.hid (nearV_big (r := r) hbig)
    have hm : q.tmod 2 = q % 2 := Int.tmod_eq_emod_of_nonneg hq0
    by_cases h1 : 1000 - r < r
    · (go_enter Tryz.func21, Tryz.ntmps21); (go_wp2_with (first | (go_at_call 52; with_reducible refine (C1.out _).mono ?_; rintro e w' ⟨rfl, rfl⟩) | (go_at_call 53; with_reducible refine (C4.out _).mono ?_; rintro e w' ⟨rfl, rfl⟩) | (go_at_call 53; with_reducible refine (C2.out _).mono ?_; rintro e w' ⟨rfl, rfl⟩) | (go_at_call 53; with_reducible refine (C3.out _).mono ?_; rintro e w' ⟨rfl, rfl⟩) | (go_at_call 54; with_reducible refine (C6.out _).mono ?_; rintro e w6 ⟨rfl, k6, rfl⟩))); (all_goals (go_ret2; rw [HV.out]; exact ⟨by first | rfl | simp, k6, rfl⟩))
    · by_cases h3 : r = 500
      · subst h3
        by_cases h4 : q % 2 = 1
        · have h4b : (q % 2 == 1) = true := beq_iff_eq.2 h4
          clear h4
          (go_enter Tryz.func21, Tryz.ntmps21); (go_wp2_with (first | (go_at_call 52; with_reducible refine (C1.out _).mono ?_; rintro e w' ⟨rfl, rfl⟩) | (go_at_call 53; with_reducible refine (C4.out _).mono ?_; rintro e w' ⟨rfl, rfl⟩) | (go_at_call 53; with_reducible refine (C2.out _).mono ?_; rintro e w' ⟨rfl, rfl⟩) | (go_at_call 53; with_reducible refine (C3.out _).mono ?_; rintro e w' ⟨rfl, rfl⟩) | (go_at_call 54; with_reducible refine (C6.out _).mono ?_; rintro e w6 ⟨rfl, k6, rfl⟩))); (all_goals (go_ret2; rw [HV.out]; exact ⟨by first | rfl | simp, k6, rfl⟩))
        · have h4b : (q % 2 == 1) = false := beq_eq_false_iff_ne.2 h4
          clear h4
          (go_enter Tryz.func21, Tryz.ntmps21); (go_wp2_with (first | (go_at_call 52; with_reducible refine (C1.out _).mono ?_; rintro e w' ⟨rfl, rfl⟩) | (go_at_call 53; with_reducible refine (C4.out _).mono ?_; rintro e w' ⟨rfl, rfl⟩) | (go_at_call 53; with_reducible refine (C2.out _).mono ?_; rintro e w' ⟨rfl, rfl⟩) | (go_at_call 53; with_reducible refine (C3.out _).mono ?_; rintro e w' ⟨rfl, rfl⟩) | (go_at_call 54; with_reducible refine (C6.out _).mono ?_; rintro e w6 ⟨rfl, k6, rfl⟩))); (all_goals (go_ret2; rw [HV.out]; exact ⟨by first | rfl | simp, k6, rfl⟩))
      · have h3b : (r == 1000 - r) = false := beq_eq_false_iff_ne.2 (by omega)
        clear h3
        (go_enter Tryz.func21, Tryz.ntmps21); (go_wp2_with (first | (go_at_call 52; with_reducible refine (C1.out _).mono ?_; rintro e w' ⟨rfl, rfl⟩) | (go_at_call 53; with_reducible refine (C4.out _).mono ?_; rintro e w' ⟨rfl, rfl⟩) | (go_at_call 53; with_reducible refine (C2.out _).mono ?_; rintro e w' ⟨rfl, rfl⟩) | (go_at_call 53; with_reducible refine (C3.out _).mono ?_; rintro e w' ⟨rfl, rfl⟩) | (go_at_call 54; with_reducible refine (C6.out _).mono ?_; rintro e w6 ⟨rfl, k6, rfl⟩))); (all_goals (go_ret2; rw [HV.out]; exact ⟨by first | rfl | simp, k6, rfl⟩))
  have hm : q.tmod 2 = q % 2 := Int.tmod_eq_emod_of_nonneg hq0
  rcases nearV_cases (r := r) hbig with ⟨h1, h2, hv⟩ | ⟨h1, h2, hv⟩ | ⟨h3, h4, h2, hv⟩ | ⟨h3, h4, h2, hv⟩ | ⟨h3, h4, hv⟩ | ⟨h3, h1, hv⟩
  · have HV := Lib.hid hv
    clear hv
    (go_enter Tryz.func21, Tryz.ntmps21); (go_wp2_with (first | (go_at_call 52; with_reducible refine (C1.out _).mono ?_; rintro e w' ⟨rfl, rfl⟩) | (go_at_call 53; with_reducible refine (C4.out _).mono ?_; rintro e w' ⟨rfl, rfl⟩) | (go_at_call 53; with_reducible refine (C2.out _).mono ?_; rintro e w' ⟨rfl, rfl⟩) | (go_at_call 53; with_reducible refine (C3.out _).mono ?_; rintro e w' ⟨rfl, rfl⟩) | (go_at_call 54; with_reducible refine (C6.out _).mono ?_; rintro e w6 ⟨rfl, k6, rfl⟩))); (all_goals (go_ret2; rw [HV.out]; exact ⟨by first | rfl | simp, k6, rfl⟩))
  · have HV := Lib.hid hv
    clear hv
    (go_enter Tryz.func21, Tryz.ntmps21); (go_wp2_with (first | (go_at_call 52; with_reducible refine (C1.out _).mono ?_; rintro e w' ⟨rfl, rfl⟩) | (go_at_call 53; with_reducible refine (C4.out _).mono ?_; rintro e w' ⟨rfl, rfl⟩) | (go_at_call 53; with_reducible refine (C2.out _).mono ?_; rintro e w' ⟨rfl, rfl⟩) | (go_at_call 53; with_reducible refine (C3.out _).mono ?_; rintro e w' ⟨rfl, rfl⟩) | (go_at_call 54; with_reducible refine (C6.out _).mono ?_; rintro e w6 ⟨rfl, k6, rfl⟩))); (all_goals (go_ret2; rw [HV.out]; exact ⟨by first | rfl | simp, k6, rfl⟩))
  · subst h3
    have HV := Lib.hid hv
    have h4b : (q % 2 == 1) = true := beq_iff_eq.2 h4
    clear hv h4
    (go_enter Tryz.func21, Tryz.ntmps21); (go_wp2_with (first | (go_at_call 52; with_reducible refine (C1.out _).mono ?_; rintro e w' ⟨rfl, rfl⟩) | (go_at_call 53; with_reducible refine (C4.out _).mono ?_; rintro e w' ⟨rfl, rfl⟩) | (go_at_call 53; with_reducible refine (C2.out _).mono ?_; rintro e w' ⟨rfl, rfl⟩) | (go_at_call 53; with_reducible refine (C3.out _).mono ?_; rintro e w' ⟨rfl, rfl⟩) | (go_at_call 54; with_reducible refine (C6.out _).mono ?_; rintro e w6 ⟨rfl, k6, rfl⟩))); (all_goals (go_ret2; rw [HV.out]; exact ⟨by first | rfl | simp, k6, rfl⟩))
  · subst h3
    have HV := Lib.hid hv
    have h4b : (q % 2 == 1) = true := beq_iff_eq.2 h4
    clear hv h4
    (go_enter Tryz.func21, Tryz.ntmps21); (go_wp2_with (first | (go_at_call 52; with_reducible refine (C1.out _).mono ?_; rintro e w' ⟨rfl, rfl⟩) | (go_at_call 53; with_reducible refine (C4.out _).mono ?_; rintro e w' ⟨rfl, rfl⟩) | (go_at_call 53; with_reducible refine (C2.out _).mono ?_; rintro e w' ⟨rfl, rfl⟩) | (go_at_call 53; with_reducible refine (C3.out _).mono ?_; rintro e w' ⟨rfl, rfl⟩) | (go_at_call 54; with_reducible refine (C6.out _).mono ?_; rintro e w6 ⟨rfl, k6, rfl⟩))); (all_goals (go_ret2; rw [HV.out]; exact ⟨by first | rfl | simp, k6, rfl⟩))
  · subst h3
    have HV := Lib.hid hv
    have h4b : (q % 2 == 1) = false := beq_eq_false_iff_ne.2 h4
    clear hv h4
    (go_enter Tryz.func21, Tryz.ntmps21); (go_wp2_with (first | (go_at_call 52; with_reducible refine (C1.out _).mono ?_; rintro e w' ⟨rfl, rfl⟩) | (go_at_call 53; with_reducible refine (C4.out _).mono ?_; rintro e w' ⟨rfl, rfl⟩) | (go_at_call 53; with_reducible refine (C2.out _).mono ?_; rintro e w' ⟨rfl, rfl⟩) | (go_at_call 53; with_reducible refine (C3.out _).mono ?_; rintro e w' ⟨rfl, rfl⟩) | (go_at_call 54; with_reducible refine (C6.out _).mono ?_; rintro e w6 ⟨rfl, k6, rfl⟩))); (all_goals (go_ret2; rw [HV.out]; exact ⟨by first | rfl | simp, k6, rfl⟩))
  · have HV := Lib.hid hv
    have h3b : (r == 1000 - r) = false := beq_eq_false_iff_ne.2 (by omega)
    clear hv h3
    (go_enter Tryz.func21, Tryz.ntmps21); (go_wp2_with (first | (go_at_call 52; with_reducible refine (C1.out _).mono ?_; rintro e w' ⟨rfl, rfl⟩) | (go_at_call 53; with_reducible refine (C4.out _).mono ?_; rintro e w' ⟨rfl, rfl⟩) | (go_at_call 53; with_reducible refine (C2.out _).mono ?_; rintro e w' ⟨rfl, rfl⟩) | (go_at_call 53; with_reducible refine (C3.out _).mono ?_; rintro e w' ⟨rfl, rfl⟩) | (go_at_call 54; with_reducible refine (C6.out _).mono ?_; rintro e w6 ⟨rfl, k6, rfl⟩))); (all_goals (go_ret2; rw [HV.out]; exact ⟨by first | rfl | simp, k6, rfl⟩))
end Go.Proofs.YtcpfiiapfggmpaaGreat
/- The reference's price of a trip by the tariff, walked. -/
set_option linter.unusedSimpArgs false
namespace Go.Proofs.YtcpfiiapfggmpaaGreat
open Go.RowKit Go.Lib

set_option maxRecDepth 100000 in
set_option maxHeartbeats 8000000 in
theorem rbase_any {tA xA : Option Addr} (tc xc : Nat) (o0 o1 o2 o3 o4 o5 o6 o7 o9 o10 o11 o12 o13 o14 o15 o16 o17 o18 o19 o20 o21 o22 o23 o24 : Value) (xi xv xy : ByteArray) (cl : Int) {ts : List Ta} {ss : List Stp} {w : World}
    (h : Rd encTa 4 w w.heap.size tA ts) (hok : ∀ y ∈ ts, TaOk w y ∧ TaSm y) (hl : ts.length ≤ 1000000) (hs : Rd encSp 3 w w.heap.size xA ss) (hsl : ss.length ≤ 9223372036854775807) :
    Calls Tryz.prog 12 #[.agg #[o0, o1, o2, o3, o4, o5, o6, o7, .slice tA ts.length tc, o9, o10, o11, o12, o13, o14, o15, o16, o17, o18, o19, o20, o21, o22, o23, o24], .agg #[.string xi, .string xv, .string xy, .int .i64 cl, .slice xA ss.length xc]] w fun e w' => e = .returned (.tuple #[.int .i64 (baseM ts cl ss).1, .int .i64 (baseM ts cl ss).2]) ∧ Below w.heap.size w w' := by
  obtain ⟨Y1, hY1⟩ : ∃ Y, w.alloc (.cells #[o0, o1, o2, o3, o4, o5, o6, o7, .slice tA ts.length tc, o9, o10, o11, o12, o13, o14, o15, o16, o17, o18, o19, o20, o21, o22, o23, o24] 46) = Y := ⟨_, rfl⟩
  obtain ⟨Y2, hY2⟩ : ∃ Y, Y1.alloc (.cells #[.string xi, .string xv, .string xy, .int .i64 cl, .slice xA ss.length xc] 49) = Y := ⟨_, rfl⟩
  have b1 : Below w.heap.size w Y1 := by rw [← hY1]; exact (Below.refl _ w).al _
  have b2 : Below w.heap.size w Y2 := by rw [← hY2]; exact b1.al _
  have B2 : Blk Y2 Y1.heap.size #[.string xi, .string xv, .string xy, .int .i64 cl, .slice xA ss.length xc] 49 := by rw [← hY2]; exact Blk.new Y1 _ _
  have B1 : Blk Y2 w.heap.size #[o0, o1, o2, o3, o4, o5, o6, o7, .slice tA ts.length tc, o9, o10, o11, o12, o13, o14, o15, o16, o17, o18, o19, o20, o21, o22, o23, o24] 46 := by rw [← hY2, ← hY1]; exact (Blk.new w _ _).alloc _
  have t4 := B2.cell 4 (v := .slice xA ss.length xc) rfl
  have HTR := Lib.hid (fun (y : Ta) (hy : y ∈ ts) => hok y hy)
  by_cases h0 : ss.length = 0
  · have R := Lib.hid (baseM_nil (ts := ts) (cl := cl) h0)
    have h0b : ((ss.length : Int) == 0) = true := by simp [h0]
    clear h0 h hs hok
    go_enter Tryz.func12, Tryz.ntmps12
    go_wp2_with fail
    go_ret2
    rw [R.out]
    exact ⟨rfl, b2⟩
  obtain ⟨b, off, s, rfl, hb, hx, d0, d1, d2⟩ := (hs.st b2).stp (i := 0) (by omega)
  simp only [Nat.zero_mul, Nat.add_zero] at d0 d1 d2
  have h0b : ((ss.length : Int) == 0) = false := by rw [beq_eq_false_iff_ne]; omega
  have hpos : (0 : Int) < (ss.length : Int) := by omega
  obtain ⟨Y3, hY3⟩ : ∃ Y, Y2.alloc (.cells #[.string s.pt, .int .i64 s.t, .string s.pg] 109) = Y := ⟨_, rfl⟩
  have b3 : Below w.heap.size w Y3 := by rw [← hY3]; exact b2.al _
  have B3 : Blk Y3 Y2.heap.size #[.string s.pt, .int .i64 s.t, .string s.pg] 109 := by rw [← hY3]; exact Blk.new Y2 _ _
  have B2 := (show Blk Y3 Y1.heap.size _ _ by rw [← hY3]; exact B2.alloc _)
  have B1 : Blk Y3 w.heap.size #[o0, o1, o2, o3, o4, o5, o6, o7, .slice tA ts.length tc, o9, o10, o11, o12, o13, o14, o15, o16, o17, o18, o19, o20, o21, o22, o23, o24] 46 := by rw [← hY3]; exact B1.alloc _
  have u4 := B2.cell 4 (v := .slice (some ⟨b, off, none⟩) ss.length xc) rfl
  have c8 := B1.cell 8 (v := .slice tA ts.length tc) rfl
  have s1 := B3.cell 1 (v := .int .i64 s.t) rfl
  have CA := Lib.hid (rtat_any tc s.t (h.st b3) hl)
  have HX := Lib.hid hx
  have HB1 := Lib.hid b1
  clear h hok b1 b2 B1 hb
  by_cases h1 : 1 < ss.length
  · obtain ⟨m, hm⟩ : ∃ m, m + 1 = ss.length := ⟨ss.length - 1, by omega⟩
    obtain ⟨b', off', s', hA', hbw, hx', g0w, g1w, g2w⟩ := hs.stp (i := m) (by omega)
    injection hA' with hA'
    injection hA' with q1 q2
    subst q1
    subst q2
    have HTO := Lib.hid (toM_more hm h1 hx')
    have h1z : (1 : Int) < (ss.length : Int) := by omega
    have hwm : IntKind.i64.wrap ((ss.length : Int) - 1) = (m : Int) := by rw [show (ss.length : Int) - 1 = (m : Int) by omega]; exact IntWalk.i64_in _ (by omega)
    have m1 : (0 : Int) ≤ (m : Int) := by omega
    have m2 : (m : Int) < (ss.length : Int) := by omega
    have HG0 := Lib.hid (fun (X : World) (hX : Below w.heap.size w X) => (hX.cell (p := ⟨b, off + m * 3, none⟩) hbw).trans g0w)
    clear hs hx hx' hbw g0w g1w g2w h1 hm h0
    go_enter Tryz.func12, Tryz.ntmps12
    go_wp2_with fail
    refine CA.out.mono ?_
    rintro e W4 ⟨rfl, hbn⟩
    have b4 := b3.st hbn
    have B2 := B2.below hbn B2.lt
    have B3 := B3.below hbn B3.lt
    have e4 := B2.cell 4 (v := .slice (some ⟨b, off, none⟩) ss.length xc) rfl
    clear t4 u4 c8 s1 d0 d1 d2 CA hY1 hY2 hY3
    cases hf : findM s.t ts with
    | none =>
      simp only [AtV]
      have R := Lib.hid (baseM_none (cl := cl) HX.out hf)
      clear hf
      go_wp2_with fail
      go_ret2
      rw [R.out]
      exact ⟨rfl, b4.al _⟩
    | some y =>
      simp only [AtV]
      have R := Lib.hid (baseM_some (cl := cl) HX.out hf)
      have hsm := HTR.out y (findM_mem hf)
      obtain ⟨W5, hW5⟩ : ∃ Y, W4.alloc (.cells #[.int .i64 y.f, .int .i64 y.t, .slice y.bA y.bs.length y.bc, .slice y.rA y.rs.length y.rc] 104) = Y := ⟨_, rfl⟩
      have b45 : Below W4.heap.size W4 W5 := by rw [← hW5]; exact (Below.refl _ _).al _
      have b5 := b4.st b45
      have B2 := B2.below b45 B2.lt
      have B3 := B3.below b45 B3.lt
      have B5 : Blk W5 W4.heap.size #[.int .i64 y.f, .int .i64 y.t, .slice y.bA y.bs.length y.bc, .slice y.rA y.rs.length y.rc] 104 := by rw [← hW5]; exact Blk.new W4 _ _
      have CR := Lib.hid (rrate_any y.f y.t s.t cl s.pt s'.pt y.bc y.rc (hsm.1.st b5).b (hsm.1.st b5).r hsm.2.1 hsm.2.2)
      have v0 := B5.cell 0 (v := .int .i64 y.f) rfl
      have v1 := B5.cell 1 (v := .int .i64 y.t) rfl
      have v2 := B5.cell 2 (v := .slice y.bA y.bs.length y.bc) rfl
      have v3 := B5.cell 3 (v := .slice y.rA y.rs.length y.rc) rfl
      have z0 := B3.cell 0 (v := .string s.pt) rfl
      have z1 := B3.cell 1 (v := .int .i64 s.t) rfl
      have z3 := B2.cell 3 (v := .int .i64 cl) rfl
      have z4 := B2.cell 4 (v := .slice (some ⟨b, off, none⟩) ss.length xc) rfl
      have g0 := HG0.out W5 b5
      rw [HTO.out] at R
      clear hf hsm hbn b45 b4
      go_wp2_with fail
      refine CR.out.mono ?_
      rintro e W6 ⟨rfl, hbn⟩
      have b6 := b5.st hbn
      go_wp2_with fail
      go_ret2
      rw [R.out]
      exact ⟨rfl, b6⟩
  · have HTO := Lib.hid (toM_one h1)
    have h1z : ¬ (1 : Int) < (ss.length : Int) := by omega
    clear hs hx h1 h0
    go_enter Tryz.func12, Tryz.ntmps12
    go_wp2_with fail
    refine CA.out.mono ?_
    rintro e W4 ⟨rfl, hbn⟩
    have b4 := b3.st hbn
    have B2 := B2.below hbn B2.lt
    have B3 := B3.below hbn B3.lt
    have e4 := B2.cell 4 (v := .slice (some ⟨b, off, none⟩) ss.length xc) rfl
    clear t4 u4 c8 s1 d0 d1 d2 CA hY1 hY2 hY3
    cases hf : findM s.t ts with
    | none =>
      simp only [AtV]
      have R := Lib.hid (baseM_none (cl := cl) HX.out hf)
      clear hf
      go_wp2_with fail
      go_ret2
      rw [R.out]
      exact ⟨rfl, b4.al _⟩
    | some y =>
      simp only [AtV]
      have R := Lib.hid (baseM_some (cl := cl) HX.out hf)
      have hsm := HTR.out y (findM_mem hf)
      obtain ⟨W5, hW5⟩ : ∃ Y, W4.alloc (.cells #[.int .i64 y.f, .int .i64 y.t, .slice y.bA y.bs.length y.bc, .slice y.rA y.rs.length y.rc] 104) = Y := ⟨_, rfl⟩
      have b45 : Below W4.heap.size W4 W5 := by rw [← hW5]; exact (Below.refl _ _).al _
      have b5 := b4.st b45
      have B2 := B2.below b45 B2.lt
      have B3 := B3.below b45 B3.lt
      have B5 : Blk W5 W4.heap.size #[.int .i64 y.f, .int .i64 y.t, .slice y.bA y.bs.length y.bc, .slice y.rA y.rs.length y.rc] 104 := by rw [← hW5]; exact Blk.new W4 _ _
      have CR := Lib.hid (rrate_any y.f y.t s.t cl s.pt ⟨#[]⟩ y.bc y.rc (hsm.1.st b5).b (hsm.1.st b5).r hsm.2.1 hsm.2.2)
      have v0 := B5.cell 0 (v := .int .i64 y.f) rfl
      have v1 := B5.cell 1 (v := .int .i64 y.t) rfl
      have v2 := B5.cell 2 (v := .slice y.bA y.bs.length y.bc) rfl
      have v3 := B5.cell 3 (v := .slice y.rA y.rs.length y.rc) rfl
      have z0 := B3.cell 0 (v := .string s.pt) rfl
      have z1 := B3.cell 1 (v := .int .i64 s.t) rfl
      have z3 := B2.cell 3 (v := .int .i64 cl) rfl
      have z4 := B2.cell 4 (v := .slice (some ⟨b, off, none⟩) ss.length xc) rfl
      rw [HTO.out] at R
      clear hf hsm hbn b45 b4
      go_wp2_with fail
      refine CR.out.mono ?_
      rintro e W6 ⟨rfl, hbn⟩
      have b6 := b5.st hbn
      go_wp2_with fail
      go_ret2
      rw [R.out]
      exact ⟨rfl, b6⟩
end Go.Proofs.YtcpfiiapfggmpaaGreat
