/- The reference's Ratio in thousandths, rounded up, walked. -/
import Derived.Test.YtekdppnlgkfcdaaJFirst
import Derived.Test.YtekdppnlgkfcdaaJRelEnc
import Derived.OwnWalk
import Derived.BigQuiet
namespace Go.Proofs.Ytekdppnlgkfcdaa
open Go.RowKit Go.Lib

/-- long division in thousandths: after k of 51 bits -/
def DivS (n m k W q r : Nat) : Prop := k ≤ 51 ∧ W = 1125899906842624 / 2 ^ k ∧ q * 1000 + r = n / 2 ^ (51 - k) * m ∧ r < 1000
theorem pow_next (M k : Nat) : M / 2 ^ k / 2 = M / 2 ^ (k + 1) := by rw [Nat.div_div_eq_div_mul, Nat.pow_succ]
theorem pow_none (M : Nat) : M = M / 2 ^ 0 := by simp
theorem mul_one_more (P m : Nat) : (2 * P + 1) * m = 2 * (P * m) + m := by rw [Nat.add_mul, Nat.one_mul, Nat.mul_assoc]
theorem DivS.start {n : Nat} (m : Nat) (hn : n ≤ 1125899906842624) : DivS n m 0 1125899906842624 0 0 := by
  refine ⟨by omega, pow_none _, ?_, by omega⟩
  have : n / 2 ^ (51 - 0) = 0 := Nat.div_eq_of_lt (by omega)
  rw [this]; simp
theorem DivS.pos {n m k W q r : Nat} (h : DivS n m k W q r) (hk : k < 51) : 0 < W ∧ W ≤ 1125899906842624 := by
  obtain ⟨_, rfl, _, _⟩ := h
  have h2 : 2 ^ k ≤ 1125899906842624 := by
    have : 2 ^ k ≤ 2 ^ 50 := Nat.pow_le_pow_right (by omega) (by omega)
    omega
  exact ⟨Nat.div_pos h2 (Nat.two_pow_pos k), Nat.div_le_self _ _⟩
theorem DivS.fin {n m W q r : Nat} (h : DivS n m 51 W q r) : W = 0 ∧ q = n * m / 1000 ∧ r = n * m % 1000 := by
  obtain ⟨_, hW, h1, h2⟩ := h
  have e : n / 2 ^ (51 - 51) = n := by simp
  rw [e] at h1
  refine ⟨by rw [hW], ?_, ?_⟩ <;> omega
theorem DivS.le {n m k W q r : Nat} (h : DivS n m k W q r) (hm : m ≤ 1000) : q ≤ n := by
  obtain ⟨_, _, h1, _⟩ := h
  have a : n / 2 ^ (51 - k) * m ≤ n * 1000 := Nat.mul_le_mul (Nat.div_le_self _ _) hm
  omega
theorem DivS.half {n k W : Nat} (hk : k < 51) (hW : W = 1125899906842624 / 2 ^ k) : n / 2 ^ (51 - (k + 1)) = 2 * (n / 2 ^ (51 - k)) + n / W % 2 := by
  have e0 : 1125899906842624 / 2 ^ k = 2 ^ (50 - k) := by
    rw [show (1125899906842624 : Nat) = 2 ^ (50 - k) * 2 ^ k by rw [← Nat.pow_add, show 50 - k + k = 50 by omega]]
    exact Nat.mul_div_cancel _ (Nat.two_pow_pos k)
  have e1 : 51 - (k + 1) = 50 - k := by omega
  have e2 : 2 ^ (51 - k) = 2 ^ (50 - k) * 2 := by rw [show 51 - k = (50 - k) + 1 by omega, Nat.pow_succ]
  rw [hW, e0, e1, e2, ← Nat.div_div_eq_div_mul]
  omega
theorem DivS.next0 {n m k W q r : Nat} (h : DivS n m k W q r) (hk : k < 51) (hb : n / W % 2 = 0) : DivS n m (k + 1) (W / 2) (2 * q + r * 2 / 1000) (r * 2 % 1000) := by
  obtain ⟨_, hW, h1, h2⟩ := h
  refine ⟨by omega, (congrArg (· / 2) hW).trans (pow_next _ k), ?_, by omega⟩
  · rw [DivS.half hk hW, hb, Nat.add_zero, Nat.mul_assoc, ← h1]
    clear h1 hW hb hk
    omega
theorem DivS.next1 {n m k W q r : Nat} (h : DivS n m k W q r) (hk : k < 51) (hb : n / W % 2 = 1) : DivS n m (k + 1) (W / 2) (2 * q + r * 2 / 1000 + m / 1000 + (r * 2 % 1000 + m % 1000) / 1000) ((r * 2 % 1000 + m % 1000) % 1000) := by
  obtain ⟨_, hW, h1, h2⟩ := h
  refine ⟨by omega, (congrArg (· / 2) hW).trans (pow_next _ k), ?_, by omega⟩
  · rw [DivS.half hk hW, hb, mul_one_more, ← h1]
    clear h1 hW hb hk
    omega
/-- the same of integers -/
def DivI (n m W Q R : Int) : Prop := ∃ (a b k W' q r : Nat), n = a ∧ m = b ∧ W = W' ∧ Q = q ∧ R = r ∧ a ≤ 1125899906842624 ∧ b ≤ 1000 ∧ DivS a b k W' q r
theorem DivI.start {n m : Int} (h0 : 0 ≤ n) (h1 : n ≤ 1125899906842624) (h2 : 0 ≤ m) (h3 : m ≤ 1000) : DivI n m 1125899906842624 0 0 := by
  obtain ⟨a, rfl⟩ := Int.eq_ofNat_of_zero_le h0
  obtain ⟨b, rfl⟩ := Int.eq_ofNat_of_zero_le h2
  exact ⟨a, b, 0, _, 0, 0, rfl, rfl, rfl, rfl, rfl, by omega, by omega, DivS.start b (by omega)⟩
theorem DivI.bounds {n m W Q R : Int} (h : DivI n m W Q R) : 0 ≤ W ∧ W ≤ 1125899906842624 ∧ 0 ≤ Q ∧ Q ≤ 1125899906842624 ∧ 0 ≤ R ∧ R < 1000 := by
  obtain ⟨a, b, k, W', q, r, rfl, rfl, rfl, rfl, rfl, ha, hb, h⟩ := h
  have h1 := h.le hb
  have h2 := h.2.2.2
  by_cases hk : k < 51
  · have h3 := h.pos hk
    clear h
    omega
  · obtain rfl : k = 51 := by have := h.1; omega
    have h3 := h.fin.1
    clear h
    omega
theorem DivI.lt {a b k W' q r : Nat} (h : DivS a b k W' q r) (hW : 0 < (W' : Int)) : k < 51 := by
  rcases Nat.lt_or_ge k 51 with q1 | q1
  · exact q1
  · obtain rfl : k = 51 := by have := h.1; omega
    have h3 := h.fin.1
    clear h
    omega
theorem DivI.next0 {n m W Q R : Int} (h : DivI n m W Q R) (hW : 0 < W) (hb : n / W % 2 = 0) : DivI n m (W / 2) (2 * Q + R * 2 / 1000) (R * 2 % 1000) := by
  obtain ⟨a, b, k, W', q, r, rfl, rfl, rfl, rfl, rfl, ha, hbb, h⟩ := h
  have hb2 : a / W' % 2 = 0 := by
    have e : ((a / W' % 2 : Nat) : Int) = 0 := by rw [Int.natCast_emod, Int.natCast_ediv]; exact hb
    exact Int.ofNat_eq_zero.1 e
  exact ⟨a, b, k + 1, W' / 2, 2 * q + r * 2 / 1000, r * 2 % 1000, rfl, rfl, by omega, by omega, by omega, ha, hbb, h.next0 (DivI.lt h hW) hb2⟩
theorem DivI.next1 {n m W Q R : Int} (h : DivI n m W Q R) (hW : 0 < W) (hb : n / W % 2 = 1) : DivI n m (W / 2) (2 * Q + R * 2 / 1000 + m / 1000 + (R * 2 % 1000 + m % 1000) / 1000) ((R * 2 % 1000 + m % 1000) % 1000) := by
  obtain ⟨a, b, k, W', q, r, rfl, rfl, rfl, rfl, rfl, ha, hbb, h⟩ := h
  have hb2 : a / W' % 2 = 1 := by
    have e : ((a / W' % 2 : Nat) : Int) = 1 := by rw [Int.natCast_emod, Int.natCast_ediv]; exact hb
    exact Int.ofNat_inj.1 e
  exact ⟨a, b, k + 1, W' / 2, 2 * q + r * 2 / 1000 + b / 1000 + (r * 2 % 1000 + b % 1000) / 1000, (r * 2 % 1000 + b % 1000) % 1000, rfl, rfl, by omega, by omega, by omega, ha, hbb, h.next1 (DivI.lt h hW) hb2⟩
theorem DivI.fin {n m W Q R : Int} (h : DivI n m W Q R) (hW : W ≤ 0) : Q = n * m / 1000 ∧ R = n * m % 1000 := by
  obtain ⟨a, b, k, W', q, r, rfl, rfl, rfl, rfl, rfl, ha, hbb, h⟩ := h
  have hk : k = 51 := by
    rcases Nat.lt_or_ge k 51 with q1 | q1
    · have h3 := h.pos q1
      clear h
      omega
    · have := h.1; omega
  subst hk
  obtain ⟨_, rfl, rfl⟩ := h.fin
  exact ⟨by rw [Int.natCast_ediv, Int.natCast_mul]; rfl, by rw [Int.natCast_emod, Int.natCast_mul]; rfl⟩
theorem bit_of (x : Int) : x % 2 = 0 ∨ x % 2 = 1 := by omega
set_option maxRecDepth 100000 in
set_option maxHeartbeats 4000000 in
theorem rdiv3_any {n m : Int} (hn0 : 0 ≤ n) (hn1 : n ≤ 1125899906842624) (hm0 : 0 ≤ m) (hm1 : m ≤ 1000) (w : World) :
    Calls Try.prog 55 #[.int .u64 n, .int .u64 m, .int .u64 1000] w fun e w' => e = .returned (.tuple #[.int .u64 (n * m / 1000), .int .u64 (n * m % 1000), .bool true]) ∧ ∃ k, w' = w.drewN k := by
  have H0 := Lib.hid (DivI.start hn0 hn1 hm0 hm1)
  have HE := Lib.hid (fun W q r => @DivI.fin n m W q r)
  generalize n * m / 1000 = qq at *
  generalize n * m % 1000 = rr at *
  go_enter Try.func55, Try.ntmps55
  go_wp2
  go_loopw [9, 10, 11] (fun qv rv wv wr => ∃ (W q r : Int) (dn : Nat), qv = .int .u64 q ∧ rv = .int .u64 r ∧ wv = .int .u64 W ∧ Hid (DivI n m W q r) ∧ wr = w.drewN dn) (fun _ _ wv _ => (intOf wv).toNat)
  case atStart => exact ⟨_, 0, 0, 0, rfl, rfl, rfl, H0, rfl⟩
  case round =>
    obtain ⟨W, q, r, dn, rfl, rfl, rfl, HD, rfl⟩ := hrel
    obtain ⟨w0, w1, q0, q1, r0, r1⟩ := HD.out.bounds
    clear H0
    by_cases hlt : 0 < W
    · have hdv : n.tdiv W = n / W := Int.tdiv_eq_ediv_of_nonneg hn0
      have hdb : 0 ≤ n / W := Int.ediv_nonneg hn0 w0
      have hdc : n / W ≤ 1125899906842624 := Int.le_trans (Int.ediv_le_self _ hn0) hn1
      rcases bit_of (n / W) with hb | hb
      · have HD2 := Lib.hid (HD.out.next0 hlt hb)
        clear HD HE
        go_wp2_with fail
        go_roundw
        case rel => exact ⟨_, _, _, dn, by go_num, by go_num, by go_num, HD2, rfl⟩
        case measure => simp [intOf]; omega
      · have HD2 := Lib.hid (HD.out.next1 hlt hb)
        clear HD HE
        go_wp2_with fail
        go_quiet (fail)
        go_wp2
        go_roundw
        case rel => exact ⟨_, _, _, _, by go_num, by go_num, by go_num, HD2, rfl⟩
        case measure => simp [intOf]; omega
    · obtain ⟨e1, e2⟩ := HE.out _ _ _ HD.out (by omega)
      have E1 := Lib.hid e1
      have E2 := Lib.hid e2
      clear HD HE e1 e2
      go_wp2
      go_ret3
      exact ⟨by rw [E1.out, E2.out]; rfl, _, rfl⟩
theorem rfits3_yes {n : Int} (h : -1125899906842624 ≤ n ∧ n ≤ 1125899906842624) (w : World) : Calls Try.prog 53 #[.int .i64 n] w fun e w' => e = .returned (.bool true) ∧ w' = w := by
  obtain ⟨h1, h2⟩ := h
  go_enter Try.func53, Try.ntmps53
  go_wp2
  all_goals (go_ret; exact ⟨rfl, rfl⟩)
theorem rsize3_any {x : Int} (h0 : 0 ≤ x) (h1 : x < 9223372036854775808) (w : World) : Calls Try.prog 54 #[.int .i64 x] w fun e w' => e = .returned (.int .u64 x) ∧ w' = w := by
  go_enter Try.func54, Try.ntmps54
  go_wp2
  all_goals (go_ret; exact ⟨rfl, rfl⟩)
set_option maxRecDepth 100000 in
set_option maxHeartbeats 4000000 in
theorem rup_any {n m : Int} (hn0 : 0 ≤ n) (hn1 : n ≤ 1125899906842624) (hm0 : 0 ≤ m) (hm1 : m ≤ 1000) (w : World) :
    Calls Try.prog 33 #[.int .i64 n, .int .i64 m, .int .i64 1000, .int .i64 2] w fun e w' => e = .returned (.tuple #[.int .i64 (upN n m), .int .i64 0]) ∧ ∃ k, w' = w.drewN k := by
  have C1 := Lib.hid (fun w => rfits3_yes (n := n) (by omega) w)
  have C2 := Lib.hid (fun w => rsize3_any (x := n) hn0 (by omega) w)
  have C3 := Lib.hid (fun w => rsize3_any (x := m) hm0 (by omega) w)
  have C4 := Lib.hid (fun w => rsize3_any (x := 1000) (by omega) (by omega) w)
  have C6 := Lib.hid (fun w => rdiv3_any hn0 hn1 hm0 hm1 w)
  unfold upN
  have hp0 : 0 ≤ n * m := Int.mul_nonneg hn0 hm0
  have hp1 : n * m ≤ 1125899906842624 * 1000 := Int.mul_le_mul hn1 hm1 hm0 (by omega)
  generalize n * m = p at *
  by_cases h : p % 1000 = 0
  · have e3 : (p + 999) / 1000 = p / 1000 := by omega
    rw [h] at C6
    rw [e3]
    have h2 : p / 1000 ≤ 1125899906842624 := by omega
    have h3 : 0 ≤ p / 1000 := by omega
    clear h e3 hp0 hp1
    generalize p / 1000 = q at *
    go_enter Try.func33, Try.ntmps33
    go_wp2_with (first | (go_at_call 53; with_reducible refine (C1.out _).mono ?_; rintro e w' ⟨rfl, rfl⟩) | (go_at_call 54; with_reducible refine (C4.out _).mono ?_; rintro e w' ⟨rfl, rfl⟩) | (go_at_call 54; with_reducible refine (C2.out _).mono ?_; rintro e w' ⟨rfl, rfl⟩) | (go_at_call 54; with_reducible refine (C3.out _).mono ?_; rintro e w' ⟨rfl, rfl⟩) | (go_at_call 55; with_reducible refine (C6.out _).mono ?_; rintro e w6 ⟨rfl, k6, rfl⟩))
    all_goals (go_ret2; exact ⟨rfl, k6, rfl⟩)
  · have e3 : (p + 999) / 1000 = p / 1000 + 1 := by omega
    rw [e3]
    have h2 : p / 1000 + 1 ≤ 1125899906842624 := by omega
    have h3 : 0 ≤ p / 1000 := by omega
    have h4 : 0 < p % 1000 := by omega
    clear h e3 hp0 hp1
    generalize p / 1000 = q at *
    generalize p % 1000 = r at *
    go_enter Try.func33, Try.ntmps33
    go_wp2_with (first | (go_at_call 53; with_reducible refine (C1.out _).mono ?_; rintro e w' ⟨rfl, rfl⟩) | (go_at_call 54; with_reducible refine (C4.out _).mono ?_; rintro e w' ⟨rfl, rfl⟩) | (go_at_call 54; with_reducible refine (C2.out _).mono ?_; rintro e w' ⟨rfl, rfl⟩) | (go_at_call 54; with_reducible refine (C3.out _).mono ?_; rintro e w' ⟨rfl, rfl⟩) | (go_at_call 55; with_reducible refine (C6.out _).mono ?_; rintro e w6 ⟨rfl, k6, rfl⟩))
    all_goals (go_ret2; exact ⟨rfl, k6, rfl⟩)
end Go.Proofs.Ytekdppnlgkfcdaa
