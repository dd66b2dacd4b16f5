/- Joined texts: RelUp, RelRUp, TrpRatio. -/
import Derived.Test.YtelchfijalkibaaGreatDoorJRelMath
import Derived.Test.YtelchfijalkibaaGreatDoorJFirst
import Derived.OwnWalk
import Derived.BigQuiet
/- money.Ratio in thousandths, rounded up, walked. -/
namespace Go.Proofs.YtelchfijalkibaaGreatDoor
open Go.RowKit Go.Lib

theorem div0k_any {n : Nat} (h : n < 18446744073709551616) (w : World) : Calls Tryz.prog 54 #[.int .u64 0, .int .u64 n, .int .u64 1000] w fun e w' => e = .returned (.tuple #[.int .u64 ((n / 1000 : Nat) : Int), .int .u64 ((n % 1000 : Nat) : Int)]) ∧ ∃ k, w' = w.drewN k := by
  have h0 : (0 : Int) ≤ (n : Int) := by omega
  have h1 : (n : Int) < 18446744073709551616 := by omega
  go_enter Tryz.func54, Tryz.ntmps54
  go_wp2_with fail
  go_quiet (fail)
  go_wp2
  go_ret2
  exact ⟨by simp, _, rfl⟩
end Go.Proofs.YtelchfijalkibaaGreatDoor
/- The reference's Ratio in thousandths, rounded up, walked. -/
namespace Go.Proofs.YtelchfijalkibaaGreatDoor
open Go.RowKit Go.Lib

/-- long division in thousandths: after k of 51 bits -/
def DivS (n m k W q r : Nat) : Prop := k ≤ 51 ∧ W = 1125899906842624 / 2 ^ k ∧ q * 1000 + r = n / 2 ^ (51 - k) * m ∧ r < 1000
theorem pow_next (M k : Nat) : M / 2 ^ k / 2 = M / 2 ^ (k + 1) := by rw [Nat.div_div_eq_div_mul, Nat.pow_succ]
theorem pow_none (M : Nat) : M = M / 2 ^ 0 := by simp
theorem mul_one_more (P m : Nat) : (2 * P + 1) * m = 2 * (P * m) + m := by rw [Nat.add_mul, Nat.one_mul, Nat.mul_assoc]
theorem DivS.start {n : Nat} (m : Nat) (hn : n ≤ 1125899906842624) : DivS n m 0 1125899906842624 0 0 := by
  refine ⟨by omega, pow_none _, ?_, by omega⟩
  have : n / 2 ^ (51 - 0) = 0 := Nat.div_eq_of_lt (by omega)
  rw [this]; simp
theorem DivS.pos {n m k W q r : Nat} (h : DivS n m k W q r) (hk : k < 51) : 0 < W ∧ W ≤ 1125899906842624 := by
  obtain ⟨_, rfl, _, _⟩ := h
  have h2 : 2 ^ k ≤ 1125899906842624 := by
    have : 2 ^ k ≤ 2 ^ 50 := Nat.pow_le_pow_right (by omega) (by omega)
    omega
  exact ⟨Nat.div_pos h2 (Nat.two_pow_pos k), Nat.div_le_self _ _⟩
theorem DivS.fin {n m W q r : Nat} (h : DivS n m 51 W q r) : W = 0 ∧ q = n * m / 1000 ∧ r = n * m % 1000 := by
  obtain ⟨_, hW, h1, h2⟩ := h
  have e : n / 2 ^ (51 - 51) = n := by simp
  rw [e] at h1
  refine ⟨by rw [hW], ?_, ?_⟩ <;> omega
theorem DivS.le {n m k W q r : Nat} (h : DivS n m k W q r) (hm : m ≤ 1000) : q ≤ n := by
  obtain ⟨_, _, h1, _⟩ := h
  have a : n / 2 ^ (51 - k) * m ≤ n * 1000 := Nat.mul_le_mul (Nat.div_le_self _ _) hm
  omega
theorem DivS.half {n k W : Nat} (hk : k < 51) (hW : W = 1125899906842624 / 2 ^ k) : n / 2 ^ (51 - (k + 1)) = 2 * (n / 2 ^ (51 - k)) + n / W % 2 := by
  have e0 : 1125899906842624 / 2 ^ k = 2 ^ (50 - k) := by
    rw [show (1125899906842624 : Nat) = 2 ^ (50 - k) * 2 ^ k by rw [← Nat.pow_add, show 50 - k + k = 50 by omega]]
    exact Nat.mul_div_cancel _ (Nat.two_pow_pos k)
  have e1 : 51 - (k + 1) = 50 - k := by omega
  have e2 : 2 ^ (51 - k) = 2 ^ (50 - k) * 2 := by rw [show 51 - k = (50 - k) + 1 by omega, Nat.pow_succ]
  rw [hW, e0, e1, e2, ← Nat.div_div_eq_div_mul]
  omega
theorem DivS.next0 {n m k W q r : Nat} (h : DivS n m k W q r) (hk : k < 51) (hb : n / W % 2 = 0) : DivS n m (k + 1) (W / 2) (2 * q + r * 2 / 1000) (r * 2 % 1000) := by
  obtain ⟨_, hW, h1, h2⟩ := h
  refine ⟨by omega, (congrArg (· / 2) hW).trans (pow_next _ k), ?_, by omega⟩
  · rw [DivS.half hk hW, hb, Nat.add_zero, Nat.mul_assoc, ← h1]
    clear h1 hW hb hk
    omega
theorem DivS.next1 {n m k W q r : Nat} (h : DivS n m k W q r) (hk : k < 51) (hb : n / W % 2 = 1) : DivS n m (k + 1) (W / 2) (2 * q + r * 2 / 1000 + m / 1000 + (r * 2 % 1000 + m % 1000) / 1000) ((r * 2 % 1000 + m % 1000) % 1000) := by
  obtain ⟨_, hW, h1, h2⟩ := h
  refine ⟨by omega, (congrArg (· / 2) hW).trans (pow_next _ k), ?_, by omega⟩
  · rw [DivS.half hk hW, hb, mul_one_more, ← h1]
    clear h1 hW hb hk
    omega
/-- the same of integers -/
def DivI (n m W Q R : Int) : Prop := ∃ (a b k W' q r : Nat), n = a ∧ m = b ∧ W = W' ∧ Q = q ∧ R = r ∧ a ≤ 1125899906842624 ∧ b ≤ 1000 ∧ DivS a b k W' q r
theorem DivI.start {n m : Int} (h0 : 0 ≤ n) (h1 : n ≤ 1125899906842624) (h2 : 0 ≤ m) (h3 : m ≤ 1000) : DivI n m 1125899906842624 0 0 := by
  obtain ⟨a, rfl⟩ := Int.eq_ofNat_of_zero_le h0
  obtain ⟨b, rfl⟩ := Int.eq_ofNat_of_zero_le h2
  exact ⟨a, b, 0, _, 0, 0, rfl, rfl, rfl, rfl, rfl, by omega, by omega, DivS.start b (by omega)⟩
theorem DivI.bounds {n m W Q R : Int} (h : DivI n m W Q R) : 0 ≤ W ∧ W ≤ 1125899906842624 ∧ 0 ≤ Q ∧ Q ≤ 1125899906842624 ∧ 0 ≤ R ∧ R < 1000 := by
  obtain ⟨a, b, k, W', q, r, rfl, rfl, rfl, rfl, rfl, ha, hb, h⟩ := h
  have h1 := h.le hb
  have h2 := h.2.2.2
  by_cases hk : k < 51
  · have h3 := h.pos hk
    clear h
    omega
  · obtain rfl : k = 51 := by have := h.1; omega
    have h3 := h.fin.1
    clear h
    omega
theorem DivI.lt {a b k W' q r : Nat} (h : DivS a b k W' q r) (hW : 0 < (W' : Int)) : k < 51 := by
  rcases Nat.lt_or_ge k 51 with q1 | q1
  · exact q1
  · obtain rfl : k = 51 := by have := h.1; omega
    have h3 := h.fin.1
    clear h
    omega
theorem DivI.next0 {n m W Q R : Int} (h : DivI n m W Q R) (hW : 0 < W) (hb : n / W % 2 = 0) : DivI n m (W / 2) (2 * Q + R * 2 / 1000) (R * 2 % 1000) := by
  obtain ⟨a, b, k, W', q, r, rfl, rfl, rfl, rfl, rfl, ha, hbb, h⟩ := h
  have hb2 : a / W' % 2 = 0 := by
    have e : ((a / W' % 2 : Nat) : Int) = 0 := by rw [Int.natCast_emod, Int.natCast_ediv]; exact hb
    exact Int.ofNat_eq_zero.1 e
  exact ⟨a, b, k + 1, W' / 2, 2 * q + r * 2 / 1000, r * 2 % 1000, rfl, rfl, by omega, by omega, by omega, ha, hbb, h.next0 (DivI.lt h hW) hb2⟩
theorem DivI.next1 {n m W Q R : Int} (h : DivI n m W Q R) (hW : 0 < W) (hb : n / W % 2 = 1) : DivI n m (W / 2) (2 * Q + R * 2 / 1000 + m / 1000 + (R * 2 % 1000 + m % 1000) / 1000) ((R * 2 % 1000 + m % 1000) % 1000) := by
  obtain ⟨a, b, k, W', q, r, rfl, rfl, rfl, rfl, rfl, ha, hbb, h⟩ := h
  have hb2 : a / W' % 2 = 1 := by
    have e : ((a / W' % 2 : Nat) : Int) = 1 := by rw [Int.natCast_emod, Int.natCast_ediv]; exact hb
    exact Int.ofNat_inj.1 e
  exact ⟨a, b, k + 1, W' / 2, 2 * q + r * 2 / 1000 + b / 1000 + (r * 2 % 1000 + b % 1000) / 1000, (r * 2 % 1000 + b % 1000) % 1000, rfl, rfl, by omega, by omega, by omega, ha, hbb, h.next1 (DivI.lt h hW) hb2⟩
theorem DivI.fin {n m W Q R : Int} (h : DivI n m W Q R) (hW : W ≤ 0) : Q = n * m / 1000 ∧ R = n * m % 1000 := by
  obtain ⟨a, b, k, W', q, r, rfl, rfl, rfl, rfl, rfl, ha, hbb, h⟩ := h
  have hk : k = 51 := by
    rcases Nat.lt_or_ge k 51 with q1 | q1
    · have h3 := h.pos q1
      clear h
      omega
    · have := h.1; omega
  subst hk
  obtain ⟨_, rfl, rfl⟩ := h.fin
  exact ⟨by rw [Int.natCast_ediv, Int.natCast_mul]; rfl, by rw [Int.natCast_emod, Int.natCast_mul]; rfl⟩
end Go.Proofs.YtelchfijalkibaaGreatDoor
/- Ratio in thousandths, to the nearest: money's and the reference's, walked. -/
namespace Go.Proofs.YtelchfijalkibaaGreatDoor
open Go.RowKit Go.Lib

/-- a quotient and what is left of a thousand, to the nearest (a half to the even one) -/
def nearQ (q r : Int) : Int := if 1000 - r < r ∨ (r = 1000 - r ∧ q % 2 = 1) then q + 1 else q
def nearV (q r : Int) : Int × Int := if 1125899906842624 < nearQ q r then (0, 13) else (nearQ q r, 0)
def nearP (n m : Int) : Int × Int := nearV (n * m / 1000) (n * m % 1000)
theorem nearV_up {q r : Int} (h : 1000 - r < r ∨ (r = 1000 - r ∧ q % 2 = 1)) : nearV q r = if 1125899906842624 < q + 1 then (0, 13) else (q + 1, 0) := by unfold nearV nearQ; rw [if_pos h]
theorem nearV_dn {q r : Int} (h : ¬ (1000 - r < r ∨ (r = 1000 - r ∧ q % 2 = 1))) : nearV q r = if 1125899906842624 < q then (0, 13) else (q, 0) := by unfold nearV nearQ; rw [if_neg h]
theorem nearV_big {q r : Int} (h : 1125899906842624 < q) : nearV q r = (0, 13) := by
  by_cases c : 1000 - r < r ∨ (r = 1000 - r ∧ q % 2 = 1)
  · rw [nearV_up c, if_pos (by omega)]
  · rw [nearV_dn c, if_pos h]

theorem nearV_cases {q r : Int} (h : ¬ 1125899906842624 < q) :
    (1000 - r < r ∧ 1125899906842624 < q + 1 ∧ nearV q r = (0, 13)) ∨ (1000 - r < r ∧ ¬ 1125899906842624 < q + 1 ∧ nearV q r = (q + 1, 0)) ∨
    (r = 500 ∧ q % 2 = 1 ∧ 1125899906842624 < q + 1 ∧ nearV q r = (0, 13)) ∨ (r = 500 ∧ q % 2 = 1 ∧ ¬ 1125899906842624 < q + 1 ∧ nearV q r = (q + 1, 0)) ∨
    (r = 500 ∧ ¬ q % 2 = 1 ∧ nearV q r = (q, 0)) ∨ (¬ r = 500 ∧ ¬ 1000 - r < r ∧ nearV q r = (q, 0)) := by
  by_cases h1 : 1000 - r < r
  · rw [nearV_up (.inl h1)]
    by_cases h2 : 1125899906842624 < q + 1
    · rw [if_pos h2]; exact .inl ⟨h1, h2, rfl⟩
    · rw [if_neg h2]; exact .inr (.inl ⟨h1, h2, rfl⟩)
  · by_cases h3 : r = 500
    · by_cases h4 : q % 2 = 1
      · rw [nearV_up (.inr ⟨by omega, h4⟩)]
        by_cases h2 : 1125899906842624 < q + 1
        · rw [if_pos h2]; exact .inr (.inr (.inl ⟨h3, h4, h2, rfl⟩))
        · rw [if_neg h2]; exact .inr (.inr (.inr (.inl ⟨h3, h4, h2, rfl⟩)))
      · rw [nearV_dn (by omega), if_neg h]; exact .inr (.inr (.inr (.inr (.inl ⟨h3, h4, rfl⟩))))
    · rw [nearV_dn (by omega), if_neg h]; exact .inr (.inr (.inr (.inr (.inr ⟨h3, h1, rfl⟩))))

set_option maxRecDepth 100000 in
set_option maxHeartbeats 8000000 in
theorem ratio3n_any {n m : Nat} (hn : n ≤ 1125899906842624) (hm0 : m ≤ 10000) (w : World) :
    Calls Tryz.prog 23 #[.int .i64 n, .int .i64 m, .int .i64 1000, .int .i64 3] w fun e w' =>
      e = .returned (.tuple #[.int .i64 (nearP n m).1, .int .i64 (nearP n m).2]) ∧ ∃ k, w' = w.drewN k := by
  have hn0 : (0 : Int) ≤ (n : Int) := by omega
  have hmz : (0 : Int) ≤ (m : Int) := by omega
  have C1 := Lib.hid (fun w => fits_yes (n := (n : Int)) (by omega) w)
  have C2 := Lib.hid (fun w => size_any (n := n) (by omega) w)
  have C3 := Lib.hid (fun w => size_any (n := m) (by omega) w)
  have C4 : Hid (∀ w, Calls Tryz.prog 52 #[.int .i64 1000] w fun e w' => e = .returned (.int .u64 1000) ∧ w' = w) := Lib.hid (fun w => size_any (n := 1000) (by omega) w)
  have C5 := Lib.hid (fun w => mul_any (n := n) (m := m) (by omega) (by omega) w)
  have hp : n * m ≤ 1125899906842624 * 10000 := Nat.mul_le_mul hn hm0
  have hP : nearP (n : Int) (m : Int) = nearV (((n * m / 1000 : Nat) : Int)) (((n * m % 1000 : Nat) : Int)) := by
    unfold nearP
    rw [← Int.natCast_mul]
    congr 1
  rw [hP]
  clear hP
  generalize n * m = p at *
  have e1 : p / 18446744073709551616 = 0 := by omega
  have e2 : p % 18446744073709551616 = p := by omega
  rw [e1, e2] at C5
  have C6 := Lib.hid (fun w => div0k_any (n := p) (by omega) w)
  obtain ⟨q, hq⟩ : ∃ q : Int, ((p / 1000 : Nat) : Int) = q := ⟨_, rfl⟩
  obtain ⟨r, hr⟩ : ∃ r : Int, ((p % 1000 : Nat) : Int) = r := ⟨_, rfl⟩
  have hq0 : 0 ≤ q := by omega
  have hqm : q ≤ 11258999068426240 := by omega
  have hr0 : 0 ≤ r := by omega
  have hr1 : r < 1000 := by omega
  rw [hq, hr] at C6 ⊢
  clear e1 e2 hp hq hr
  by_cases hbig : 1125899906842624 < q
  · have HV := Lib.hid (nearV_big (r := r) hbig)
    (go_enter Tryz.func23, Tryz.ntmps23); (go_wp2_with (first | (go_at_call 51; with_reducible refine (C1.out _).mono ?_; rintro e w' ⟨rfl, rfl⟩) | (go_at_call 52; with_reducible refine (C4.out _).mono ?_; rintro e w' ⟨rfl, rfl⟩) | (go_at_call 52; with_reducible refine (C2.out _).mono ?_; rintro e w' ⟨rfl, rfl⟩) | (go_at_call 52; with_reducible refine (C3.out _).mono ?_; rintro e w' ⟨rfl, rfl⟩) | (go_at_call 53; with_reducible refine (C5.out _).mono ?_; rintro e w' ⟨rfl, rfl⟩) | (go_at_call 54; with_reducible refine (C6.out _).mono ?_; rintro e w6 ⟨rfl, k6, rfl⟩))); (all_goals (go_ret2; rw [HV.out]; exact ⟨by first | rfl | simp, k6, rfl⟩))
  have hm : q.tmod 2 = q % 2 := Int.tmod_eq_emod_of_nonneg hq0
  rcases nearV_cases (r := r) hbig with ⟨h1, h2, hv⟩ | ⟨h1, h2, hv⟩ | ⟨h3, h4, h2, hv⟩ | ⟨h3, h4, h2, hv⟩ | ⟨h3, h4, hv⟩ | ⟨h3, h1, hv⟩
  · have HV := Lib.hid hv
    clear hv
    (go_enter Tryz.func23, Tryz.ntmps23); (go_wp2_with (first | (go_at_call 51; with_reducible refine (C1.out _).mono ?_; rintro e w' ⟨rfl, rfl⟩) | (go_at_call 52; with_reducible refine (C4.out _).mono ?_; rintro e w' ⟨rfl, rfl⟩) | (go_at_call 52; with_reducible refine (C2.out _).mono ?_; rintro e w' ⟨rfl, rfl⟩) | (go_at_call 52; with_reducible refine (C3.out _).mono ?_; rintro e w' ⟨rfl, rfl⟩) | (go_at_call 53; with_reducible refine (C5.out _).mono ?_; rintro e w' ⟨rfl, rfl⟩) | (go_at_call 54; with_reducible refine (C6.out _).mono ?_; rintro e w6 ⟨rfl, k6, rfl⟩))); (all_goals (go_ret2; rw [HV.out]; exact ⟨by first | rfl | simp, k6, rfl⟩))
  · have HV := Lib.hid hv
    clear hv
    (go_enter Tryz.func23, Tryz.ntmps23); (go_wp2_with (first | (go_at_call 51; with_reducible refine (C1.out _).mono ?_; rintro e w' ⟨rfl, rfl⟩) | (go_at_call 52; with_reducible refine (C4.out _).mono ?_; rintro e w' ⟨rfl, rfl⟩) | (go_at_call 52; with_reducible refine (C2.out _).mono ?_; rintro e w' ⟨rfl, rfl⟩) | (go_at_call 52; with_reducible refine (C3.out _).mono ?_; rintro e w' ⟨rfl, rfl⟩) | (go_at_call 53; with_reducible refine (C5.out _).mono ?_; rintro e w' ⟨rfl, rfl⟩) | (go_at_call 54; with_reducible refine (C6.out _).mono ?_; rintro e w6 ⟨rfl, k6, rfl⟩))); (all_goals (go_ret2; rw [HV.out]; exact ⟨by first | rfl | simp, k6, rfl⟩))
  · subst h3
    have HV := Lib.hid hv
    have h4b : (q % 2 == 1) = true := beq_iff_eq.2 h4
    clear hv h4
    (go_enter Tryz.func23, Tryz.ntmps23); (go_wp2_with (first | (go_at_call 51; with_reducible refine (C1.out _).mono ?_; rintro e w' ⟨rfl, rfl⟩) | (go_at_call 52; with_reducible refine (C4.out _).mono ?_; rintro e w' ⟨rfl, rfl⟩) | (go_at_call 52; with_reducible refine (C2.out _).mono ?_; rintro e w' ⟨rfl, rfl⟩) | (go_at_call 52; with_reducible refine (C3.out _).mono ?_; rintro e w' ⟨rfl, rfl⟩) | (go_at_call 53; with_reducible refine (C5.out _).mono ?_; rintro e w' ⟨rfl, rfl⟩) | (go_at_call 54; with_reducible refine (C6.out _).mono ?_; rintro e w6 ⟨rfl, k6, rfl⟩))); (all_goals (go_ret2; rw [HV.out]; exact ⟨by first | rfl | simp, k6, rfl⟩))
  · subst h3
    have HV := Lib.hid hv
    have h4b : (q % 2 == 1) = true := beq_iff_eq.2 h4
    clear hv h4
    (go_enter Tryz.func23, Tryz.ntmps23); (go_wp2_with (first | (go_at_call 51; with_reducible refine (C1.out _).mono ?_; rintro e w' ⟨rfl, rfl⟩) | (go_at_call 52; with_reducible refine (C4.out _).mono ?_; rintro e w' ⟨rfl, rfl⟩) | (go_at_call 52; with_reducible refine (C2.out _).mono ?_; rintro e w' ⟨rfl, rfl⟩) | (go_at_call 52; with_reducible refine (C3.out _).mono ?_; rintro e w' ⟨rfl, rfl⟩) | (go_at_call 53; with_reducible refine (C5.out _).mono ?_; rintro e w' ⟨rfl, rfl⟩) | (go_at_call 54; with_reducible refine (C6.out _).mono ?_; rintro e w6 ⟨rfl, k6, rfl⟩))); (all_goals (go_ret2; rw [HV.out]; exact ⟨by first | rfl | simp, k6, rfl⟩))
  · subst h3
    have HV := Lib.hid hv
    have h4b : (q % 2 == 1) = false := beq_eq_false_iff_ne.2 h4
    clear hv h4
    (go_enter Tryz.func23, Tryz.ntmps23); (go_wp2_with (first | (go_at_call 51; with_reducible refine (C1.out _).mono ?_; rintro e w' ⟨rfl, rfl⟩) | (go_at_call 52; with_reducible refine (C4.out _).mono ?_; rintro e w' ⟨rfl, rfl⟩) | (go_at_call 52; with_reducible refine (C2.out _).mono ?_; rintro e w' ⟨rfl, rfl⟩) | (go_at_call 52; with_reducible refine (C3.out _).mono ?_; rintro e w' ⟨rfl, rfl⟩) | (go_at_call 53; with_reducible refine (C5.out _).mono ?_; rintro e w' ⟨rfl, rfl⟩) | (go_at_call 54; with_reducible refine (C6.out _).mono ?_; rintro e w6 ⟨rfl, k6, rfl⟩))); (all_goals (go_ret2; rw [HV.out]; exact ⟨by first | rfl | simp, k6, rfl⟩))
  · have HV := Lib.hid hv
    have h3b : (r == 1000 - r) = false := beq_eq_false_iff_ne.2 (by omega)
    clear hv h3
    (go_enter Tryz.func23, Tryz.ntmps23); (go_wp2_with (first | (go_at_call 51; with_reducible refine (C1.out _).mono ?_; rintro e w' ⟨rfl, rfl⟩) | (go_at_call 52; with_reducible refine (C4.out _).mono ?_; rintro e w' ⟨rfl, rfl⟩) | (go_at_call 52; with_reducible refine (C2.out _).mono ?_; rintro e w' ⟨rfl, rfl⟩) | (go_at_call 52; with_reducible refine (C3.out _).mono ?_; rintro e w' ⟨rfl, rfl⟩) | (go_at_call 53; with_reducible refine (C5.out _).mono ?_; rintro e w' ⟨rfl, rfl⟩) | (go_at_call 54; with_reducible refine (C6.out _).mono ?_; rintro e w6 ⟨rfl, k6, rfl⟩))); (all_goals (go_ret2; rw [HV.out]; exact ⟨by first | rfl | simp, k6, rfl⟩))
theorem qnear_any {n m : Int} (h0 : 0 ≤ n) (h1 : n ≤ 1125899906842624) (h2 : 0 ≤ m) (h3 : m ≤ 10000) (w : World) :
    Calls Tryz.prog 23 #[.int .i64 n, .int .i64 m, .int .i64 1000, .int .i64 3] w fun e w' => e = .returned (.tuple #[.int .i64 (nearP n m).1, .int .i64 (nearP n m).2]) ∧ ∃ k, w' = w.drewN k := by
  obtain ⟨a, rfl⟩ := Int.eq_ofNat_of_zero_le h0
  obtain ⟨b, rfl⟩ := Int.eq_ofNat_of_zero_le h2
  exact ratio3n_any (n := a) (m := b) (by omega) (by omega) w
end Go.Proofs.YtelchfijalkibaaGreatDoor
