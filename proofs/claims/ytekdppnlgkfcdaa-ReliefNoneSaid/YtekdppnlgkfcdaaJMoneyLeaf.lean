/- Joined texts: MoneyLeaf, RelUp, RelClone. -/
import Derived.Test.YtekdppnlgkfcdaaJFirst
import Derived.Test.YtekdppnlgkfcdaaShelf
import Derived.Test.YtekdppnlgkfcdaaJRelEnc
import Derived.Shelf.SlicesE.Clone
import Derived.Deep.RegionWith
import Derived.Deep.RegionHeld3
/- money: Fits, size, and bits.Mul64, walked. -/
namespace Go.Proofs.Ytekdppnlgkfcdaa
open Go.RowKit Go.Lib

def fitsB (n : Int) : Bool := decide (-1125899906842624 ≤ n ∧ n ≤ 1125899906842624)
theorem fits_any (n : Int) (w : World) : Calls Try.prog 49 #[.int .i64 n] w fun e w' => e = .returned (.bool (fitsB n)) ∧ w' = w := by
  unfold fitsB
  go_enter Try.func49, Try.ntmps49
  go_wp2
  all_goals (go_ret; exact ⟨ret_bool (by rw [Bool.eq_iff_iff]; simp; omega), rfl⟩)
theorem fits_yes {n : Int} (h : -1125899906842624 ≤ n ∧ n ≤ 1125899906842624) (w : World) : Calls Try.prog 49 #[.int .i64 n] w fun e w' => e = .returned (.bool true) ∧ w' = w := by
  have := fits_any n w
  rwa [show fitsB n = true by simp [fitsB, h]] at this
theorem fits_no {n : Int} (h : ¬ (-1125899906842624 ≤ n ∧ n ≤ 1125899906842624)) (w : World) : Calls Try.prog 49 #[.int .i64 n] w fun e w' => e = .returned (.bool false) ∧ w' = w := by
  have := fits_any n w
  rwa [show fitsB n = false by unfold fitsB; rw [decide_eq_false_iff_not]; exact h] at this
theorem size_int {x : Int} (h0 : 0 ≤ x) (h1 : x < 9223372036854775808) (w : World) : Calls Try.prog 50 #[.int .i64 x] w fun e w' => e = .returned (.int .u64 x) ∧ w' = w := by
  go_enter Try.func50, Try.ntmps50
  go_wp2
  all_goals (go_ret; exact ⟨rfl, rfl⟩)
theorem size_any {n : Nat} (h : n < 9223372036854775808) (w : World) : Calls Try.prog 50 #[.int .i64 n] w fun e w' => e = .returned (.int .u64 n) ∧ w' = w := size_int (x := (n : Int)) (by omega) (by omega) w
theorem mul_any {n m : Nat} (hn : n < 18446744073709551616) (hm : m < 18446744073709551616) (w : World) :
    Calls Try.prog 51 #[.int .u64 n, .int .u64 m] w fun e w' => e = .returned (.tuple #[.int .u64 ((n * m / 18446744073709551616 : Nat) : Int), .int .u64 ((n * m % 18446744073709551616 : Nat) : Int)]) ∧ w' = w :=
  Any.bits_Mul64 Try.lay_mul64_f51 n m hn hm w
end Go.Proofs.Ytekdppnlgkfcdaa
/- money.Ratio in thousandths, rounded up, walked. -/
namespace Go.Proofs.Ytekdppnlgkfcdaa
open Go.RowKit Go.Lib

theorem div0k_any {n : Nat} (h : n < 18446744073709551616) (w : World) : Calls Try.prog 52 #[.int .u64 0, .int .u64 n, .int .u64 1000] w fun e w' => e = .returned (.tuple #[.int .u64 ((n / 1000 : Nat) : Int), .int .u64 ((n % 1000 : Nat) : Int)]) ∧ ∃ k, w' = w.drewN k := by
  have h0 : (0 : Int) ≤ (n : Int) := by omega
  have h1 : (n : Int) < 18446744073709551616 := by omega
  go_enter Try.func52, Try.ntmps52
  go_wp2_with fail
  go_quiet (fail)
  go_wp2
  go_ret2
  exact ⟨by simp, _, rfl⟩
/-- n times m thousandths, rounded up -/
theorem ratio2_any {n m : Nat} (hn : n ≤ 1125899906842624) (hm : m ≤ 1000) (w : World) :
    Calls Try.prog 31 #[.int .i64 n, .int .i64 m, .int .i64 1000, .int .i64 2] w fun e w' =>
      e = .returned (.tuple #[.int .i64 (((n * m + 999) / 1000 : Nat) : Int), .int .i64 0]) ∧ ∃ k, w' = w.drewN k := by
  have hn0 : (0 : Int) ≤ (n : Int) := by omega
  have hm0 : (0 : Int) ≤ (m : Int) := by omega
  have C1 := Lib.hid (fun w => fits_yes (n := (n : Int)) (by omega) w)
  have C2 := Lib.hid (fun w => size_any (n := n) (by omega) w)
  have C3 := Lib.hid (fun w => size_any (n := m) (by omega) w)
  have C4 : Hid (∀ w, Calls Try.prog 50 #[.int .i64 1000] w fun e w' => e = .returned (.int .u64 1000) ∧ w' = w) := Lib.hid (fun w => size_any (n := 1000) (by omega) w)
  have C5 := Lib.hid (fun w => mul_any (n := n) (m := m) (by omega) (by omega) w)
  have hp : n * m ≤ 1125899906842624 * 1000 := Nat.mul_le_mul hn hm
  generalize n * m = p at *
  have e1 : p / 18446744073709551616 = 0 := by omega
  have e2 : p % 18446744073709551616 = p := by omega
  rw [e1, e2] at C5
  have C6 := Lib.hid (fun w => div0k_any (n := p) (by omega) w)
  clear e1 e2
  by_cases h : p % 1000 = 0
  · have e3 : (p + 999) / 1000 = p / 1000 := by omega
    rw [h] at C6
    rw [e3]
    have h2 : ((p / 1000 : Nat) : Int) ≤ 1125899906842624 := by omega
    have h3 : (0 : Int) ≤ ((p / 1000 : Nat) : Int) := by omega
    clear h e3 hp
    generalize p / 1000 = q at *
    go_enter Try.func31, Try.ntmps31
    go_wp2_with (first | (go_at_call 49; with_reducible refine (C1.out _).mono ?_; rintro e w' ⟨rfl, rfl⟩) | (go_at_call 50; with_reducible refine (C4.out _).mono ?_; rintro e w' ⟨rfl, rfl⟩) | (go_at_call 50; with_reducible refine (C2.out _).mono ?_; rintro e w' ⟨rfl, rfl⟩) | (go_at_call 50; with_reducible refine (C3.out _).mono ?_; rintro e w' ⟨rfl, rfl⟩) | (go_at_call 51; with_reducible refine (C5.out _).mono ?_; rintro e w' ⟨rfl, rfl⟩) | (go_at_call 52; with_reducible refine (C6.out _).mono ?_; rintro e w6 ⟨rfl, k6, rfl⟩))
    all_goals (go_ret2; exact ⟨rfl, k6, rfl⟩)
  · obtain ⟨q, hq, hq2⟩ : ∃ q : Int, ((p / 1000 : Nat) : Int) = q ∧ (((p + 999) / 1000 : Nat) : Int) = q + 1 := ⟨_, rfl, by omega⟩
    obtain ⟨r, hr⟩ : ∃ r : Int, ((p % 1000 : Nat) : Int) = r := ⟨_, rfl⟩
    have h2 : q + 1 ≤ 1125899906842624 := by omega
    have h3 : 0 ≤ q := by omega
    have h4 : 0 < r := by omega
    rw [hq2]
    rw [hq, hr] at C6
    clear h hp hq hq2 hr
    go_enter Try.func31, Try.ntmps31
    go_wp2_with (first | (go_at_call 49; with_reducible refine (C1.out _).mono ?_; rintro e w' ⟨rfl, rfl⟩) | (go_at_call 50; with_reducible refine (C4.out _).mono ?_; rintro e w' ⟨rfl, rfl⟩) | (go_at_call 50; with_reducible refine (C2.out _).mono ?_; rintro e w' ⟨rfl, rfl⟩) | (go_at_call 50; with_reducible refine (C3.out _).mono ?_; rintro e w' ⟨rfl, rfl⟩) | (go_at_call 51; with_reducible refine (C5.out _).mono ?_; rintro e w' ⟨rfl, rfl⟩) | (go_at_call 52; with_reducible refine (C6.out _).mono ?_; rintro e w6 ⟨rfl, k6, rfl⟩))
    all_goals (go_ret2; exact ⟨by first | rfl | (push_cast; rfl) | simp, k6, rfl⟩)
theorem upN_nat (a b : Nat) : (((a * b + 999) / 1000 : Nat) : Int) = upN (a : Int) (b : Int) := by
  unfold upN
  rw [← Int.natCast_mul]
  omega
theorem qup_any {n m : Int} (h0 : 0 ≤ n) (h1 : n ≤ 1125899906842624) (h2 : 0 ≤ m) (h3 : m ≤ 1000) (w : World) :
    Calls Try.prog 31 #[.int .i64 n, .int .i64 m, .int .i64 1000, .int .i64 2] w fun e w' => e = .returned (.tuple #[.int .i64 (upN n m), .int .i64 0]) ∧ ∃ k, w' = w.drewN k := by
  obtain ⟨a, rfl⟩ := Int.eq_ofNat_of_zero_le h0
  obtain ⟨b, rfl⟩ := Int.eq_ofNat_of_zero_le h2
  refine (ratio2_any (n := a) (m := b) (by omega) (by omega) w).mono ?_
  rintro e w' ⟨rfl, k, rfl⟩
  rw [upN_nat]
  exact ⟨rfl, k, rfl⟩
end Go.Proofs.Ytekdppnlgkfcdaa
/- slices.Clone at lines. -/
namespace Go.Proofs.Ytekdppnlgkfcdaa
open Go.RowKit Go.Lib

set_option maxRecDepth 100000 in
set_option maxHeartbeats 2000000 in
theorem cloneL_any {A : Option Addr} (c : Nat) {l : List Ln} {w : World} (h : Rd encLn 2 w w.heap.size A l) (hl : l.length ≤ 1000000) :
    Calls Try.prog 32 #[.slice A l.length c] w fun e w' => ∃ A' c', e = .returned (.slice A' l.length c') ∧ Own 86 encLn 2 w' w.heap.size A' c' l ∧ Below w.heap.size w w' := by
  have qn : ∀ (w : World) (a : Option Addr) (n c n' c' : Nat), (binOp .eql 62 (.slice a n c) (.slice none n' c')).run Try.prog w = .ok (.bool a.isNone) w := fun w a n c n' c' => Lib.run_eql_slice_nil w _ _ a n c n' c' Try.underlying62
  have H := Lib.hid h
  clear h
  cases A with
  | none =>
    have hl0 : l = [] := by
      rcases Classical.em (l = []) with q | q
      · exact q
      · obtain ⟨_, _, hA, _⟩ := H.out q
        cases hA
    subst hl0
    clear H hl
    go_enter Try.func32, Try.ntmps32
    go_wp2
    go_ret
    exact ⟨none, 0, rfl, Own.nil _ _, Below.refl _ _⟩
  | some a =>
    have hown := Own.lit (e := 86) (cs := #[]) w w.heap.size ([] : List Ln) (g := w.heap.size) encLn_ok rfl rfl (Nat.le_refl _) (by simp)
    have hb0 := (Below.refl w.heap.size w).al (.cells #[] 86)
    have hr := H.out.st hb0
    have hbs : w.heap.size ≤ (w.alloc (.cells #[] 86)).heap.size := by simp
    go_enter Try.func32, Try.ntmps32
    go_wp2_with (at_builtin; refine wpList_appS rfl (.tmp 5) (.tmp 6) tyLn encLn_ok rfl _ rfl (by first | rfl | simp) hown l rfl (by first | rfl | simp) hr (by first | omega | (simp; done) | (simp; omega)) (by first | omega | (simp; done) | (simp; omega)) hbs ?_; intro A4 c4 w4 hown4 hb4 hs4 hf4)
    go_ret
    exact ⟨A4, c4, by simp, by simpa using hown4, hb0.trans hb4⟩
end Go.Proofs.Ytekdppnlgkfcdaa
