/- zone.steps, walked. -/
import Derived.Test.YtfilfdkbchkpmaaZoneSteps
namespace Go.Proofs.Ytfilfdkbchkpmaa
open Go.RowKit Go.Lib

theorem zwithin_is {n a b : Int} {r : Bool} (h : decide (a ≤ n ∧ n ≤ b) = r) (w : World) :
    Calls Try.prog 44 #[.int .i64 n, .int .i64 a, .int .i64 b] w fun e w' => e = .returned (.bool r) ∧ w' = w := by
  subst h
  exact zwithin_any n a b w
theorem dec_yes {n a b : Int} (h : decide (a ≤ n ∧ n ≤ b) = true) : a ≤ n ∧ n ≤ b := of_decide_eq_true h
theorem dec_no {n a b : Int} (h : decide (a ≤ n ∧ n ≤ b) = false) : ¬ (a ≤ n ∧ n ≤ b) := of_decide_eq_false h

set_option maxHeartbeats 4000000 in
theorem steps_any {A : Option Addr} (c : Nat) {ss : List Wn} {w : World} (h : Rd encW 3 w w.heap.size A ss) :
    Calls Try.prog 43 #[.slice A ss.length c] w fun e w' => e = .returned (.int .i64 (stepsE ss)) ∧ Below w.heap.size w w' := by
  generalize hr : stepsE ss = r
  by_cases h16 : 16 < ss.length
  · have R := Lib.hid (show r = 3 by rw [← hr]; simp [stepsE, h16])
    clear hr
    go_enter Try.func43, Try.ntmps43
    go_wp2
    all_goals (go_ret; rw [R.out]; exact ⟨rfl, Below.refl _ _⟩)
  · by_cases h0 : ss.length = 0
    · have R := Lib.hid (show r = 1 by rw [← hr]; simp [stepsE, h0])
      clear hr
      go_enter Try.func43, Try.ntmps43
      go_wp2
      all_goals (go_ret; rw [R.out]; exact ⟨rfl, Below.refl _ _⟩)
    · have HR := Lib.hid (show r = firstE (stepE ss) ss.length by rw [← hr]; simp [stepsE, h16, h0])
      clear hr
      have hl0 : ((ss.length : Int) == 0) = false := beq_eq_false_iff_ne.2 (by omega)
      go_enter Try.func43, Try.ntmps43
      go_wp2
      go_loopw [16] (fun i wr => ∃ k : Nat, k ≤ ss.length ∧ i = .int .i64 k ∧ Hid (∀ j, j < k → stepE ss j = 0) ∧ Below w.heap.size w wr) (fun i _ => ss.length - (intOf i).toNat)
      case atStart => exact ⟨0, Nat.zero_le _, rfl, fun j hj => absurd hj (Nat.not_lt_zero _), Below.refl _ _⟩
      case round =>
        obtain ⟨k, hk, rfl, HZ, hbel⟩ := hrel
        by_cases hi : k < ss.length
        · have hp := fun h0 : k ≠ 0 => (h.keep hbel).w3 (i := k - 1) (by omega)
          obtain ⟨b, off, x, y, z, rfl, hb, hx, c0, c1, c2⟩ := (h.keep hbel).w3 hi
          clear h
          have he := stepE_at hx
          have hi1 : (0 : Int) ≤ (k : Int) := by omega
          have hi2 : (k : Int) < (ss.length : Int) := by omega
          have hbw : b < wr.heap.size := Nat.lt_of_lt_of_le hb hbel.size
          have hbal : Below w.heap.size w (wr.alloc (.cells #[.int .i64 x, .int .i64 y, .int .i64 z] 53)) := hbel.al _
          clear hx
          cases hy : decide (1 ≤ y ∧ y ≤ 68719476736)
          · rw [stepX_bad (fun q => dec_no hy q.1)] at he
            have R := Lib.hid (show r = 1 by rw [HR.out, firstE_some HZ.out hi (by rw [he]; decide), he])
            have Hy := Lib.hid hy
            clear hp he hy
            go_wp2_with (go_at_call 44; (first | (with_reducible refine (zwithin_is Hy.out _).mono ?_) | (with_reducible refine (zwithin_is Hz.out _).mono ?_) | (with_reducible refine (zwithin_is Hx.out _).mono ?_)); rintro e w' ⟨rfl, rfl⟩)
            all_goals (go_ret; rw [R.out]; exact ⟨rfl, hbal⟩)
          · cases hz : decide (0 ≤ z ∧ z ≤ 2147483648)
            · rw [stepX_bad (fun q => dec_no hz q.2)] at he
              have R := Lib.hid (show r = 1 by rw [HR.out, firstE_some HZ.out hi (by rw [he]; decide), he])
              have Hy := Lib.hid hy
              have Hz := Lib.hid hz
              clear hp he hy hz
              go_wp2_with (go_at_call 44; (first | (with_reducible refine (zwithin_is Hy.out _).mono ?_) | (with_reducible refine (zwithin_is Hz.out _).mono ?_) | (with_reducible refine (zwithin_is Hx.out _).mono ?_)); rintro e w' ⟨rfl, rfl⟩)
              all_goals (go_ret; rw [R.out]; exact ⟨rfl, hbal⟩)
            · have hu := And.intro (dec_yes hy) (dec_yes hz)
              have Hy := Lib.hid hy
              have Hz := Lib.hid hz
              clear hy hz
              by_cases hla : k + 1 = ss.length
              · rw [stepX_last hu hla] at he
                have hl1 : ((k : Int) == (ss.length : Int) - 1) = true := by simp; omega
                clear hp hu
                by_cases hx0 : x = 0
                · rw [if_pos hx0] at he
                  have HK := Lib.hid (show ∀ j, j < k + 1 → stepE ss j = 0 from fun j hj => by rcases (by omega : j < k ∨ j = k) with q | rfl; exact HZ.out j q; exact he)
                  subst hx0
                  clear he
                  go_wp2_with (go_at_call 44; (first | (with_reducible refine (zwithin_is Hy.out _).mono ?_) | (with_reducible refine (zwithin_is Hz.out _).mono ?_) | (with_reducible refine (zwithin_is Hx.out _).mono ?_)); rintro e w' ⟨rfl, rfl⟩)
                  go_big_quiet (fail)
                  go_wp2
                  (go_roundw; (case rel => exact ⟨k + 1, by omega, by go_num, HK, below_drewN hbal _⟩); (case measure => (simp [intOf]; omega)))
                · rw [if_neg hx0] at he
                  have R := Lib.hid (show r = 12 by rw [HR.out, firstE_some HZ.out hi (by rw [he]; decide), he])
                  clear he
                  go_wp2_with (go_at_call 44; (first | (with_reducible refine (zwithin_is Hy.out _).mono ?_) | (with_reducible refine (zwithin_is Hz.out _).mono ?_) | (with_reducible refine (zwithin_is Hx.out _).mono ?_)); rintro e w' ⟨rfl, rfl⟩)
                  all_goals (go_ret; rw [R.out]; exact ⟨rfl, hbal⟩)
              · have hl1 : ((k : Int) == (ss.length : Int) - 1) = false := by simp; omega
                cases hx : decide (1 ≤ x ∧ x ≤ 68719476736)
                · rw [stepX_out hu hla (dec_no hx)] at he
                  have R := Lib.hid (show r = 12 by rw [HR.out, firstE_some HZ.out hi (by rw [he]; decide), he])
                  have Hx := Lib.hid hx
                  clear hp he hx hu
                  go_wp2_with (go_at_call 44; (first | (with_reducible refine (zwithin_is Hy.out _).mono ?_) | (with_reducible refine (zwithin_is Hz.out _).mono ?_) | (with_reducible refine (zwithin_is Hx.out _).mono ?_)); rintro e w' ⟨rfl, rfl⟩)
                  all_goals (go_ret; rw [R.out]; exact ⟨rfl, hbal⟩)
                · rw [stepX_in hu hla (dec_yes hx)] at he
                  have Hx := Lib.hid hx
                  clear hx hu
                  by_cases hk0 : k = 0
                  · rw [if_neg (by omega)] at he
                    have HK := Lib.hid (show ∀ j, j < k + 1 → stepE ss j = 0 from fun j hj => by rcases (by omega : j < k ∨ j = k) with q | rfl; exact HZ.out j q; exact he)
                    have h6 : decide ((0 : Int) < (k : Int)) = false := decide_eq_false (by omega)
                    have h8 : decide (0 < k) = false := decide_eq_false (by omega)
                    clear hp he hk0
                    go_wp2_with (go_at_call 44; (first | (with_reducible refine (zwithin_is Hy.out _).mono ?_) | (with_reducible refine (zwithin_is Hz.out _).mono ?_) | (with_reducible refine (zwithin_is Hx.out _).mono ?_)); rintro e w' ⟨rfl, rfl⟩)
                    go_big_quiet (fail)
                    go_wp2
                    (go_roundw; (case rel => exact ⟨k + 1, by omega, by go_num, HK, below_drewN hbal _⟩); (case measure => (simp [intOf]; omega)))
                  · obtain ⟨b', off', x', y', z', hA, hb', hx', d0, d1, d2⟩ := hp hk0
                    injection hA with hA
                    injection hA with hA1 hA2
                    subst hA1 hA2
                    rw [prevU_at hx'] at he
                    have h1 : (0 : Int) < (k : Int) := by omega
                    have h2 : (0 : Int) ≤ (k : Int) - 1 := by omega
                    have h3 : (k : Int) - 1 < (ss.length : Int) := by omega
                    have h4 : ((k : Int) - 1).toNat = k - 1 := by omega
                    have h5 : IntKind.i64.wrap ((k : Int) - 1) = (k : Int) - 1 := IntWalk.i64_in _ (by omega)
                    have h6 : decide ((0 : Int) < (k : Int)) = true := decide_eq_true h1
                    have h8 : decide (0 < k) = true := decide_eq_true (by omega)
                    have d3 := (World.cell?_alloc_lt wr (.cells #[.int .i64 x, .int .i64 y, .int .i64 z] 53) ⟨b, off + (k - 1) * 3, none⟩ hbw).trans d0
                    clear hx' hp d1 d2
                    by_cases hle : x ≤ x'
                    · rw [if_pos ⟨by omega, hle⟩] at he
                      have R := Lib.hid (show r = 15 by rw [HR.out, firstE_some HZ.out hi (by rw [he]; decide), he])
                      clear he
                      go_wp2_with (go_at_call 44; (first | (with_reducible refine (zwithin_is Hy.out _).mono ?_) | (with_reducible refine (zwithin_is Hz.out _).mono ?_) | (with_reducible refine (zwithin_is Hx.out _).mono ?_)); rintro e w' ⟨rfl, rfl⟩)
                      go_big_quiet (fail)
                      go_wp2
                      all_goals (go_ret; rw [R.out]; exact ⟨rfl, below_drewN hbal _⟩)
                    · rw [if_neg (by omega)] at he
                      have HK := Lib.hid (show ∀ j, j < k + 1 → stepE ss j = 0 from fun j hj => by rcases (by omega : j < k ∨ j = k) with q | rfl; exact HZ.out j q; exact he)
                      clear he
                      go_wp2_with (go_at_call 44; (first | (with_reducible refine (zwithin_is Hy.out _).mono ?_) | (with_reducible refine (zwithin_is Hz.out _).mono ?_) | (with_reducible refine (zwithin_is Hx.out _).mono ?_)); rintro e w' ⟨rfl, rfl⟩)
                      go_big_quiet (fail)
                      go_wp2
                      (go_roundw; (case rel => exact ⟨k + 1, by omega, by go_num, HK, below_drewN hbal _⟩); (case measure => (simp [intOf]; omega)))
        · obtain rfl : k = ss.length := by omega
          have R := Lib.hid (show r = 0 by rw [HR.out, firstE_none HZ.out])
          go_wp2
          go_ret
          rw [R.out]
          exact ⟨rfl, hbel⟩
end Go.Proofs.Ytfilfdkbchkpmaa
