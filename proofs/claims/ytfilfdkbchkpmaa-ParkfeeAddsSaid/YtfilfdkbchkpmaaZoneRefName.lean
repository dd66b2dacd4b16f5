/- The reference's IsName. -/
import Derived.Test.YtfilfdkbchkpmaaZoneName
namespace Go.Proofs.Ytfilfdkbchkpmaa
open Go.RowKit Go.Lib

theorem okByte_yes' {k c : Nat} (h : okByte k c = true) : (97 ≤ (c : Int) ∧ (c : Int) ≤ 122) ∨ ((c : Int) < 97 ∧ 48 ≤ (c : Int) ∧ (c : Int) ≤ 57) ∨ ((c : Int) < 48 ∧ (c : Int) = 45) := by
  unfold okByte at h
  simp only [Bool.or_eq_true, Bool.and_eq_true, decide_eq_true_eq] at h
  omega
theorem okByte_no' {k c : Nat} (h : okByte k c = false) (hk : k ≠ 0) : ((c : Int) < 48 ∧ ¬ (c : Int) = 45) ∨ (57 < (c : Int) ∧ (c : Int) < 97) ∨ 122 < (c : Int) := by
  unfold okByte at h
  simp only [Bool.or_eq_false_iff, Bool.and_eq_false_iff, decide_eq_false_iff_not] at h
  omega

set_option maxHeartbeats 1000000 in
theorem rIsName_any (s : ByteArray) (w : World) :
    Calls Try.prog 50 #[.string s] w fun e w' => e = .returned (.bool (nameB s)) ∧ w' = w := by
  generalize hr : nameB s = r
  by_cases h0 : s.size < 1
  · have R := Lib.hid (show r = false by rw [← hr, nameB, show decide (1 ≤ s.size) = false from decide_eq_false (by omega)]; rfl)
    clear hr
    go_enter Try.func50, Try.ntmps50
    go_wp2
    all_goals (go_ret; rw [R.out]; exact ⟨rfl, rfl⟩)
  · by_cases h12 : 12 < s.size
    · have R := Lib.hid (show r = false by rw [← hr, nameB, show decide (s.size ≤ 12) = false from decide_eq_false (by omega)]; simp)
      clear hr
      go_enter Try.func50, Try.ntmps50
      go_wp2
      all_goals (go_ret; rw [R.out]; exact ⟨rfl, rfl⟩)
    · have hp0 : 0 < s.size := by omega
      obtain ⟨c0, hc0⟩ : ∃ c0 : Nat, (s[0]'hp0).toNat = c0 := ⟨_, rfl⟩
      cases ho0 : okByte 0 c0
      · have R := Lib.hid (show r = false by rw [← hr]; exact nameB_no hp0 (by rw [hc0]; exact ho0))
        have hz : (c0 : Int) < 97 ∨ (97 ≤ (c0 : Int) ∧ 122 < (c0 : Int)) := by
          unfold okByte at ho0
          simp at ho0
          omega
        clear hr ho0
        go_enter Try.func50, Try.ntmps50
        rcases hz with h1 | ⟨h1, h2⟩
        all_goals (go_wp2; all_goals (go_ret; rw [R.out]; exact ⟨rfl, rfl⟩))
      · have hz : 97 ≤ (c0 : Int) ∧ (c0 : Int) ≤ 122 := by
          unfold okByte at ho0
          simp at ho0
          omega
        obtain ⟨h1, h2⟩ := hz
        have HO := Lib.hid (show okByte 0 (s[0]'hp0).toNat = true by rw [hc0]; exact ho0)
        have HR := Lib.hid hr
        clear hr
        go_enter Try.func50, Try.ntmps50
        go_wp2
        go_loopw [3] (fun i wr => ∃ k : Nat, k ≤ s.size ∧ i = .int .i64 k ∧ wr = w ∧ Hid (nameTo s k)) (fun i _ => s.size - (intOf i).toNat)
        case atStart => exact ⟨0, Nat.zero_le _, rfl, rfl, fun i _ h => absurd h (Nat.not_lt_zero _)⟩
        case round =>
          obtain ⟨k, hkl, rfl, rfl, HN⟩ := hrel
          clear h1 h2 hc0
          by_cases hk : k < s.size
          · obtain ⟨c, hc⟩ : ∃ c : Nat, (s[k]'hk).toNat = c := ⟨_, rfl⟩
            cases ho : okByte k c
            · have hk0 : k ≠ 0 := by
                rintro rfl
                rw [← hc, HO.out] at ho
                cases ho
              have R := Lib.hid (show r = false by rw [← HR.out, nameB_no hk (by rw [hc]; exact ho)])
              have hno := okByte_no' ho hk0
              clear ho
              rcases hno with ⟨h1, h2⟩ | ⟨h1, h2⟩ | h1
              all_goals (go_wp2; all_goals first | (go_ret; rw [R.out]; exact ⟨rfl, rfl⟩) | (exfalso; rename_i hx; simp at hx; omega) | skip)
            · have R := Lib.hid (nameTo_succ HN.out hk (by rw [hc]; exact ho))
              have hyes := okByte_yes' ho
              clear ho
              rcases hyes with ⟨h1, h2⟩ | ⟨h1, h2, h3⟩ | ⟨h1, h2⟩
              all_goals
                go_wp2
                go_roundw
                case rel => exact ⟨k + 1, by omega, by go_num, by first | rfl | trivial, R⟩
                case measure => simp [intOf]; omega
          · obtain rfl : k = s.size := by omega
            have R := Lib.hid (show r = true by rw [← HR.out]; exact (nameB_iff s).2 ⟨by omega, by omega, HN.out⟩)
            go_wp2
            go_ret
            rw [R.out]
            exact ⟨rfl, rfl⟩
end Go.Proofs.Ytfilfdkbchkpmaa
