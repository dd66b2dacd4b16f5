/- sort.Search over parkfee.Longest's closure, walked. -/
import Derived.Test.YtfilfdkbchkpmaaParkFeeW
namespace Go.Proofs.Ytfilfdkbchkpmaa
open Go.RowKit Go.Lib

theorem half_range {i j : Int} (h1 : i < j) : i ≤ (i + j) / 2 ∧ (i + j) / 2 < j := by omega

set_option maxRecDepth 100000 in
set_option maxHeartbeats 4000000 in
theorem search_any (p1 p2 p3 : Value) (q : Int → Bool) (n : Int) (hn0 : 0 ≤ n) (hn1 : n ≤ 68719476736) {w : World}
    (hg : ∀ X, Below w.heap.size w X → ∀ k, 0 ≤ k → k < n → Calls Try.prog 39 #[.int .i64 k, p1, p2, p3] X fun e w' => e = .returned (.bool (q k)) ∧ Below X.heap.size X w') :
    Calls Try.prog 38 #[.int .i64 n, .func (.func 39) #[] #[p1, p2, p3]] w fun e w' =>
      ∃ k, 0 ≤ k ∧ k ≤ n ∧ e = .returned (.int .i64 k) ∧ (0 < k → q (k - 1) = false) ∧ (k < n → q k = true) ∧ Below w.heap.size w w' := by
  have C := Lib.hid hg
  clear hg
  go_enter Try.func38, Try.ntmps38
  go_wp2_with fail
  go_loopw [5, 6] (fun u v wr => ∃ (i j : Int), 0 ≤ i ∧ i ≤ j ∧ j ≤ n ∧ u = .int .i64 i ∧ v = .int .i64 j ∧ Hid (0 < i → q (i - 1) = false) ∧ Hid (j < n → q j = true) ∧ Below w.heap.size w wr) (fun u v _ => (intOf v - intOf u).toNat)
  case atStart => exact ⟨0, n, by omega, by omega, by omega, rfl, rfl, (fun h => by omega), (fun h => by omega), Below.refl _ _⟩
  case round =>
    obtain ⟨i, j, hi, hij, hj, rfl, rfl, HI, HJ, hbr⟩ := hrel
    by_cases hlt : i < j
    · obtain ⟨m1, m2⟩ := half_range hlt
      have m0 : 0 ≤ (i + j) / 2 := by omega
      have m3 : (i + j) / 2 ≤ 68719476736 := by omega
      have s0 : 0 ≤ i + j := by omega
      have C1 := Lib.hid (C.out wr hbr ((i + j) / 2) m0 (by omega))
      cases hq : q ((i + j) / 2)
      · rw [hq] at C1
        have R := Lib.hid (show 0 < (i + j) / 2 + 1 → q ((i + j) / 2 + 1 - 1) = false from fun _ => by rw [show (i + j) / 2 + 1 - 1 = (i + j) / 2 by omega]; exact hq)
        clear hq
        go_wp2_with fail
        refine (C1.out).mono ?_
        rintro e w1 ⟨rfl, hb1⟩
        have hbr1 := hbr.st hb1
        go_wp2
        go_roundw
        case rel => exact ⟨(i + j) / 2 + 1, j, by omega, by omega, by omega, rfl, rfl, R, HJ, hbr1⟩
        case measure => simp [intOf]; omega
      · rw [hq] at C1
        have R := Lib.hid (show (i + j) / 2 < n → q ((i + j) / 2) = true from fun _ => hq)
        clear hq
        go_wp2_with fail
        refine (C1.out).mono ?_
        rintro e w1 ⟨rfl, hb1⟩
        have hbr1 := hbr.st hb1
        go_wp2
        go_roundw
        case rel => exact ⟨i, (i + j) / 2, by omega, by omega, by omega, rfl, rfl, HI, R, hbr1⟩
        case measure => simp [intOf]; omega
    · obtain rfl : i = j := by omega
      go_wp2
      go_ret
      exact ⟨i, hi, hj, rfl, HI.out, HJ.out, hbr⟩
end Go.Proofs.Ytfilfdkbchkpmaa
