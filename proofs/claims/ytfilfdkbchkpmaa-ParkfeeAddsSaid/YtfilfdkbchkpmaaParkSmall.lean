/- The reference's sum and SameInts, walked. -/
import Derived.Test.YtfilfdkbchkpmaaParkFeeW
namespace Go.Proofs.Ytfilfdkbchkpmaa
open Go.RowKit Go.Lib

set_option maxHeartbeats 2000000 in
theorem rsum_any {A : Option Addr} (c : Nat) {l : List Int} {w : World} (h : Rd encI 1 w w.heap.size A l) (hl : l.length ≤ 1024) (hb : ∀ x ∈ l, -1125899906842624 ≤ x ∧ x ≤ 1125899906842624) :
    Calls Try.prog 37 #[.slice A l.length c] w fun e w' => e = .returned (.int .i64 l.sum) ∧ Below w.heap.size w w' := by
  have H := Lib.hid h
  have HB := Lib.hid hb
  clear h hb
  go_enter Try.func37, Try.ntmps37
  go_wp2
  go_loopw [3, 4] (fun v i wr => ∃ (k : Nat) (q : Int), k ≤ l.length ∧ i = .int .i64 k ∧ Hid ((l.take k).sum = q) ∧ v = .int .i64 q ∧ Below w.heap.size w wr) (fun _ i _ => l.length - (intOf i).toNat)
  case atStart => exact ⟨0, 0, Nat.zero_le _, rfl, rfl, rfl, Below.refl _ _⟩
  case round =>
    obtain ⟨k, q, hk, rfl, HO, rfl, hbr⟩ := hrel
    have hq := sum_bounds (l := l.take k) fun x hx => HB.out x (List.mem_of_mem_take hx)
    rw [HO.out, List.length_take, Nat.min_eq_left hk] at hq
    obtain ⟨hq1, hq2⟩ := hq
    by_cases hlt : k < l.length
    · obtain ⟨b, off, x, rfl, hg, hx, hc0⟩ := (H.out.keep hbr).i hlt
      obtain ⟨hx1, hx2⟩ := HB.out x (List.mem_of_getElem? hx)
      have R := Lib.hid (show (l.take (k + 1)).sum = q + x by rw [List.take_add_one, hx, List.sum_append, HO.out]; simp)
      clear hx HO
      go_wp2
      go_roundw
      case rel => exact ⟨k + 1, _, by omega, by go_num, R, rfl, hbr⟩
      case measure => simp [intOf]; omega
    · obtain rfl : k = l.length := by omega
      have R := Lib.hid (show l.sum = q by have := HO.out; rwa [List.take_length] at this)
      clear HO
      go_wp2
      go_ret
      exact ⟨ret_int R.out.symm, hbr⟩

set_option maxHeartbeats 2000000 in
/-- two lists that are one -/
theorem same_any {A B : Option Addr} (c d : Nat) {l : List Int} {w : World} (ha : Rd encI 1 w w.heap.size A l) (hb : Rd encI 1 w w.heap.size B l) (hl : l.length ≤ 1024) :
    Calls Try.prog 18 #[.slice A l.length c, .slice B l.length d] w fun e w' => e = .returned (.bool true) ∧ Below w.heap.size w w' := by
  have HA := Lib.hid ha
  have HB := Lib.hid hb
  clear ha hb
  go_enter Try.func18, Try.ntmps18
  go_wp2
  go_loopw [5] (fun i wr => ∃ (k : Nat), k ≤ l.length ∧ i = .int .i64 k ∧ Below w.heap.size w wr) (fun i _ => l.length - (intOf i).toNat)
  case atStart => exact ⟨0, Nat.zero_le _, rfl, Below.refl _ _⟩
  case round =>
    obtain ⟨k, hk, rfl, hbr⟩ := hrel
    by_cases hlt : k < l.length
    · obtain ⟨b, off, x, rfl, hg, hx, hc0⟩ := (HA.out.keep hbr).i hlt
      obtain ⟨b', off', x', rfl, hg', hx', hc0'⟩ := (HB.out.keep hbr).i hlt
      obtain rfl : x = x' := by rw [hx] at hx'; exact Option.some.inj hx'
      have hk0 : (0 : Int) ≤ (k : Int) := by omega
      have hlt' : (k : Int) < (l.length : Int) := by omega
      have HLT := Lib.hid hlt
      clear hx hx'
      go_wp2_with fail
      go_quiet (fail)
      go_wp2
      go_roundw
      case rel => exact ⟨k + 1, HLT.out, by go_num, by first | exact hbr | exact below_drewN hbr _⟩
      case measure => have := HLT.out; simp [intOf]; omega
    · obtain rfl : k = l.length := by omega
      go_wp2
      go_ret
      exact ⟨rfl, hbr⟩
end Go.Proofs.Ytfilfdkbchkpmaa
