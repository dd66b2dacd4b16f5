/- The reference's Same, at equal devices, walked. -/
import Derived.Test.YtflihhikofkheaaDevEnc
import Derived.BigQuiet
import Derived.Laws.StructEq
import Derived.IntWalk
namespace Go.Proofs.Ytflihhikofkheaa
open Go.RowKit Go.Lib

set_option maxRecDepth 100000 in
set_option maxHeartbeats 4000000 in
theorem rsameD_true (a b : Dv) {w : World} (ha : DOk w a) (hb : DOk w b) (hz : vD a = vD b) (hl1 : a.os.length ≤ 9223372036854775807) (hl2 : a.ds.length ≤ 9223372036854775807) :
    Calls Try.prog 23 #[DV a, DV b] w fun e w' => e = .returned (.bool true) ∧ Below w.heap.size w w' := by
  obtain ⟨nm, pt, kd, ln, oA, oc, os, dA, dc, ds⟩ := a
  obtain ⟨nm2, pt2, kd2, ln2, oA2, oc2, os2, dA2, dc2, ds2⟩ := b
  simp only [vD, Prod.mk.injEq] at hz
  obtain ⟨rfl, rfl, rfl, rfl, rfl, rfl⟩ := hz
  have h1 : Rd encIv 2 w w.heap.size oA os := ha.1
  have h2 : Rd encIv 2 w w.heap.size dA ds := ha.2
  have h3 : Rd encIv 2 w w.heap.size oA2 os := hb.1
  have h4 : Rd encIv 2 w w.heap.size dA2 ds := hb.2
  clear ha hb
  simp only [DV] at *
  have hn : (nm.toList == nm.toList) = true := by simp
  have hn2 : (pt.toList == pt.toList) = true := by simp
  have hb0 : Below w.heap.size w ((w.alloc (.cells #[.string nm, .string pt, .int .i64 kd, .int .i64 ln, .slice oA os.length oc, .slice dA ds.length dc] 36)).alloc (.cells #[.string nm, .string pt, .int .i64 kd, .int .i64 ln, .slice oA2 os.length oc2, .slice dA2 ds.length dc2] 36)) := ((Below.refl _ w).al _).al _
  have hz0 : w.heap.size + 1 < ((w.alloc (.cells #[.string nm, .string pt, .int .i64 kd, .int .i64 ln, .slice oA os.length oc, .slice dA ds.length dc] 36)).alloc (.cells #[.string nm, .string pt, .int .i64 kd, .int .i64 ln, .slice oA2 os.length oc2, .slice dA2 ds.length dc2] 36)).heap.size := by simp
  have q1 : ((w.alloc (.cells #[.string nm, .string pt, .int .i64 kd, .int .i64 ln, .slice oA os.length oc, .slice dA ds.length dc] 36)).alloc (.cells #[.string nm, .string pt, .int .i64 kd, .int .i64 ln, .slice oA2 os.length oc2, .slice dA2 ds.length dc2] 36)).cell? ⟨w.heap.size, 4, none⟩ = some (.slice oA os.length oc) := by simp
  have q2 : ((w.alloc (.cells #[.string nm, .string pt, .int .i64 kd, .int .i64 ln, .slice oA os.length oc, .slice dA ds.length dc] 36)).alloc (.cells #[.string nm, .string pt, .int .i64 kd, .int .i64 ln, .slice oA2 os.length oc2, .slice dA2 ds.length dc2] 36)).cell? ⟨w.heap.size, 5, none⟩ = some (.slice dA ds.length dc) := by simp
  have q3 : ((w.alloc (.cells #[.string nm, .string pt, .int .i64 kd, .int .i64 ln, .slice oA os.length oc, .slice dA ds.length dc] 36)).alloc (.cells #[.string nm, .string pt, .int .i64 kd, .int .i64 ln, .slice oA2 os.length oc2, .slice dA2 ds.length dc2] 36)).cell? ⟨w.heap.size + 1, 4, none⟩ = some (.slice oA2 os.length oc2) := by simp
  have q4 : ((w.alloc (.cells #[.string nm, .string pt, .int .i64 kd, .int .i64 ln, .slice oA os.length oc, .slice dA ds.length dc] 36)).alloc (.cells #[.string nm, .string pt, .int .i64 kd, .int .i64 ln, .slice oA2 os.length oc2, .slice dA2 ds.length dc2] 36)).cell? ⟨w.heap.size + 1, 5, none⟩ = some (.slice dA2 ds.length dc2) := by simp
  go_enter Try.func23, Try.ntmps23
  go_wp2
  replace h1 := h1.keep hb0
  replace h2 := h2.keep hb0
  replace h3 := h3.keep hb0
  replace h4 := h4.keep hb0
  generalize (w.alloc (.cells #[.string nm, .string pt, .int .i64 kd, .int .i64 ln, .slice oA os.length oc, .slice dA ds.length dc] 36)).alloc (.cells #[.string nm, .string pt, .int .i64 kd, .int .i64 ln, .slice oA2 os.length oc2, .slice dA2 ds.length dc2] 36) = w1 at *
  go_loopw [5] (fun i wr => ∃ k : Nat, k ≤ os.length ∧ i = .int .i64 k ∧ ∃ n, wr = w1.drewN n) (fun i _ => os.length - (intOf i).toNat)
  case atStart => exact ⟨0, Nat.zero_le _, rfl, 0, rfl⟩
  case round =>
    obtain ⟨k, hk, rfl, n, rfl⟩ := hrel
    by_cases hi : k < os.length
    · obtain ⟨b, off, x, y, rfl, hb, hx, d0, d1⟩ := h1.iv hi
      obtain ⟨b', off', x', y', rfl, hb', hx', e0, e1⟩ := h3.iv hi
      rw [hx] at hx'
      simp only [Option.some.injEq, Prod.mk.injEq] at hx'
      obtain ⟨rfl, rfl⟩ := hx'
      have hi1 : (0 : Int) ≤ (k : Int) := by omega
      have hi2 : (k : Int) < (os.length : Int) := by omega
      clear hx h1 h2 h3 h4
      go_wp2_with fail
      go_quiet (fail)
      go_wp2
      go_roundw
      case rel => exact ⟨k + 1, by omega, by go_num, _, rfl⟩
      case measure => simp [intOf]; omega
    · obtain rfl : k = os.length := by omega
      obtain ⟨wo, hwo⟩ : ∃ wo : World, wo = w1.drewN n := ⟨_, rfl⟩
      go_wp2
      go_loopw [6] (fun i wr => ∃ k : Nat, k ≤ ds.length ∧ i = .int .i64 k ∧ ∃ n, wr = w1.drewN n) (fun i _ => ds.length - (intOf i).toNat)
      case atStart => exact ⟨0, Nat.zero_le _, rfl, n, rfl⟩
      case round =>
        obtain ⟨k, hk, rfl, n2, rfl⟩ := hrel
        by_cases hi : k < ds.length
        · obtain ⟨b, off, x, y, rfl, hb, hx, d0, d1⟩ := h2.iv hi
          obtain ⟨b', off', x', y', rfl, hb', hx', e0, e1⟩ := h4.iv hi
          rw [hx] at hx'
          simp only [Option.some.injEq, Prod.mk.injEq] at hx'
          obtain ⟨rfl, rfl⟩ := hx'
          have hi1 : (0 : Int) ≤ (k : Int) := by omega
          have hi2 : (k : Int) < (ds.length : Int) := by omega
          clear hx h1 h2 h3 h4
          go_wp2_with fail
          go_quiet (fail)
          go_wp2
          go_roundw
          case rel => exact ⟨k + 1, by omega, by go_num, _, rfl⟩
          case measure => simp [intOf]; omega
        · obtain rfl : k = ds.length := by omega
          go_wp2
          go_ret
          exact ⟨rfl, below_drewN hb0 _⟩
end Go.Proofs.Ytflihhikofkheaa
