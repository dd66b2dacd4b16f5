/- The reference's Same, at equal zones, walked. -/
import Derived.Test.YtppnkepjipglgaaZoneWords
import Derived.Laws.StructEq
import Derived.IntWalk
namespace Go.Proofs.Ytppnkepjipglgaa
open Go.RowKit Go.Lib

set_option maxRecDepth 100000 in
set_option maxHeartbeats 2000000 in
theorem rsameZ_true (a b : Zn) {w : World} (ha : ZOk w a) (hb : ZOk w b) (hz : zc a = zc b) (hl1 : a.hs.length ≤ 9223372036854775807) (hl2 : a.ss.length ≤ 9223372036854775807) :
    Calls Try.prog 18 #[ZV a, ZV b] w fun e w' => e = .returned (.bool true) ∧ Below w.heap.size w w' := by
  obtain ⟨nm, hA, hc, hs, sA, sc, ss, gr, fr, dm, ms⟩ := a
  obtain ⟨nm2, hA2, hc2, hs2, sA2, sc2, ss2, gr2, fr2, dm2, ms2⟩ := b
  simp only [zc, Prod.mk.injEq] at hz
  obtain ⟨rfl, rfl, rfl, rfl, rfl, rfl, rfl⟩ := hz
  have h1 : Rd encW 3 w w.heap.size hA hs := ha.1
  have h2 : Rd encW 3 w w.heap.size sA ss := ha.2
  have h3 : Rd encW 3 w w.heap.size hA2 hs := hb.1
  have h4 : Rd encW 3 w w.heap.size sA2 ss := hb.2
  clear ha hb
  simp only [ZV] at *
  have hn : (nm.toList == nm.toList) = true := by simp
  have hb0 : Below w.heap.size w ((w.alloc (.cells #[.string nm, .slice hA hs.length hc, .slice sA ss.length sc, .int .i64 gr, .int .i64 fr, .int .i64 dm, .int .i64 ms] 25)).alloc (.cells #[.string nm, .slice hA2 hs.length hc2, .slice sA2 ss.length sc2, .int .i64 gr, .int .i64 fr, .int .i64 dm, .int .i64 ms] 25)) := ((Below.refl _ w).al _).al _
  have hz0 : w.heap.size + 1 < ((w.alloc (.cells #[.string nm, .slice hA hs.length hc, .slice sA ss.length sc, .int .i64 gr, .int .i64 fr, .int .i64 dm, .int .i64 ms] 25)).alloc (.cells #[.string nm, .slice hA2 hs.length hc2, .slice sA2 ss.length sc2, .int .i64 gr, .int .i64 fr, .int .i64 dm, .int .i64 ms] 25)).heap.size := by simp
  have q1 : ((w.alloc (.cells #[.string nm, .slice hA hs.length hc, .slice sA ss.length sc, .int .i64 gr, .int .i64 fr, .int .i64 dm, .int .i64 ms] 25)).alloc (.cells #[.string nm, .slice hA2 hs.length hc2, .slice sA2 ss.length sc2, .int .i64 gr, .int .i64 fr, .int .i64 dm, .int .i64 ms] 25)).cell? ⟨w.heap.size, 1, none⟩ = some (.slice hA hs.length hc) := by simp
  have q2 : ((w.alloc (.cells #[.string nm, .slice hA hs.length hc, .slice sA ss.length sc, .int .i64 gr, .int .i64 fr, .int .i64 dm, .int .i64 ms] 25)).alloc (.cells #[.string nm, .slice hA2 hs.length hc2, .slice sA2 ss.length sc2, .int .i64 gr, .int .i64 fr, .int .i64 dm, .int .i64 ms] 25)).cell? ⟨w.heap.size, 2, none⟩ = some (.slice sA ss.length sc) := by simp
  have q3 : ((w.alloc (.cells #[.string nm, .slice hA hs.length hc, .slice sA ss.length sc, .int .i64 gr, .int .i64 fr, .int .i64 dm, .int .i64 ms] 25)).alloc (.cells #[.string nm, .slice hA2 hs.length hc2, .slice sA2 ss.length sc2, .int .i64 gr, .int .i64 fr, .int .i64 dm, .int .i64 ms] 25)).cell? ⟨w.heap.size + 1, 1, none⟩ = some (.slice hA2 hs.length hc2) := by simp
  have q4 : ((w.alloc (.cells #[.string nm, .slice hA hs.length hc, .slice sA ss.length sc, .int .i64 gr, .int .i64 fr, .int .i64 dm, .int .i64 ms] 25)).alloc (.cells #[.string nm, .slice hA2 hs.length hc2, .slice sA2 ss.length sc2, .int .i64 gr, .int .i64 fr, .int .i64 dm, .int .i64 ms] 25)).cell? ⟨w.heap.size + 1, 2, none⟩ = some (.slice sA2 ss.length sc2) := by simp
  go_enter Try.func18, Try.ntmps18
  go_wp2
  replace h1 := h1.keep hb0
  replace h2 := h2.keep hb0
  replace h3 := h3.keep hb0
  replace h4 := h4.keep hb0
  generalize (w.alloc (.cells #[.string nm, .slice hA hs.length hc, .slice sA ss.length sc, .int .i64 gr, .int .i64 fr, .int .i64 dm, .int .i64 ms] 25)).alloc (.cells #[.string nm, .slice hA2 hs.length hc2, .slice sA2 ss.length sc2, .int .i64 gr, .int .i64 fr, .int .i64 dm, .int .i64 ms] 25) = w1 at *
  go_loopw [5] (fun i wr => ∃ k : Nat, k ≤ hs.length ∧ i = .int .i64 k ∧ ∃ n, wr = w1.drewN n) (fun i _ => hs.length - (intOf i).toNat)
  case atStart => exact ⟨0, Nat.zero_le _, rfl, 0, rfl⟩
  case round =>
    obtain ⟨k, hk, rfl, n, rfl⟩ := hrel
    by_cases hi : k < hs.length
    · obtain ⟨b, off, x, y, z, rfl, hb, hx, d0, d1, d2⟩ := h1.w3 hi
      obtain ⟨b', off', x', y', z', rfl, hb', hx', e0, e1, e2⟩ := h3.w3 hi
      rw [hx] at hx'
      simp only [Option.some.injEq, Prod.mk.injEq] at hx'
      obtain ⟨rfl, rfl, rfl⟩ := hx'
      have hi1 : (0 : Int) ≤ (k : Int) := by omega
      have hi2 : (k : Int) < (hs.length : Int) := by omega
      clear hx h1 h2 h3 h4
      go_wp2_with fail
      go_quiet (fail)
      go_wp2
      go_roundw
      case rel => exact ⟨k + 1, by omega, by go_num, _, rfl⟩
      case measure => simp [intOf]; omega
    · obtain rfl : k = hs.length := by omega
      obtain ⟨wo, hwo⟩ : ∃ wo : World, wo = w1.drewN n := ⟨_, rfl⟩
      go_wp2
      go_loopw [6] (fun i wr => ∃ k : Nat, k ≤ ss.length ∧ i = .int .i64 k ∧ ∃ n, wr = w1.drewN n) (fun i _ => ss.length - (intOf i).toNat)
      case atStart => exact ⟨0, Nat.zero_le _, rfl, n, rfl⟩
      case round =>
        obtain ⟨k, hk, rfl, n2, rfl⟩ := hrel
        by_cases hi : k < ss.length
        · obtain ⟨b, off, x, y, z, rfl, hb, hx, d0, d1, d2⟩ := h2.w3 hi
          obtain ⟨b', off', x', y', z', rfl, hb', hx', e0, e1, e2⟩ := h4.w3 hi
          rw [hx] at hx'
          simp only [Option.some.injEq, Prod.mk.injEq] at hx'
          obtain ⟨rfl, rfl, rfl⟩ := hx'
          have hi1 : (0 : Int) ≤ (k : Int) := by omega
          have hi2 : (k : Int) < (ss.length : Int) := by omega
          clear hx h1 h2 h3 h4
          go_wp2_with fail
          go_quiet (fail)
          go_wp2
          go_roundw
          case rel => exact ⟨k + 1, by omega, by go_num, _, rfl⟩
          case measure => simp [intOf]; omega
        · obtain rfl : k = ss.length := by omega
          go_wp2
          go_ret
          exact ⟨rfl, below_drewN hb0 _⟩
end Go.Proofs.Ytppnkepjipglgaa
