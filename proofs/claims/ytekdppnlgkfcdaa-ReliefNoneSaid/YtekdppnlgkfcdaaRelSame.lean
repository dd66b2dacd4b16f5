/- SameNumbers, SameLines, SameCharge at equal values, walked. -/
import Derived.Test.YtekdppnlgkfcdaaJRelEnc
import Derived.BigQuiet
import Derived.IntWalk
namespace Go.Proofs.Ytekdppnlgkfcdaa
open Go.RowKit Go.Lib

set_option maxRecDepth 100000 in
set_option maxHeartbeats 4000000 in
theorem sameN_true {A A2 : Option Addr} (c c2 : Nat) {l : List Int} {w : World} (h1 : Rd encI 1 w w.heap.size A l) (h2 : Rd encI 1 w w.heap.size A2 l) (hl : l.length ≤ 9223372036854775807) :
    Calls Try.prog 15 #[.slice A l.length c, .slice A2 l.length c2] w fun e w' => e = .returned (.bool true) ∧ Below w.heap.size w w' := by
  have H1 := Lib.hid h1
  have H2 := Lib.hid h2
  clear h1 h2
  go_enter Try.func15, Try.ntmps15
  go_wp2
  go_loopw [5] (fun i wr => ∃ k : Nat, k ≤ l.length ∧ i = .int .i64 k ∧ ∃ n, wr = w.drewN n) (fun i _ => l.length - (intOf i).toNat)
  case atStart => exact ⟨0, Nat.zero_le _, rfl, 0, rfl⟩
  case round =>
    obtain ⟨k, hk, rfl, n, rfl⟩ := hrel
    by_cases hi : k < l.length
    · obtain ⟨b, off, x, rfl, hb, hx, d0⟩ := H1.out.i hi
      obtain ⟨b', off', x', rfl, hb', hx', e0⟩ := H2.out.i hi
      rw [hx] at hx'
      obtain rfl : x = x' := by simpa using hx'
      have hi1 : (0 : Int) ≤ (k : Int) := by omega
      have hi2 : (k : Int) < (l.length : Int) := by omega
      have HL := Lib.hid hi
      clear hx hx' hk hi
      go_wp2_with fail
      go_quiet (fail)
      go_wp2
      go_roundw
      case rel => exact ⟨k + 1, HL.out, by go_num, _, rfl⟩
      case measure => have := HL.out; simp [intOf]; omega
    · obtain rfl : k = l.length := by omega
      go_wp2
      go_ret
      exact ⟨rfl, below_drewN (Below.refl _ w) _⟩

set_option maxRecDepth 100000 in
set_option maxHeartbeats 4000000 in
theorem sameL_true {A A2 : Option Addr} (c c2 : Nat) {l : List Ln} {w : World} (h1 : Rd encLn 2 w w.heap.size A l) (h2 : Rd encLn 2 w w.heap.size A2 l) (hl : l.length ≤ 9223372036854775807) :
    Calls Try.prog 34 #[.slice A l.length c, .slice A2 l.length c2] w fun e w' => e = .returned (.bool true) ∧ Below w.heap.size w w' := by
  have H1 := Lib.hid h1
  have H2 := Lib.hid h2
  clear h1 h2
  go_enter Try.func34, Try.ntmps34
  go_wp2
  go_loopw [5] (fun i wr => ∃ k : Nat, k ≤ l.length ∧ i = .int .i64 k ∧ ∃ n, wr = w.drewN n) (fun i _ => l.length - (intOf i).toNat)
  case atStart => exact ⟨0, Nat.zero_le _, rfl, 0, rfl⟩
  case round =>
    obtain ⟨k, hk, rfl, n, rfl⟩ := hrel
    by_cases hi : k < l.length
    · obtain ⟨b, off, s, x, rfl, hb, hx, d0, d1⟩ := H1.out.ln hi
      obtain ⟨b', off', s', x', rfl, hb', hx', e0, e1⟩ := H2.out.ln hi
      rw [hx] at hx'
      simp only [Option.some.injEq, Prod.mk.injEq] at hx'
      obtain ⟨rfl, rfl⟩ := hx'
      have hi1 : (0 : Int) ≤ (k : Int) := by omega
      have hi2 : (k : Int) < (l.length : Int) := by omega
      have hn : (s.toList == s.toList) = true := by simp
      have HL := Lib.hid hi
      clear hx hk hi
      go_wp2_with fail
      go_quiet (fail)
      go_wp2
      go_roundw
      case rel => exact ⟨k + 1, HL.out, by go_num, _, rfl⟩
      case measure => have := HL.out; simp [intOf]; omega
    · obtain rfl : k = l.length := by omega
      go_wp2
      go_ret
      exact ⟨rfl, below_drewN (Below.refl _ w) _⟩

set_option maxRecDepth 100000 in
set_option maxHeartbeats 4000000 in
theorem sameC_true (c : CV) {A A2 : Option Addr} (cap cap2 : Nat) {w : World} (h1 : Rd encLn 2 w w.heap.size A c.lns) (h2 : Rd encLn 2 w w.heap.size A2 c.lns) (hl : c.lns.length ≤ 9223372036854775807) :
    Calls Try.prog 22 #[CHV c A cap, CHV c A2 cap2] w fun e w' => e = .returned (.bool true) ∧ Below w.heap.size w w' := by
  have CC := Lib.hid (fun (X : World) (hX : Below w.heap.size w X) => sameL_true cap cap2 (h1.st hX) (h2.st hX) hl)
  clear h1 h2
  obtain ⟨key, veh, sys, cls, tm, lns, ct⟩ := c
  simp only [CHV] at *
  obtain ⟨Y1, hY1⟩ : ∃ Y, w.alloc (.cells #[.string key, .string veh, .string sys, .int .i64 cls, .int .i64 tm, .slice A lns.length cap, .int .i64 ct] 64) = Y := ⟨_, rfl⟩
  have b1 : Below w.heap.size w Y1 := by rw [← hY1]; exact (Below.refl _ w).al _
  have S1 : Blk Y1 w.heap.size #[.string key, .string veh, .string sys, .int .i64 cls, .int .i64 tm, .slice A lns.length cap, .int .i64 ct] 64 := by rw [← hY1]; exact Blk.new w _ _
  obtain ⟨Y2, hY2⟩ : ∃ Y, Y1.alloc (.cells #[.string key, .string veh, .string sys, .int .i64 cls, .int .i64 tm, .slice A2 lns.length cap2, .int .i64 ct] 64) = Y := ⟨_, rfl⟩
  have b2 : Below w.heap.size w Y2 := by rw [← hY2]; exact b1.st ((Below.refl _ Y1).al _)
  have S1 : Blk Y2 w.heap.size #[.string key, .string veh, .string sys, .int .i64 cls, .int .i64 tm, .slice A lns.length cap, .int .i64 ct] 64 := by rw [← hY2]; exact S1.below ((Below.refl _ Y1).al _) S1.lt
  have S2 : Blk Y2 Y1.heap.size #[.string key, .string veh, .string sys, .int .i64 cls, .int .i64 tm, .slice A2 lns.length cap2, .int .i64 ct] 64 := by rw [← hY2]; exact Blk.new Y1 _ _
  have CC := Lib.hid (CC.out _ b2)
  have q0 : Y2.cell? ⟨w.heap.size, 0, none⟩ = some (.string key) := S1.cell 0 rfl
  have q1 : Y2.cell? ⟨w.heap.size, 1, none⟩ = some (.string veh) := S1.cell 1 rfl
  have q2 : Y2.cell? ⟨w.heap.size, 2, none⟩ = some (.string sys) := S1.cell 2 rfl
  have q3 : Y2.cell? ⟨w.heap.size, 3, none⟩ = some (.int .i64 cls) := S1.cell 3 rfl
  have q4 : Y2.cell? ⟨w.heap.size, 4, none⟩ = some (.int .i64 tm) := S1.cell 4 rfl
  have q5 : Y2.cell? ⟨w.heap.size, 5, none⟩ = some (.slice A lns.length cap) := S1.cell 5 rfl
  have q6 : Y2.cell? ⟨w.heap.size, 6, none⟩ = some (.int .i64 ct) := S1.cell 6 rfl
  have p0 : Y2.cell? ⟨Y1.heap.size, 0, none⟩ = some (.string key) := S2.cell 0 rfl
  have p1 : Y2.cell? ⟨Y1.heap.size, 1, none⟩ = some (.string veh) := S2.cell 1 rfl
  have p2 : Y2.cell? ⟨Y1.heap.size, 2, none⟩ = some (.string sys) := S2.cell 2 rfl
  have p3 : Y2.cell? ⟨Y1.heap.size, 3, none⟩ = some (.int .i64 cls) := S2.cell 3 rfl
  have p4 : Y2.cell? ⟨Y1.heap.size, 4, none⟩ = some (.int .i64 tm) := S2.cell 4 rfl
  have p5 : Y2.cell? ⟨Y1.heap.size, 5, none⟩ = some (.slice A2 lns.length cap2) := S2.cell 5 rfl
  have p6 : Y2.cell? ⟨Y1.heap.size, 6, none⟩ = some (.int .i64 ct) := S2.cell 6 rfl
  have k1 : (key.toList == key.toList) = true := by simp
  have k2 : (veh.toList == veh.toList) = true := by simp
  have k3 : (sys.toList == sys.toList) = true := by simp
  go_enter Try.func22, Try.ntmps22
  go_wp2_with (go_at_call 34; with_reducible refine (CC.out).mono ?_; rintro e w5 ⟨rfl, hb5⟩)
  go_ret
  exact ⟨rfl, b2.st hb5⟩
end Go.Proofs.Ytekdppnlgkfcdaa
