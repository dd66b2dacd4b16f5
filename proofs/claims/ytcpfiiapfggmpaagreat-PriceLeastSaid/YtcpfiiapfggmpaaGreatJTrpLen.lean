/- Joined texts: TrpLen, PrcSame. -/
import Derived.Test.YtcpfiiapfggmpaaGreatJTrpM
import Derived.Test.YtcpfiiapfggmpaaGreatJSumAny
import Derived.BigQuiet
import Derived.IntWalk
import Derived.Laws.StructEq
/- How many lines a trip's charge has. -/
namespace Go.Proofs.YtcpfiiapfggmpaaGreat
open Go.RowKit Go.Lib

theorem fold_len (l : List Dc) (n : Int) : ∀ (c : List Nat) (s : List Ln × Int), (c.foldl (stepL l n) s).1.length = s.1.length + c.length
  | [], s => by simp
  | i :: c, s => by rw [List.foldl_cons, fold_len l n c]; simp [stepL]; omega
theorem TripR.len {ts : List Ta} {qs : List Int} {dcs : List Dc} {xi xv xy : ByteArray} {cl : Int} {ss : List Stp} {lv er : Int} {v : CV} {e : Int} (h : TripR ts qs dcs xi xv xy cl ss lv er v e) : v.lns.length ≤ 2 + dcs.length := by
  cases h with
  | base _ _ _ => simp [zeroC]
  | ratio _ _ _ _ => simp [zeroC]
  | ok s0 b h0 h1 h2 h3 =>
    have h4 := h3.1.len
    have h5 := appL_len xy cl s0.t er dcs
    have h6 := stpL_len (baseM ts cl ss).1 (nearP (baseM ts cl ss).1 (partM qs lv)).1
    have h7 := fold_len (appL xy cl s0.t er dcs) (nearP (baseM ts cl ss).1 (partM qs lv)).1 b ([], (nearP (baseM ts cl ss).1 (partM qs lv)).1)
    show (trpL _ _ _ _).length ≤ _
    unfold trpL
    rw [List.length_cons, List.length_append]
    unfold lnsS
    rw [h7]
    simp
    omega
end Go.Proofs.YtcpfiiapfggmpaaGreat
/- The reference's One and Same at equal values, walked. -/
set_option linter.unusedSimpArgs false
set_option linter.unusedSimpArgs false
namespace Go.Proofs.YtcpfiiapfggmpaaGreat
open Go.RowKit Go.Lib

set_option maxRecDepth 100000 in
set_option maxHeartbeats 4000000 in
theorem rone_true (c : CV) {A A2 : Option Addr} (cap cap2 : Nat) {w : World} (h1 : Rd encLn 2 w w.heap.size A c.lns) (h2 : Rd encLn 2 w w.heap.size A2 c.lns) (hl : c.lns.length ≤ 9223372036854775807) :
    Calls Tryz.prog 16 #[CHV c A cap, CHV c A2 cap2] w fun e w' => e = .returned (.bool true) ∧ Below w.heap.size w w' := by
  have H1 := Lib.hid h1
  have H2 := Lib.hid h2
  clear h1 h2
  obtain ⟨key, veh, sys, cls, tm, lns, ct⟩ := c
  simp only [CHV] at *
  obtain ⟨Y1, hY1⟩ : ∃ Y, w.alloc (.cells #[.string key, .string veh, .string sys, .int .i64 cls, .int .i64 tm, .slice A lns.length cap, .int .i64 ct] 66) = Y := ⟨_, rfl⟩
  have b1 : Below w.heap.size w Y1 := by rw [← hY1]; exact (Below.refl _ w).al _
  have S1 : Blk Y1 w.heap.size #[.string key, .string veh, .string sys, .int .i64 cls, .int .i64 tm, .slice A lns.length cap, .int .i64 ct] 66 := by rw [← hY1]; exact Blk.new w _ _
  obtain ⟨Y2, hY2⟩ : ∃ Y, Y1.alloc (.cells #[.string key, .string veh, .string sys, .int .i64 cls, .int .i64 tm, .slice A2 lns.length cap2, .int .i64 ct] 66) = Y := ⟨_, rfl⟩
  have b2 : Below w.heap.size w Y2 := by rw [← hY2]; exact b1.st ((Below.refl _ Y1).al _)
  have S1 : Blk Y2 w.heap.size #[.string key, .string veh, .string sys, .int .i64 cls, .int .i64 tm, .slice A lns.length cap, .int .i64 ct] 66 := by rw [← hY2]; exact S1.below ((Below.refl _ Y1).al _) S1.lt
  have S2 : Blk Y2 Y1.heap.size #[.string key, .string veh, .string sys, .int .i64 cls, .int .i64 tm, .slice A2 lns.length cap2, .int .i64 ct] 66 := by rw [← hY2]; exact Blk.new Y1 _ _
  have q0 : Y2.cell? ⟨w.heap.size, 0, none⟩ = some (.string key) := S1.cell 0 rfl
  have q1 : Y2.cell? ⟨w.heap.size, 1, none⟩ = some (.string veh) := S1.cell 1 rfl
  have q2 : Y2.cell? ⟨w.heap.size, 2, none⟩ = some (.string sys) := S1.cell 2 rfl
  have q3 : Y2.cell? ⟨w.heap.size, 3, none⟩ = some (.int .i64 cls) := S1.cell 3 rfl
  have q4 : Y2.cell? ⟨w.heap.size, 4, none⟩ = some (.int .i64 tm) := S1.cell 4 rfl
  have q5 : Y2.cell? ⟨w.heap.size, 5, none⟩ = some (.slice A lns.length cap) := S1.cell 5 rfl
  have q6 : Y2.cell? ⟨w.heap.size, 6, none⟩ = some (.int .i64 ct) := S1.cell 6 rfl
  have p0 : Y2.cell? ⟨Y1.heap.size, 0, none⟩ = some (.string key) := S2.cell 0 rfl
  have p1 : Y2.cell? ⟨Y1.heap.size, 1, none⟩ = some (.string veh) := S2.cell 1 rfl
  have p2 : Y2.cell? ⟨Y1.heap.size, 2, none⟩ = some (.string sys) := S2.cell 2 rfl
  have p3 : Y2.cell? ⟨Y1.heap.size, 3, none⟩ = some (.int .i64 cls) := S2.cell 3 rfl
  have p4 : Y2.cell? ⟨Y1.heap.size, 4, none⟩ = some (.int .i64 tm) := S2.cell 4 rfl
  have p5 : Y2.cell? ⟨Y1.heap.size, 5, none⟩ = some (.slice A2 lns.length cap2) := S2.cell 5 rfl
  have p6 : Y2.cell? ⟨Y1.heap.size, 6, none⟩ = some (.int .i64 ct) := S2.cell 6 rfl
  have k1 : (key.toList == key.toList) = true := by simp
  have k2 : (veh.toList == veh.toList) = true := by simp
  have k3 : (sys.toList == sys.toList) = true := by simp
  go_enter Tryz.func16, Tryz.ntmps16
  go_wp2_with fail
  go_loopw [5] (fun i wr => ∃ k : Nat, k ≤ lns.length ∧ i = .int .i64 k ∧ ∃ n, wr = Y2.drewN n) (fun i _ => lns.length - (RowKit.intOf i).toNat)
  case atStart => exact ⟨0, Nat.zero_le _, rfl, 0, rfl⟩
  case round =>
    obtain ⟨k, hk, rfl, n, rfl⟩ := hrel
    by_cases hi : k < lns.length
    · obtain ⟨b, off, s, m, rfl, hb, hx, d0, d1⟩ := (H1.out.st b2).ln hi
      obtain ⟨b', off', s', m', rfl, hb', hx', e0, e1⟩ := (H2.out.st b2).ln hi
      rw [hx] at hx'
      simp only [Option.some.injEq, Prod.mk.injEq] at hx'
      obtain ⟨rfl, rfl⟩ := hx'
      have hi1 : (0 : Int) ≤ (k : Int) := by omega
      have hi2 : (k : Int) < (lns.length : Int) := by omega
      have hn : (s.toList == s.toList) = true := by simp
      have HL := Lib.hid hi
      clear hx hk hi
      go_wp2_with fail
      go_quiet (fail)
      go_wp2_with fail
      go_roundw
      case rel => exact ⟨k + 1, HL.out, by go_num, _, rfl⟩
      case measure => have := HL.out; simp [RowKit.intOf]; omega
    · obtain rfl : k = lns.length := by omega
      go_wp2_with fail
      go_ret
      exact ⟨rfl, below_drewN b2 _⟩

end Go.Proofs.YtcpfiiapfggmpaaGreat
