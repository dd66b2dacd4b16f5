/- Joined texts: PrcSame, PrcBase, PrcStay0. -/
import Derived.Test.YtcpfiiapfggmpaaGreatJSumAny
import Derived.BigQuiet
import Derived.IntWalk
import Derived.Laws.StructEq
import Derived.Test.YtcpfiiapfggmpaaGreatPrcTf
import Derived.Test.YtcpfiiapfggmpaaGreatZoneFind
/- The reference's One and Same at equal values, walked. -/
set_option linter.unusedSimpArgs false
set_option linter.unusedSimpArgs false
namespace Go.Proofs.YtcpfiiapfggmpaaGreat
open Go.RowKit Go.Lib

set_option maxRecDepth 100000 in
set_option maxHeartbeats 4000000 in
theorem rone_true (c : CV) {A A2 : Option Addr} (cap cap2 : Nat) {w : World} (h1 : Rd encLn 2 w w.heap.size A c.lns) (h2 : Rd encLn 2 w w.heap.size A2 c.lns) (hl : c.lns.length ≤ 9223372036854775807) :
    Calls Tryz.prog 16 #[CHV c A cap, CHV c A2 cap2] w fun e w' => e = .returned (.bool true) ∧ Below w.heap.size w w' := by
  have H1 := Lib.hid h1
  have H2 := Lib.hid h2
  clear h1 h2
  obtain ⟨key, veh, sys, cls, tm, lns, ct⟩ := c
  simp only [CHV] at *
  obtain ⟨Y1, hY1⟩ : ∃ Y, w.alloc (.cells #[.string key, .string veh, .string sys, .int .i64 cls, .int .i64 tm, .slice A lns.length cap, .int .i64 ct] 66) = Y := ⟨_, rfl⟩
  have b1 : Below w.heap.size w Y1 := by rw [← hY1]; exact (Below.refl _ w).al _
  have S1 : Blk Y1 w.heap.size #[.string key, .string veh, .string sys, .int .i64 cls, .int .i64 tm, .slice A lns.length cap, .int .i64 ct] 66 := by rw [← hY1]; exact Blk.new w _ _
  obtain ⟨Y2, hY2⟩ : ∃ Y, Y1.alloc (.cells #[.string key, .string veh, .string sys, .int .i64 cls, .int .i64 tm, .slice A2 lns.length cap2, .int .i64 ct] 66) = Y := ⟨_, rfl⟩
  have b2 : Below w.heap.size w Y2 := by rw [← hY2]; exact b1.st ((Below.refl _ Y1).al _)
  have S1 : Blk Y2 w.heap.size #[.string key, .string veh, .string sys, .int .i64 cls, .int .i64 tm, .slice A lns.length cap, .int .i64 ct] 66 := by rw [← hY2]; exact S1.below ((Below.refl _ Y1).al _) S1.lt
  have S2 : Blk Y2 Y1.heap.size #[.string key, .string veh, .string sys, .int .i64 cls, .int .i64 tm, .slice A2 lns.length cap2, .int .i64 ct] 66 := by rw [← hY2]; exact Blk.new Y1 _ _
  have q0 : Y2.cell? ⟨w.heap.size, 0, none⟩ = some (.string key) := S1.cell 0 rfl
  have q1 : Y2.cell? ⟨w.heap.size, 1, none⟩ = some (.string veh) := S1.cell 1 rfl
  have q2 : Y2.cell? ⟨w.heap.size, 2, none⟩ = some (.string sys) := S1.cell 2 rfl
  have q3 : Y2.cell? ⟨w.heap.size, 3, none⟩ = some (.int .i64 cls) := S1.cell 3 rfl
  have q4 : Y2.cell? ⟨w.heap.size, 4, none⟩ = some (.int .i64 tm) := S1.cell 4 rfl
  have q5 : Y2.cell? ⟨w.heap.size, 5, none⟩ = some (.slice A lns.length cap) := S1.cell 5 rfl
  have q6 : Y2.cell? ⟨w.heap.size, 6, none⟩ = some (.int .i64 ct) := S1.cell 6 rfl
  have p0 : Y2.cell? ⟨Y1.heap.size, 0, none⟩ = some (.string key) := S2.cell 0 rfl
  have p1 : Y2.cell? ⟨Y1.heap.size, 1, none⟩ = some (.string veh) := S2.cell 1 rfl
  have p2 : Y2.cell? ⟨Y1.heap.size, 2, none⟩ = some (.string sys) := S2.cell 2 rfl
  have p3 : Y2.cell? ⟨Y1.heap.size, 3, none⟩ = some (.int .i64 cls) := S2.cell 3 rfl
  have p4 : Y2.cell? ⟨Y1.heap.size, 4, none⟩ = some (.int .i64 tm) := S2.cell 4 rfl
  have p5 : Y2.cell? ⟨Y1.heap.size, 5, none⟩ = some (.slice A2 lns.length cap2) := S2.cell 5 rfl
  have p6 : Y2.cell? ⟨Y1.heap.size, 6, none⟩ = some (.int .i64 ct) := S2.cell 6 rfl
  have k1 : (key.toList == key.toList) = true := by simp
  have k2 : (veh.toList == veh.toList) = true := by simp
  have k3 : (sys.toList == sys.toList) = true := by simp
  go_enter Tryz.func16, Tryz.ntmps16
  go_wp2_with fail
  go_loopw [5] (fun i wr => ∃ k : Nat, k ≤ lns.length ∧ i = .int .i64 k ∧ ∃ n, wr = Y2.drewN n) (fun i _ => lns.length - (RowKit.intOf i).toNat)
  case atStart => exact ⟨0, Nat.zero_le _, rfl, 0, rfl⟩
  case round =>
    obtain ⟨k, hk, rfl, n, rfl⟩ := hrel
    by_cases hi : k < lns.length
    · obtain ⟨b, off, s, m, rfl, hb, hx, d0, d1⟩ := (H1.out.st b2).ln hi
      obtain ⟨b', off', s', m', rfl, hb', hx', e0, e1⟩ := (H2.out.st b2).ln hi
      rw [hx] at hx'
      simp only [Option.some.injEq, Prod.mk.injEq] at hx'
      obtain ⟨rfl, rfl⟩ := hx'
      have hi1 : (0 : Int) ≤ (k : Int) := by omega
      have hi2 : (k : Int) < (lns.length : Int) := by omega
      have hn : (s.toList == s.toList) = true := by simp
      have HL := Lib.hid hi
      clear hx hk hi
      go_wp2_with fail
      go_quiet (fail)
      go_wp2_with fail
      go_roundw
      case rel => exact ⟨k + 1, HL.out, by go_num, _, rfl⟩
      case measure => have := HL.out; simp [RowKit.intOf]; omega
    · obtain rfl : k = lns.length := by omega
      go_wp2_with fail
      go_ret
      exact ⟨rfl, below_drewN b2 _⟩

end Go.Proofs.YtcpfiiapfggmpaaGreat
/- price.Base as the awake test meets it, walked. -/
set_option linter.unusedSimpArgs false
namespace Go.Proofs.YtcpfiiapfggmpaaGreat
open Go.RowKit Go.Lib

set_option maxRecDepth 100000 in
set_option maxHeartbeats 4000000 in
theorem pbase_none {tA zA : Option Addr} {tc zc : Nat} (w : World) :
    Calls Tryz.prog 11 #[.agg #[.slice none 0 0, .slice none 0 0, .slice none 0 0, .slice none 0 0, .slice none 0 0, .slice none 0 0, .int .i64 0, .int .i64 0, .slice tA 1 tc, .int .i64 0, .slice none 0 0, .slice none 0 0, .slice none 0 0, .slice none 0 0, .slice none 0 0, .slice zA 1 zc, .slice none 0 0, .slice none 0 0, .slice none 0 0, .slice none 0 0, .slice none 0 0, .slice none 0 0, .int .i64 0, .slice none 0 0, .string ⟨#[]⟩], .agg #[.string ⟨#[]⟩, .string ⟨#[]⟩, .string ⟨#[]⟩, .int .i64 0, .slice none 0 0]] w fun e w' => e = .returned (.tuple #[.int .i64 0, .int .i64 1]) ∧ Below w.heap.size w w' := by
  go_enter Tryz.func11, Tryz.ntmps11
  go_wp2
  go_ret2
  exact ⟨rfl, ((Below.refl _ _).al _).al _⟩

set_option maxRecDepth 100000 in
set_option maxHeartbeats 4000000 in
theorem pbase_one {tb sb : Nat} {ra : Addr} {zA : Option Addr} {tc sc zc rc : Nat} {w : World} (htb : tb < w.heap.size) (hsb : sb < w.heap.size)
    (h0 : w.cell? ⟨tb, 0, none⟩ = some (.int .i64 0)) (h1 : w.cell? ⟨tb, 1, none⟩ = some (.int .i64 1000)) (h2 : w.cell? ⟨tb, 2, none⟩ = some (.slice none 0 0)) (h3 : w.cell? ⟨tb, 3, none⟩ = some (.slice (some ra) 1 rc))
    (k0 : w.cell? ⟨sb, 0, none⟩ = some (.string ⟨#[111]⟩)) (k1 : w.cell? ⟨sb, 1, none⟩ = some (.int .i64 100)) (k2 : w.cell? ⟨sb, 2, none⟩ = some (.string ⟨#[99, 49, 46, 53]⟩))
    (hr : Rd encRt 5 w w.heap.size (some ra) [⟨⟨#[111]⟩, ⟨#[]⟩, 1, ⟨#[]⟩, 400⟩]) :
    Calls Tryz.prog 11 #[.agg #[.slice none 0 0, .slice none 0 0, .slice none 0 0, .slice none 0 0, .slice none 0 0, .slice none 0 0, .int .i64 0, .int .i64 0, .slice (some ⟨tb, 0, none⟩) 1 tc, .int .i64 0, .slice none 0 0, .slice none 0 0, .slice none 0 0, .slice none 0 0, .slice none 0 0, .slice zA 1 zc, .slice none 0 0, .slice none 0 0, .slice none 0 0, .slice none 0 0, .slice none 0 0, .slice none 0 0, .int .i64 0, .slice none 0 0, .string ⟨#[]⟩], .agg #[.string ⟨#[99, 49, 46, 53]⟩, .string ⟨#[65, 66, 49, 50]⟩, .string ⟨#[109]⟩, .int .i64 1, .slice (some ⟨sb, 0, none⟩) 1 sc]] w fun e w' => e = .returned (.tuple #[.int .i64 400, .int .i64 0]) ∧ Below w.heap.size w w' := by
  obtain ⟨Y1, hY1⟩ : ∃ Y, w.alloc (.cells #[.slice none 0 0, .slice none 0 0, .slice none 0 0, .slice none 0 0, .slice none 0 0, .slice none 0 0, .int .i64 0, .int .i64 0, .slice (some ⟨tb, 0, none⟩) 1 tc, .int .i64 0, .slice none 0 0, .slice none 0 0, .slice none 0 0, .slice none 0 0, .slice none 0 0, .slice zA 1 zc, .slice none 0 0, .slice none 0 0, .slice none 0 0, .slice none 0 0, .slice none 0 0, .slice none 0 0, .int .i64 0, .slice none 0 0, .string ⟨#[]⟩] 46) = Y := ⟨_, rfl⟩
  obtain ⟨Y2, hY2⟩ : ∃ Y, Y1.alloc (.cells #[.string ⟨#[99, 49, 46, 53]⟩, .string ⟨#[65, 66, 49, 50]⟩, .string ⟨#[109]⟩, .int .i64 1, .slice (some ⟨sb, 0, none⟩) 1 sc] 49) = Y := ⟨_, rfl⟩
  obtain ⟨Y3, hY3⟩ : ∃ Y, Y2.alloc (.cells #[.string ⟨#[111]⟩, .int .i64 100, .string ⟨#[99, 49, 46, 53]⟩] 109) = Y := ⟨_, rfl⟩
  have b1 : Below w.heap.size w Y1 := by rw [← hY1]; exact (Below.refl _ w).al _
  have b2 : Below w.heap.size w Y2 := by rw [← hY2]; exact b1.al _
  have b3 : Below w.heap.size w Y3 := by rw [← hY3]; exact b2.al _
  have B1 : Blk Y3 w.heap.size #[.slice none 0 0, .slice none 0 0, .slice none 0 0, .slice none 0 0, .slice none 0 0, .slice none 0 0, .int .i64 0, .int .i64 0, .slice (some ⟨tb, 0, none⟩) 1 tc, .int .i64 0, .slice none 0 0, .slice none 0 0, .slice none 0 0, .slice none 0 0, .slice none 0 0, .slice zA 1 zc, .slice none 0 0, .slice none 0 0, .slice none 0 0, .slice none 0 0, .slice none 0 0, .slice none 0 0, .int .i64 0, .slice none 0 0, .string ⟨#[]⟩] 46 := by rw [← hY3, ← hY2, ← hY1]; exact ((Blk.new w _ _).alloc _).alloc _
  have B2 : Blk Y3 Y1.heap.size #[.string ⟨#[99, 49, 46, 53]⟩, .string ⟨#[65, 66, 49, 50]⟩, .string ⟨#[109]⟩, .int .i64 1, .slice (some ⟨sb, 0, none⟩) 1 sc] 49 := by rw [← hY3, ← hY2]; exact (Blk.new Y1 _ _).alloc _
  have B22 : Blk Y2 Y1.heap.size #[.string ⟨#[99, 49, 46, 53]⟩, .string ⟨#[65, 66, 49, 50]⟩, .string ⟨#[109]⟩, .int .i64 1, .slice (some ⟨sb, 0, none⟩) 1 sc] 49 := by rw [← hY2]; exact Blk.new Y1 _ _
  have B3 : Blk Y3 Y2.heap.size #[.string ⟨#[111]⟩, .int .i64 100, .string ⟨#[99, 49, 46, 53]⟩] 109 := by rw [← hY3]; exact Blk.new Y2 _ _
  have t4 := B22.cell 4 (v := .slice (some ⟨sb, 0, none⟩) 1 sc) rfl
  have u4 := B2.cell 4 (v := .slice (some ⟨sb, 0, none⟩) 1 sc) rfl
  have j0 := (b2.cell (p := ⟨sb, 0, none⟩) hsb).trans k0
  have j1 := (b2.cell (p := ⟨sb, 1, none⟩) hsb).trans k1
  have j2 := (b2.cell (p := ⟨sb, 2, none⟩) hsb).trans k2
  have c8 := B1.cell 8 (v := .slice (some ⟨tb, 0, none⟩) 1 tc) rfl
  have s1 := B3.cell 1 (v := .int .i64 100) rfl
  have CA := Lib.hid (tat_one (rs := [⟨⟨#[111]⟩, ⟨#[]⟩, 1, ⟨#[]⟩, 400⟩]) (b := tb) (off := 0) (a := ra) (rc := rc) (c := tc) ((b3.cell (p := ⟨tb, 0, none⟩) htb).trans h0) ((b3.cell (p := ⟨tb, 1, none⟩) htb).trans h1) ((b3.cell (p := ⟨tb, 2, none⟩) htb).trans h2) ((b3.cell (p := ⟨tb, 3, none⟩) htb).trans h3) (Nat.lt_of_lt_of_le htb b3.size) (hr.st b3) (by simp))
  clear h0 h1 h2 h3 k0 k1 k2 hr htb hsb b1 b2 B22
  go_enter Tryz.func11, Tryz.ntmps11
  go_wp2_with fail
  refine CA.out.mono ?_
  rintro e W4 ⟨A9, c9, rfl, hown, hbn⟩
  have b4 := b3.st hbn
  have B2 := B2.below hbn B2.lt
  have B3 := B3.below hbn B3.lt
  obtain ⟨W5, hW5⟩ : ∃ Y, W4.alloc (.cells #[.int .i64 0, .int .i64 1000, .slice none 0 0, .slice A9 1 c9] 104) = Y := ⟨_, rfl⟩
  have hb5 : Below W4.heap.size W4 W5 := by rw [← hW5]; exact (Below.refl _ _).al _
  have b5 := b4.st hb5
  have B2 := B2.below hb5 B2.lt
  have B3 := B3.below hb5 B3.lt
  have B5 : Blk W5 W4.heap.size #[.int .i64 0, .int .i64 1000, .slice none 0 0, .slice A9 1 c9] 104 := by rw [← hW5]; exact Blk.new W4 _ _
  have CR := Lib.hid (trate_one (rc := c9) ((hown.rd encRt_ok).st hb5))
  have v0 := B5.cell 0 (v := .int .i64 0) rfl
  have v1 := B5.cell 1 (v := .int .i64 1000) rfl
  have v2 := B5.cell 2 (v := .slice none 0 0) rfl
  have v3 := B5.cell 3 (v := .slice A9 1 c9) rfl
  have s0 := B3.cell 0 (v := .string ⟨#[111]⟩) rfl
  have s1 := B3.cell 1 (v := .int .i64 100) rfl
  have u3 := B2.cell 3 (v := .int .i64 1) rfl
  clear hbn hown CA B1 t4 u4 j0 j1 j2 c8
  go_wp2_with fail
  refine CR.out.mono ?_
  rintro e W6 ⟨rfl, hbn⟩
  have b6 := b5.st hbn
  go_wp2_with fail
  go_ret2
  exact ⟨rfl, b6⟩
end Go.Proofs.YtcpfiiapfggmpaaGreat
/- price.Stay as the awake test meets it, walked. -/
set_option linter.unusedSimpArgs false
namespace Go.Proofs.YtcpfiiapfggmpaaGreat
open Go.RowKit Go.Lib

def z1 : Zn := ⟨⟨#[122]⟩, none, 0, [], none, 0, [], 0, 0, 0, 0⟩
theorem z1_find : findZ [z1] ⟨#[122]⟩ = some z1 := by kernel_rfl
theorem k_eq : (⟨#[112, 58]⟩ : ByteArray) ++ (⟨#[115]⟩ : ByteArray) = ⟨#[112, 58, 115]⟩ := by rfl
set_option maxRecDepth 100000 in
set_option maxHeartbeats 4000000 in
theorem pstay_one {zb : Nat} {tA : Option Addr} {tc zc_ : Nat} {w : World} (hr : Rd encZ 7 w w.heap.size (some ⟨zb, 0, none⟩) [z1]) :
    Calls Tryz.prog 14 #[.agg #[.slice none 0 0, .slice none 0 0, .slice none 0 0, .slice none 0 0, .slice none 0 0, .slice none 0 0, .int .i64 0, .int .i64 0, .slice tA 1 tc, .int .i64 0, .slice none 0 0, .slice none 0 0, .slice none 0 0, .slice none 0 0, .slice none 0 0, .slice (some ⟨zb, 0, none⟩) 1 zc_, .slice none 0 0, .slice none 0 0, .slice none 0 0, .slice none 0 0, .slice none 0 0, .slice none 0 0, .int .i64 0, .slice none 0 0, .string ⟨#[]⟩], .agg #[.string ⟨#[115]⟩, .string ⟨#[122]⟩, .string ⟨#[65, 66, 49, 50]⟩, .int .i64 5, .int .i64 9], .slice none 0 0] w fun e w' => e = .returned (.tuple #[.agg #[.string ⟨#[112, 58, 115]⟩, .string ⟨#[65, 66, 49, 50]⟩, .string ⟨#[122]⟩, .int .i64 0, .int .i64 9, .slice none 0 0, .int .i64 0], .int .i64 0]) ∧ Below w.heap.size w w' := by
  obtain ⟨Y1, hY1⟩ : ∃ Y, w.alloc (.cells #[.slice none 0 0, .slice none 0 0, .slice none 0 0, .slice none 0 0, .slice none 0 0, .slice none 0 0, .int .i64 0, .int .i64 0, .slice tA 1 tc, .int .i64 0, .slice none 0 0, .slice none 0 0, .slice none 0 0, .slice none 0 0, .slice none 0 0, .slice (some ⟨zb, 0, none⟩) 1 zc_, .slice none 0 0, .slice none 0 0, .slice none 0 0, .slice none 0 0, .slice none 0 0, .slice none 0 0, .int .i64 0, .slice none 0 0, .string ⟨#[]⟩] 46) = Y := ⟨_, rfl⟩
  obtain ⟨Y2, hY2⟩ : ∃ Y, Y1.alloc (.cells #[.string ⟨#[115]⟩, .string ⟨#[122]⟩, .string ⟨#[65, 66, 49, 50]⟩, .int .i64 5, .int .i64 9] 61) = Y := ⟨_, rfl⟩
  obtain ⟨Y3, hY3⟩ : ∃ Y, Y2.alloc (.cells #[.string ⟨#[]⟩, .string ⟨#[]⟩, .string ⟨#[]⟩, .int .i64 0, .int .i64 0, .slice none 0 0, .int .i64 0] 66) = Y := ⟨_, rfl⟩
  have b1 : Below w.heap.size w Y1 := by rw [← hY1]; exact (Below.refl _ w).al _
  have b2 : Below w.heap.size w Y2 := by rw [← hY2]; exact b1.al _
  have b3 : Below w.heap.size w Y3 := by rw [← hY3]; exact b2.al _
  have B1 : Blk Y3 w.heap.size #[.slice none 0 0, .slice none 0 0, .slice none 0 0, .slice none 0 0, .slice none 0 0, .slice none 0 0, .int .i64 0, .int .i64 0, .slice tA 1 tc, .int .i64 0, .slice none 0 0, .slice none 0 0, .slice none 0 0, .slice none 0 0, .slice none 0 0, .slice (some ⟨zb, 0, none⟩) 1 zc_, .slice none 0 0, .slice none 0 0, .slice none 0 0, .slice none 0 0, .slice none 0 0, .slice none 0 0, .int .i64 0, .slice none 0 0, .string ⟨#[]⟩] 46 := by rw [← hY3, ← hY2, ← hY1]; exact ((Blk.new w _ _).alloc _).alloc _
  have B2 : Blk Y3 Y1.heap.size #[.string ⟨#[115]⟩, .string ⟨#[122]⟩, .string ⟨#[65, 66, 49, 50]⟩, .int .i64 5, .int .i64 9] 61 := by rw [← hY3, ← hY2]; exact (Blk.new Y1 _ _).alloc _
  have B3 : Blk Y3 Y2.heap.size #[.string ⟨#[]⟩, .string ⟨#[]⟩, .string ⟨#[]⟩, .int .i64 0, .int .i64 0, .slice none 0 0, .int .i64 0] 66 := by rw [← hY3]; exact Blk.new Y2 _ _
  have c15 := B1.cell 15 (v := .slice (some ⟨zb, 0, none⟩) 1 zc_) rfl
  have q1 := B2.cell 1 (v := .string ⟨#[122]⟩) rfl
  have CF := Lib.hid (zfind_any (l := [z1]) zc_ (nm := ⟨#[122]⟩) (hr.st b3) (by intro z hz; rw [List.mem_singleton] at hz; subst hz; exact ⟨Rd.nil, Rd.nil⟩) (by intro z hz; rw [List.mem_singleton] at hz; subst hz; exact ⟨by simp [z1], by simp [z1]⟩) (by simp))
  have s1 : Y1.heap.size = w.heap.size + 1 := by rw [← hY1]; simp
  have s2 : Y2.heap.size = Y1.heap.size + 1 := by rw [← hY2]; simp
  have S3 : Hid (w.heap.size < Y2.heap.size) := Lib.hid (by omega)
  clear s1 s2
  clear hr b1 b2
  go_enter Tryz.func14, Tryz.ntmps14
  go_wp2_with fail
  refine CF.out.mono ?_
  rintro e W4 ⟨z, rfl, hz, -, hbn⟩
  rw [z1_find] at hz ⊢
  have b4 := b3.st hbn
  have B2 := B2.below hbn B2.lt
  have B3 := B3.below hbn B3.lt
  have hnm : z.name = ⟨#[122]⟩ := congrArg Prod.fst hz
  simp only [ZV, hnm]
  have q0 := B2.cell 0 (v := .string ⟨#[115]⟩) rfl
  have q2 := B2.cell 2 (v := .string ⟨#[65, 66, 49, 50]⟩) rfl
  have q4 := B2.cell 4 (v := .int .i64 9) rfl
  obtain ⟨W5, hW5⟩ : ∃ Y, W4.alloc (.cells #[.string ⟨#[122]⟩, .slice z.hA z.hs.length z.hc, .slice z.sA z.ss.length z.sc, .int .i64 z.grace, .int .i64 z.free, .int .i64 z.dayMax, .int .i64 z.maxStay] 76) = Y := ⟨_, rfl⟩
  have hb5 : Below W4.heap.size W4 W5 := by rw [← hW5]; exact (Below.refl _ _).al _
  have b5 := b4.st hb5
  have B2 := B2.below hb5 B2.lt
  have B3 := B3.below hb5 B3.lt
  have B5 : Blk W5 W4.heap.size #[.string ⟨#[122]⟩, .slice z.hA z.hs.length z.hc, .slice z.sA z.ss.length z.sc, .int .i64 z.grace, .int .i64 z.free, .int .i64 z.dayMax, .int .i64 z.maxStay] 76 := by rw [← hW5]; exact Blk.new W4 _ _
  have q0 := B2.cell 0 (v := .string ⟨#[115]⟩) rfl
  have q2 := B2.cell 2 (v := .string ⟨#[65, 66, 49, 50]⟩) rfl
  have q4 := B2.cell 4 (v := .int .i64 9) rfl
  have z0 := B5.cell 0 (v := .string ⟨#[122]⟩) rfl
  clear hY1 hY2 hY3
  go_wp2
  obtain ⟨W6, hW6⟩ : ∃ Y, W5.alloc (.cells #[.string ((⟨#[112, 58]⟩ : ByteArray) ++ (⟨#[115]⟩ : ByteArray)), .string ⟨#[65, 66, 49, 50]⟩, .string ⟨#[122]⟩, .int .i64 0, .int .i64 9, .slice none 0 0, .int .i64 0] 66) = Y := ⟨_, rfl⟩
  rw [hW6]
  have hb6 : Below W5.heap.size W5 W6 := by rw [← hW6]; exact (Below.refl _ _).al _
  have b6 := b5.st hb6
  have B3 := B3.below hb6 B3.lt
  have B6 : Blk W6 W5.heap.size #[.string ((⟨#[112, 58]⟩ : ByteArray) ++ (⟨#[115]⟩ : ByteArray)), .string ⟨#[65, 66, 49, 50]⟩, .string ⟨#[122]⟩, .int .i64 0, .int .i64 9, .slice none 0 0, .int .i64 0] 66 := by rw [← hW6]; exact Blk.new W5 _ _
  clear hbn CF B1 c15 q1 hz hnm
  refine wp_loop_rounds 1 ?_
  rw [rounds_succ]
  go_wp2_with (first | (refine wpList_boxLoad rfl (ty := 66) (x := .tmp 10) (cs := #[.string ((⟨#[112, 58]⟩ : ByteArray) ++ (⟨#[115]⟩ : ByteArray)), .string ⟨#[65, 66, 49, 50]⟩, .string ⟨#[122]⟩, .int .i64 0, .int .i64 9, .slice none 0 0, .int .i64 0]) rfl B6 rfl ⟨_, Tryz.underlying66, by kernel_rfl⟩ ?_) | (refine wpList_boxStore rfl (ty := 66) (x := .tmp 6) (y := .tmp 77) (cells := #[.string ((⟨#[112, 58]⟩ : ByteArray) ++ (⟨#[115]⟩ : ByteArray)), .string ⟨#[65, 66, 49, 50]⟩, .string ⟨#[122]⟩, .int .i64 0, .int .i64 9, .slice none 0 0, .int .i64 0]) rfl B3 rfl rfl (by kernel_rfl) rfl (by kernel_rfl) ?_; intro w7 B7 hoz hbz))
  (try simp only [Exit.inBlock, Exit.then])
  refine bodyPost_ret (v := .tuple #[.agg #[.string ((⟨#[112, 58]⟩ : ByteArray) ++ (⟨#[115]⟩ : ByteArray)), .string ⟨#[65, 66, 49, 50]⟩, .string ⟨#[122]⟩, .int .i64 0, .int .i64 9, .slice none 0 0, .int .i64 0], .int .i64 0]) ?_ rfl ⟨by rw [k_eq], hbz _ _ (by have := S3.out; omega) b6⟩
  exact results_box_tmp Tryz.results14 _ (.int .i64 0) rfl rfl B7 ⟨_, Tryz.underlying66, by kernel_rfl⟩
end Go.Proofs.YtcpfiiapfggmpaaGreat
