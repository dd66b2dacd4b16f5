/- price.Base as the awake test meets it, walked. -/
import Derived.Test.YtcpfiiapfggmpaaPrcTf
set_option linter.unusedSimpArgs false
namespace Go.Proofs.Ytcpfiiapfggmpaa
open Go.RowKit Go.Lib

set_option maxRecDepth 100000 in
set_option maxHeartbeats 4000000 in
theorem pbase_none {tA zA : Option Addr} {tc zc : Nat} (w : World) :
    Calls Try.prog 13 #[.agg #[.slice none 0 0, .slice none 0 0, .slice none 0 0, .slice none 0 0, .slice none 0 0, .slice none 0 0, .int .i64 0, .int .i64 0, .slice tA 1 tc, .int .i64 0, .slice none 0 0, .slice none 0 0, .slice none 0 0, .slice none 0 0, .slice none 0 0, .slice zA 1 zc, .slice none 0 0, .slice none 0 0, .slice none 0 0, .slice none 0 0, .slice none 0 0, .slice none 0 0, .int .i64 0, .slice none 0 0, .string ⟨#[]⟩], .agg #[.string ⟨#[]⟩, .string ⟨#[]⟩, .string ⟨#[]⟩, .int .i64 0, .slice none 0 0]] w fun e w' => e = .returned (.tuple #[.int .i64 0, .int .i64 1]) ∧ Below w.heap.size w w' := by
  go_enter Try.func13, Try.ntmps13
  go_wp2
  go_ret2
  exact ⟨rfl, ((Below.refl _ _).al _).al _⟩

set_option maxRecDepth 100000 in
set_option maxHeartbeats 4000000 in
theorem pbase_one {tb sb : Nat} {ra : Addr} {zA : Option Addr} {tc sc zc rc : Nat} {w : World} (htb : tb < w.heap.size) (hsb : sb < w.heap.size)
    (h0 : w.cell? ⟨tb, 0, none⟩ = some (.int .i64 0)) (h1 : w.cell? ⟨tb, 1, none⟩ = some (.int .i64 1000)) (h2 : w.cell? ⟨tb, 2, none⟩ = some (.slice none 0 0)) (h3 : w.cell? ⟨tb, 3, none⟩ = some (.slice (some ra) 1 rc))
    (k0 : w.cell? ⟨sb, 0, none⟩ = some (.string ⟨#[111]⟩)) (k1 : w.cell? ⟨sb, 1, none⟩ = some (.int .i64 100)) (k2 : w.cell? ⟨sb, 2, none⟩ = some (.string ⟨#[99, 49, 46, 53]⟩))
    (hr : Rd encRt 5 w w.heap.size (some ra) [⟨⟨#[111]⟩, ⟨#[]⟩, 1, ⟨#[]⟩, 400⟩]) :
    Calls Try.prog 13 #[.agg #[.slice none 0 0, .slice none 0 0, .slice none 0 0, .slice none 0 0, .slice none 0 0, .slice none 0 0, .int .i64 0, .int .i64 0, .slice (some ⟨tb, 0, none⟩) 1 tc, .int .i64 0, .slice none 0 0, .slice none 0 0, .slice none 0 0, .slice none 0 0, .slice none 0 0, .slice zA 1 zc, .slice none 0 0, .slice none 0 0, .slice none 0 0, .slice none 0 0, .slice none 0 0, .slice none 0 0, .int .i64 0, .slice none 0 0, .string ⟨#[]⟩], .agg #[.string ⟨#[99, 49, 46, 53]⟩, .string ⟨#[65, 66, 49, 50]⟩, .string ⟨#[109]⟩, .int .i64 1, .slice (some ⟨sb, 0, none⟩) 1 sc]] w fun e w' => e = .returned (.tuple #[.int .i64 400, .int .i64 0]) ∧ Below w.heap.size w w' := by
  obtain ⟨Y1, hY1⟩ : ∃ Y, w.alloc (.cells #[.slice none 0 0, .slice none 0 0, .slice none 0 0, .slice none 0 0, .slice none 0 0, .slice none 0 0, .int .i64 0, .int .i64 0, .slice (some ⟨tb, 0, none⟩) 1 tc, .int .i64 0, .slice none 0 0, .slice none 0 0, .slice none 0 0, .slice none 0 0, .slice none 0 0, .slice zA 1 zc, .slice none 0 0, .slice none 0 0, .slice none 0 0, .slice none 0 0, .slice none 0 0, .slice none 0 0, .int .i64 0, .slice none 0 0, .string ⟨#[]⟩] 74) = Y := ⟨_, rfl⟩
  obtain ⟨Y2, hY2⟩ : ∃ Y, Y1.alloc (.cells #[.string ⟨#[99, 49, 46, 53]⟩, .string ⟨#[65, 66, 49, 50]⟩, .string ⟨#[109]⟩, .int .i64 1, .slice (some ⟨sb, 0, none⟩) 1 sc] 79) = Y := ⟨_, rfl⟩
  obtain ⟨Y3, hY3⟩ : ∃ Y, Y2.alloc (.cells #[.string ⟨#[111]⟩, .int .i64 100, .string ⟨#[99, 49, 46, 53]⟩] 76) = Y := ⟨_, rfl⟩
  have b1 : Below w.heap.size w Y1 := by rw [← hY1]; exact (Below.refl _ w).al _
  have b2 : Below w.heap.size w Y2 := by rw [← hY2]; exact b1.al _
  have b3 : Below w.heap.size w Y3 := by rw [← hY3]; exact b2.al _
  have B1 : Blk Y3 w.heap.size #[.slice none 0 0, .slice none 0 0, .slice none 0 0, .slice none 0 0, .slice none 0 0, .slice none 0 0, .int .i64 0, .int .i64 0, .slice (some ⟨tb, 0, none⟩) 1 tc, .int .i64 0, .slice none 0 0, .slice none 0 0, .slice none 0 0, .slice none 0 0, .slice none 0 0, .slice zA 1 zc, .slice none 0 0, .slice none 0 0, .slice none 0 0, .slice none 0 0, .slice none 0 0, .slice none 0 0, .int .i64 0, .slice none 0 0, .string ⟨#[]⟩] 74 := by rw [← hY3, ← hY2, ← hY1]; exact ((Blk.new w _ _).alloc _).alloc _
  have B2 : Blk Y3 Y1.heap.size #[.string ⟨#[99, 49, 46, 53]⟩, .string ⟨#[65, 66, 49, 50]⟩, .string ⟨#[109]⟩, .int .i64 1, .slice (some ⟨sb, 0, none⟩) 1 sc] 79 := by rw [← hY3, ← hY2]; exact (Blk.new Y1 _ _).alloc _
  have B22 : Blk Y2 Y1.heap.size #[.string ⟨#[99, 49, 46, 53]⟩, .string ⟨#[65, 66, 49, 50]⟩, .string ⟨#[109]⟩, .int .i64 1, .slice (some ⟨sb, 0, none⟩) 1 sc] 79 := by rw [← hY2]; exact Blk.new Y1 _ _
  have B3 : Blk Y3 Y2.heap.size #[.string ⟨#[111]⟩, .int .i64 100, .string ⟨#[99, 49, 46, 53]⟩] 76 := by rw [← hY3]; exact Blk.new Y2 _ _
  have t4 := B22.cell 4 (v := .slice (some ⟨sb, 0, none⟩) 1 sc) rfl
  have u4 := B2.cell 4 (v := .slice (some ⟨sb, 0, none⟩) 1 sc) rfl
  have j0 := (b2.cell (p := ⟨sb, 0, none⟩) hsb).trans k0
  have j1 := (b2.cell (p := ⟨sb, 1, none⟩) hsb).trans k1
  have j2 := (b2.cell (p := ⟨sb, 2, none⟩) hsb).trans k2
  have c8 := B1.cell 8 (v := .slice (some ⟨tb, 0, none⟩) 1 tc) rfl
  have s1 := B3.cell 1 (v := .int .i64 100) rfl
  have CA := Lib.hid (tat_one (rs := [⟨⟨#[111]⟩, ⟨#[]⟩, 1, ⟨#[]⟩, 400⟩]) (b := tb) (off := 0) (a := ra) (rc := rc) (c := tc) ((b3.cell (p := ⟨tb, 0, none⟩) htb).trans h0) ((b3.cell (p := ⟨tb, 1, none⟩) htb).trans h1) ((b3.cell (p := ⟨tb, 2, none⟩) htb).trans h2) ((b3.cell (p := ⟨tb, 3, none⟩) htb).trans h3) (Nat.lt_of_lt_of_le htb b3.size) (hr.st b3) (by simp))
  clear h0 h1 h2 h3 k0 k1 k2 hr htb hsb b1 b2 B22
  go_enter Try.func13, Try.ntmps13
  go_wp2_with fail
  refine CA.out.mono ?_
  rintro e W4 ⟨A9, c9, rfl, hown, hbn⟩
  have b4 := b3.st hbn
  have B2 := B2.below hbn B2.lt
  have B3 := B3.below hbn B3.lt
  obtain ⟨W5, hW5⟩ : ∃ Y, W4.alloc (.cells #[.int .i64 0, .int .i64 1000, .slice none 0 0, .slice A9 1 c9] 45) = Y := ⟨_, rfl⟩
  have hb5 : Below W4.heap.size W4 W5 := by rw [← hW5]; exact (Below.refl _ _).al _
  have b5 := b4.st hb5
  have B2 := B2.below hb5 B2.lt
  have B3 := B3.below hb5 B3.lt
  have B5 : Blk W5 W4.heap.size #[.int .i64 0, .int .i64 1000, .slice none 0 0, .slice A9 1 c9] 45 := by rw [← hW5]; exact Blk.new W4 _ _
  have CR := Lib.hid (trate_one (rc := c9) ((hown.rd encRt_ok).st hb5))
  have v0 := B5.cell 0 (v := .int .i64 0) rfl
  have v1 := B5.cell 1 (v := .int .i64 1000) rfl
  have v2 := B5.cell 2 (v := .slice none 0 0) rfl
  have v3 := B5.cell 3 (v := .slice A9 1 c9) rfl
  have s0 := B3.cell 0 (v := .string ⟨#[111]⟩) rfl
  have s1 := B3.cell 1 (v := .int .i64 100) rfl
  have u3 := B2.cell 3 (v := .int .i64 1) rfl
  clear hbn hown CA B1 t4 u4 j0 j1 j2 c8
  go_wp2_with fail
  refine CR.out.mono ?_
  rintro e W6 ⟨rfl, hbn⟩
  have b6 := b5.st hbn
  go_wp2_with fail
  go_ret2
  exact ⟨rfl, b6⟩
end Go.Proofs.Ytcpfiiapfggmpaa
