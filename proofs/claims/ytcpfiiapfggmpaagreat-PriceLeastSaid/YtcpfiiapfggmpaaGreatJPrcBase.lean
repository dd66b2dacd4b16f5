/- Joined texts: PrcBase, PrcStay0, PrcCk. -/
import Derived.Test.YtcpfiiapfggmpaaGreatPrcTf
import Derived.Test.YtcpfiiapfggmpaaGreatZoneFind
import Derived.Test.YtcpfiiapfggmpaaGreatJTrpM
/- price.Base as the awake test meets it, walked. -/
set_option linter.unusedSimpArgs false
namespace Go.Proofs.YtcpfiiapfggmpaaGreat
open Go.RowKit Go.Lib

set_option maxRecDepth 100000 in
set_option maxHeartbeats 4000000 in
theorem pbase_none {tA zA : Option Addr} {tc zc : Nat} (w : World) :
    Calls Tryz.prog 11 #[.agg #[.slice none 0 0, .slice none 0 0, .slice none 0 0, .slice none 0 0, .slice none 0 0, .slice none 0 0, .int .i64 0, .int .i64 0, .slice tA 1 tc, .int .i64 0, .slice none 0 0, .slice none 0 0, .slice none 0 0, .slice none 0 0, .slice none 0 0, .slice zA 1 zc, .slice none 0 0, .slice none 0 0, .slice none 0 0, .slice none 0 0, .slice none 0 0, .slice none 0 0, .int .i64 0, .slice none 0 0, .string ⟨#[]⟩], .agg #[.string ⟨#[]⟩, .string ⟨#[]⟩, .string ⟨#[]⟩, .int .i64 0, .slice none 0 0]] w fun e w' => e = .returned (.tuple #[.int .i64 0, .int .i64 1]) ∧ Below w.heap.size w w' := by
  go_enter Tryz.func11, Tryz.ntmps11
  go_wp2
  go_ret2
  exact ⟨rfl, ((Below.refl _ _).al _).al _⟩

set_option maxRecDepth 100000 in
set_option maxHeartbeats 4000000 in
theorem pbase_one {tb sb : Nat} {ra : Addr} {zA : Option Addr} {tc sc zc rc : Nat} {w : World} (htb : tb < w.heap.size) (hsb : sb < w.heap.size)
    (h0 : w.cell? ⟨tb, 0, none⟩ = some (.int .i64 0)) (h1 : w.cell? ⟨tb, 1, none⟩ = some (.int .i64 1000)) (h2 : w.cell? ⟨tb, 2, none⟩ = some (.slice none 0 0)) (h3 : w.cell? ⟨tb, 3, none⟩ = some (.slice (some ra) 1 rc))
    (k0 : w.cell? ⟨sb, 0, none⟩ = some (.string ⟨#[111]⟩)) (k1 : w.cell? ⟨sb, 1, none⟩ = some (.int .i64 100)) (k2 : w.cell? ⟨sb, 2, none⟩ = some (.string ⟨#[99, 49, 46, 53]⟩))
    (hr : Rd encRt 5 w w.heap.size (some ra) [⟨⟨#[111]⟩, ⟨#[]⟩, 1, ⟨#[]⟩, 400⟩]) :
    Calls Tryz.prog 11 #[.agg #[.slice none 0 0, .slice none 0 0, .slice none 0 0, .slice none 0 0, .slice none 0 0, .slice none 0 0, .int .i64 0, .int .i64 0, .slice (some ⟨tb, 0, none⟩) 1 tc, .int .i64 0, .slice none 0 0, .slice none 0 0, .slice none 0 0, .slice none 0 0, .slice none 0 0, .slice zA 1 zc, .slice none 0 0, .slice none 0 0, .slice none 0 0, .slice none 0 0, .slice none 0 0, .slice none 0 0, .int .i64 0, .slice none 0 0, .string ⟨#[]⟩], .agg #[.string ⟨#[99, 49, 46, 53]⟩, .string ⟨#[65, 66, 49, 50]⟩, .string ⟨#[109]⟩, .int .i64 1, .slice (some ⟨sb, 0, none⟩) 1 sc]] w fun e w' => e = .returned (.tuple #[.int .i64 400, .int .i64 0]) ∧ Below w.heap.size w w' := by
  obtain ⟨Y1, hY1⟩ : ∃ Y, w.alloc (.cells #[.slice none 0 0, .slice none 0 0, .slice none 0 0, .slice none 0 0, .slice none 0 0, .slice none 0 0, .int .i64 0, .int .i64 0, .slice (some ⟨tb, 0, none⟩) 1 tc, .int .i64 0, .slice none 0 0, .slice none 0 0, .slice none 0 0, .slice none 0 0, .slice none 0 0, .slice zA 1 zc, .slice none 0 0, .slice none 0 0, .slice none 0 0, .slice none 0 0, .slice none 0 0, .slice none 0 0, .int .i64 0, .slice none 0 0, .string ⟨#[]⟩] 46) = Y := ⟨_, rfl⟩
  obtain ⟨Y2, hY2⟩ : ∃ Y, Y1.alloc (.cells #[.string ⟨#[99, 49, 46, 53]⟩, .string ⟨#[65, 66, 49, 50]⟩, .string ⟨#[109]⟩, .int .i64 1, .slice (some ⟨sb, 0, none⟩) 1 sc] 49) = Y := ⟨_, rfl⟩
  obtain ⟨Y3, hY3⟩ : ∃ Y, Y2.alloc (.cells #[.string ⟨#[111]⟩, .int .i64 100, .string ⟨#[99, 49, 46, 53]⟩] 109) = Y := ⟨_, rfl⟩
  have b1 : Below w.heap.size w Y1 := by rw [← hY1]; exact (Below.refl _ w).al _
  have b2 : Below w.heap.size w Y2 := by rw [← hY2]; exact b1.al _
  have b3 : Below w.heap.size w Y3 := by rw [← hY3]; exact b2.al _
  have B1 : Blk Y3 w.heap.size #[.slice none 0 0, .slice none 0 0, .slice none 0 0, .slice none 0 0, .slice none 0 0, .slice none 0 0, .int .i64 0, .int .i64 0, .slice (some ⟨tb, 0, none⟩) 1 tc, .int .i64 0, .slice none 0 0, .slice none 0 0, .slice none 0 0, .slice none 0 0, .slice none 0 0, .slice zA 1 zc, .slice none 0 0, .slice none 0 0, .slice none 0 0, .slice none 0 0, .slice none 0 0, .slice none 0 0, .int .i64 0, .slice none 0 0, .string ⟨#[]⟩] 46 := by rw [← hY3, ← hY2, ← hY1]; exact ((Blk.new w _ _).alloc _).alloc _
  have B2 : Blk Y3 Y1.heap.size #[.string ⟨#[99, 49, 46, 53]⟩, .string ⟨#[65, 66, 49, 50]⟩, .string ⟨#[109]⟩, .int .i64 1, .slice (some ⟨sb, 0, none⟩) 1 sc] 49 := by rw [← hY3, ← hY2]; exact (Blk.new Y1 _ _).alloc _
  have B22 : Blk Y2 Y1.heap.size #[.string ⟨#[99, 49, 46, 53]⟩, .string ⟨#[65, 66, 49, 50]⟩, .string ⟨#[109]⟩, .int .i64 1, .slice (some ⟨sb, 0, none⟩) 1 sc] 49 := by rw [← hY2]; exact Blk.new Y1 _ _
  have B3 : Blk Y3 Y2.heap.size #[.string ⟨#[111]⟩, .int .i64 100, .string ⟨#[99, 49, 46, 53]⟩] 109 := by rw [← hY3]; exact Blk.new Y2 _ _
  have t4 := B22.cell 4 (v := .slice (some ⟨sb, 0, none⟩) 1 sc) rfl
  have u4 := B2.cell 4 (v := .slice (some ⟨sb, 0, none⟩) 1 sc) rfl
  have j0 := (b2.cell (p := ⟨sb, 0, none⟩) hsb).trans k0
  have j1 := (b2.cell (p := ⟨sb, 1, none⟩) hsb).trans k1
  have j2 := (b2.cell (p := ⟨sb, 2, none⟩) hsb).trans k2
  have c8 := B1.cell 8 (v := .slice (some ⟨tb, 0, none⟩) 1 tc) rfl
  have s1 := B3.cell 1 (v := .int .i64 100) rfl
  have CA := Lib.hid (tat_one (rs := [⟨⟨#[111]⟩, ⟨#[]⟩, 1, ⟨#[]⟩, 400⟩]) (b := tb) (off := 0) (a := ra) (rc := rc) (c := tc) ((b3.cell (p := ⟨tb, 0, none⟩) htb).trans h0) ((b3.cell (p := ⟨tb, 1, none⟩) htb).trans h1) ((b3.cell (p := ⟨tb, 2, none⟩) htb).trans h2) ((b3.cell (p := ⟨tb, 3, none⟩) htb).trans h3) (Nat.lt_of_lt_of_le htb b3.size) (hr.st b3) (by simp))
  clear h0 h1 h2 h3 k0 k1 k2 hr htb hsb b1 b2 B22
  go_enter Tryz.func11, Tryz.ntmps11
  go_wp2_with fail
  refine CA.out.mono ?_
  rintro e W4 ⟨A9, c9, rfl, hown, hbn⟩
  have b4 := b3.st hbn
  have B2 := B2.below hbn B2.lt
  have B3 := B3.below hbn B3.lt
  obtain ⟨W5, hW5⟩ : ∃ Y, W4.alloc (.cells #[.int .i64 0, .int .i64 1000, .slice none 0 0, .slice A9 1 c9] 104) = Y := ⟨_, rfl⟩
  have hb5 : Below W4.heap.size W4 W5 := by rw [← hW5]; exact (Below.refl _ _).al _
  have b5 := b4.st hb5
  have B2 := B2.below hb5 B2.lt
  have B3 := B3.below hb5 B3.lt
  have B5 : Blk W5 W4.heap.size #[.int .i64 0, .int .i64 1000, .slice none 0 0, .slice A9 1 c9] 104 := by rw [← hW5]; exact Blk.new W4 _ _
  have CR := Lib.hid (trate_one (rc := c9) ((hown.rd encRt_ok).st hb5))
  have v0 := B5.cell 0 (v := .int .i64 0) rfl
  have v1 := B5.cell 1 (v := .int .i64 1000) rfl
  have v2 := B5.cell 2 (v := .slice none 0 0) rfl
  have v3 := B5.cell 3 (v := .slice A9 1 c9) rfl
  have s0 := B3.cell 0 (v := .string ⟨#[111]⟩) rfl
  have s1 := B3.cell 1 (v := .int .i64 100) rfl
  have u3 := B2.cell 3 (v := .int .i64 1) rfl
  clear hbn hown CA B1 t4 u4 j0 j1 j2 c8
  go_wp2_with fail
  refine CR.out.mono ?_
  rintro e W6 ⟨rfl, hbn⟩
  have b6 := b5.st hbn
  go_wp2_with fail
  go_ret2
  exact ⟨rfl, b6⟩
end Go.Proofs.YtcpfiiapfggmpaaGreat
/- price.Stay as the awake test meets it, walked. -/
set_option linter.unusedSimpArgs false
namespace Go.Proofs.YtcpfiiapfggmpaaGreat
open Go.RowKit Go.Lib

def z1 : Zn := ⟨⟨#[122]⟩, none, 0, [], none, 0, [], 0, 0, 0, 0⟩
theorem z1_find : findZ [z1] ⟨#[122]⟩ = some z1 := by kernel_rfl
theorem k_eq : (⟨#[112, 58]⟩ : ByteArray) ++ (⟨#[115]⟩ : ByteArray) = ⟨#[112, 58, 115]⟩ := by rfl
set_option maxRecDepth 100000 in
set_option maxHeartbeats 4000000 in
theorem pstay_one {zb : Nat} {tA : Option Addr} {tc zc_ : Nat} {w : World} (hr : Rd encZ 7 w w.heap.size (some ⟨zb, 0, none⟩) [z1]) :
    Calls Tryz.prog 14 #[.agg #[.slice none 0 0, .slice none 0 0, .slice none 0 0, .slice none 0 0, .slice none 0 0, .slice none 0 0, .int .i64 0, .int .i64 0, .slice tA 1 tc, .int .i64 0, .slice none 0 0, .slice none 0 0, .slice none 0 0, .slice none 0 0, .slice none 0 0, .slice (some ⟨zb, 0, none⟩) 1 zc_, .slice none 0 0, .slice none 0 0, .slice none 0 0, .slice none 0 0, .slice none 0 0, .slice none 0 0, .int .i64 0, .slice none 0 0, .string ⟨#[]⟩], .agg #[.string ⟨#[115]⟩, .string ⟨#[122]⟩, .string ⟨#[65, 66, 49, 50]⟩, .int .i64 5, .int .i64 9], .slice none 0 0] w fun e w' => e = .returned (.tuple #[.agg #[.string ⟨#[112, 58, 115]⟩, .string ⟨#[65, 66, 49, 50]⟩, .string ⟨#[122]⟩, .int .i64 0, .int .i64 9, .slice none 0 0, .int .i64 0], .int .i64 0]) ∧ Below w.heap.size w w' := by
  obtain ⟨Y1, hY1⟩ : ∃ Y, w.alloc (.cells #[.slice none 0 0, .slice none 0 0, .slice none 0 0, .slice none 0 0, .slice none 0 0, .slice none 0 0, .int .i64 0, .int .i64 0, .slice tA 1 tc, .int .i64 0, .slice none 0 0, .slice none 0 0, .slice none 0 0, .slice none 0 0, .slice none 0 0, .slice (some ⟨zb, 0, none⟩) 1 zc_, .slice none 0 0, .slice none 0 0, .slice none 0 0, .slice none 0 0, .slice none 0 0, .slice none 0 0, .int .i64 0, .slice none 0 0, .string ⟨#[]⟩] 46) = Y := ⟨_, rfl⟩
  obtain ⟨Y2, hY2⟩ : ∃ Y, Y1.alloc (.cells #[.string ⟨#[115]⟩, .string ⟨#[122]⟩, .string ⟨#[65, 66, 49, 50]⟩, .int .i64 5, .int .i64 9] 61) = Y := ⟨_, rfl⟩
  obtain ⟨Y3, hY3⟩ : ∃ Y, Y2.alloc (.cells #[.string ⟨#[]⟩, .string ⟨#[]⟩, .string ⟨#[]⟩, .int .i64 0, .int .i64 0, .slice none 0 0, .int .i64 0] 66) = Y := ⟨_, rfl⟩
  have b1 : Below w.heap.size w Y1 := by rw [← hY1]; exact (Below.refl _ w).al _
  have b2 : Below w.heap.size w Y2 := by rw [← hY2]; exact b1.al _
  have b3 : Below w.heap.size w Y3 := by rw [← hY3]; exact b2.al _
  have B1 : Blk Y3 w.heap.size #[.slice none 0 0, .slice none 0 0, .slice none 0 0, .slice none 0 0, .slice none 0 0, .slice none 0 0, .int .i64 0, .int .i64 0, .slice tA 1 tc, .int .i64 0, .slice none 0 0, .slice none 0 0, .slice none 0 0, .slice none 0 0, .slice none 0 0, .slice (some ⟨zb, 0, none⟩) 1 zc_, .slice none 0 0, .slice none 0 0, .slice none 0 0, .slice none 0 0, .slice none 0 0, .slice none 0 0, .int .i64 0, .slice none 0 0, .string ⟨#[]⟩] 46 := by rw [← hY3, ← hY2, ← hY1]; exact ((Blk.new w _ _).alloc _).alloc _
  have B2 : Blk Y3 Y1.heap.size #[.string ⟨#[115]⟩, .string ⟨#[122]⟩, .string ⟨#[65, 66, 49, 50]⟩, .int .i64 5, .int .i64 9] 61 := by rw [← hY3, ← hY2]; exact (Blk.new Y1 _ _).alloc _
  have B3 : Blk Y3 Y2.heap.size #[.string ⟨#[]⟩, .string ⟨#[]⟩, .string ⟨#[]⟩, .int .i64 0, .int .i64 0, .slice none 0 0, .int .i64 0] 66 := by rw [← hY3]; exact Blk.new Y2 _ _
  have c15 := B1.cell 15 (v := .slice (some ⟨zb, 0, none⟩) 1 zc_) rfl
  have q1 := B2.cell 1 (v := .string ⟨#[122]⟩) rfl
  have CF := Lib.hid (zfind_any (l := [z1]) zc_ (nm := ⟨#[122]⟩) (hr.st b3) (by intro z hz; rw [List.mem_singleton] at hz; subst hz; exact ⟨Rd.nil, Rd.nil⟩) (by intro z hz; rw [List.mem_singleton] at hz; subst hz; exact ⟨by simp [z1], by simp [z1]⟩) (by simp))
  have s1 : Y1.heap.size = w.heap.size + 1 := by rw [← hY1]; simp
  have s2 : Y2.heap.size = Y1.heap.size + 1 := by rw [← hY2]; simp
  have S3 : Hid (w.heap.size < Y2.heap.size) := Lib.hid (by omega)
  clear s1 s2
  clear hr b1 b2
  go_enter Tryz.func14, Tryz.ntmps14
  go_wp2_with fail
  refine CF.out.mono ?_
  rintro e W4 ⟨z, rfl, hz, -, hbn⟩
  rw [z1_find] at hz ⊢
  have b4 := b3.st hbn
  have B2 := B2.below hbn B2.lt
  have B3 := B3.below hbn B3.lt
  have hnm : z.name = ⟨#[122]⟩ := congrArg Prod.fst hz
  simp only [ZV, hnm]
  have q0 := B2.cell 0 (v := .string ⟨#[115]⟩) rfl
  have q2 := B2.cell 2 (v := .string ⟨#[65, 66, 49, 50]⟩) rfl
  have q4 := B2.cell 4 (v := .int .i64 9) rfl
  obtain ⟨W5, hW5⟩ : ∃ Y, W4.alloc (.cells #[.string ⟨#[122]⟩, .slice z.hA z.hs.length z.hc, .slice z.sA z.ss.length z.sc, .int .i64 z.grace, .int .i64 z.free, .int .i64 z.dayMax, .int .i64 z.maxStay] 76) = Y := ⟨_, rfl⟩
  have hb5 : Below W4.heap.size W4 W5 := by rw [← hW5]; exact (Below.refl _ _).al _
  have b5 := b4.st hb5
  have B2 := B2.below hb5 B2.lt
  have B3 := B3.below hb5 B3.lt
  have B5 : Blk W5 W4.heap.size #[.string ⟨#[122]⟩, .slice z.hA z.hs.length z.hc, .slice z.sA z.ss.length z.sc, .int .i64 z.grace, .int .i64 z.free, .int .i64 z.dayMax, .int .i64 z.maxStay] 76 := by rw [← hW5]; exact Blk.new W4 _ _
  have q0 := B2.cell 0 (v := .string ⟨#[115]⟩) rfl
  have q2 := B2.cell 2 (v := .string ⟨#[65, 66, 49, 50]⟩) rfl
  have q4 := B2.cell 4 (v := .int .i64 9) rfl
  have z0 := B5.cell 0 (v := .string ⟨#[122]⟩) rfl
  clear hY1 hY2 hY3
  go_wp2
  obtain ⟨W6, hW6⟩ : ∃ Y, W5.alloc (.cells #[.string ((⟨#[112, 58]⟩ : ByteArray) ++ (⟨#[115]⟩ : ByteArray)), .string ⟨#[65, 66, 49, 50]⟩, .string ⟨#[122]⟩, .int .i64 0, .int .i64 9, .slice none 0 0, .int .i64 0] 66) = Y := ⟨_, rfl⟩
  rw [hW6]
  have hb6 : Below W5.heap.size W5 W6 := by rw [← hW6]; exact (Below.refl _ _).al _
  have b6 := b5.st hb6
  have B3 := B3.below hb6 B3.lt
  have B6 : Blk W6 W5.heap.size #[.string ((⟨#[112, 58]⟩ : ByteArray) ++ (⟨#[115]⟩ : ByteArray)), .string ⟨#[65, 66, 49, 50]⟩, .string ⟨#[122]⟩, .int .i64 0, .int .i64 9, .slice none 0 0, .int .i64 0] 66 := by rw [← hW6]; exact Blk.new W5 _ _
  clear hbn CF B1 c15 q1 hz hnm
  refine wp_loop_rounds 1 ?_
  rw [rounds_succ]
  go_wp2_with (first | (refine wpList_boxLoad rfl (ty := 66) (x := .tmp 10) (cs := #[.string ((⟨#[112, 58]⟩ : ByteArray) ++ (⟨#[115]⟩ : ByteArray)), .string ⟨#[65, 66, 49, 50]⟩, .string ⟨#[122]⟩, .int .i64 0, .int .i64 9, .slice none 0 0, .int .i64 0]) rfl B6 rfl ⟨_, Tryz.underlying66, by kernel_rfl⟩ ?_) | (refine wpList_boxStore rfl (ty := 66) (x := .tmp 6) (y := .tmp 77) (cells := #[.string ((⟨#[112, 58]⟩ : ByteArray) ++ (⟨#[115]⟩ : ByteArray)), .string ⟨#[65, 66, 49, 50]⟩, .string ⟨#[122]⟩, .int .i64 0, .int .i64 9, .slice none 0 0, .int .i64 0]) rfl B3 rfl rfl (by kernel_rfl) rfl (by kernel_rfl) ?_; intro w7 B7 hoz hbz))
  (try simp only [Exit.inBlock, Exit.then])
  refine bodyPost_ret (v := .tuple #[.agg #[.string ((⟨#[112, 58]⟩ : ByteArray) ++ (⟨#[115]⟩ : ByteArray)), .string ⟨#[65, 66, 49, 50]⟩, .string ⟨#[122]⟩, .int .i64 0, .int .i64 9, .slice none 0 0, .int .i64 0], .int .i64 0]) ?_ rfl ⟨by rw [k_eq], hbz _ _ (by have := S3.out; omega) b6⟩
  exact results_box_tmp Tryz.results14 _ (.int .i64 0) rfl rfl B7 ⟨_, Tryz.underlying66, by kernel_rfl⟩
end Go.Proofs.YtcpfiiapfggmpaaGreat
/- price.Check and the reference's, walked. -/
set_option linter.unusedSimpArgs false
set_option linter.unusedSimpArgs false
namespace Go.Proofs.YtcpfiiapfggmpaaGreat
open Go.RowKit Go.Lib

/-- the error behind the names, class and time -/
def chkT (lns : List Ln) (cn : Int) : Int := if mstB lns = false then 13 else if cn < 0 ∨ 1125899906842624 < cn then 13 else if cn ≠ sumL lns then 8 else 0
theorem chk_6 {key veh sys : ByteArray} {cls tm : Int} {lns : List Ln} {cn : Int} (h : emp key = true ∨ emp veh = true) : chkE (⟨key, veh, sys, cls, tm, lns, cn⟩ : CV) = 6 := by unfold chkE; rw [if_pos (h.imp (emp_iff _).1 (emp_iff _).1)]
theorem chk_20 {key veh sys : ByteArray} {cls tm : Int} {lns : List Ln} {cn : Int} (h1 : emp key = false) (h2 : emp veh = false) (h : cls < 0 ∨ 9 < cls) : chkE (⟨key, veh, sys, cls, tm, lns, cn⟩ : CV) = 20 := by
  unfold chkE; rw [if_neg (by rintro (q | q) <;> (have := (emp_iff _).2 q; simp_all)), if_pos h]
theorem chk_12 {key veh sys : ByteArray} {cls tm : Int} {lns : List Ln} {cn : Int} (h1 : emp key = false) (h2 : emp veh = false) (h : ¬ (cls < 0 ∨ 9 < cls)) (h3 : tm < 0 ∨ 68719476736 < tm) : chkE (⟨key, veh, sys, cls, tm, lns, cn⟩ : CV) = 12 := by
  unfold chkE; rw [if_neg (by rintro (q | q) <;> (have := (emp_iff _).2 q; simp_all)), if_neg h, if_pos h3]
theorem chk_T {key veh sys : ByteArray} {cls tm : Int} {lns : List Ln} {cn : Int} (h1 : emp key = false) (h2 : emp veh = false) (h : ¬ (cls < 0 ∨ 9 < cls)) (h3 : ¬ (tm < 0 ∨ 68719476736 < tm)) : chkE (⟨key, veh, sys, cls, tm, lns, cn⟩ : CV) = chkT lns cn := by
  unfold chkE chkT; rw [if_neg (by rintro (q | q) <;> (have := (emp_iff _).2 q; simp_all)), if_neg h, if_neg h3]
theorem mst_take {l : List Ln} {k : Nat} {x : Ln} (h : Mst (l.take k)) (hx : l[k]? = some x) (hf : fitsB x.2 = true) : Mst (l.take (k + 1)) := by
  intro y hy
  rw [take_snoc hx] at hy
  rcases List.mem_append.1 hy with q | q
  · exact h y q
  · rw [List.mem_singleton] at q; subst q; exact hf
theorem mst_no {l : List Ln} {k : Nat} {x : Ln} (hx : l[k]? = some x) (hf : fitsB x.2 = false) : mstB l = false := by
  cases q : mstB l
  · rfl
  · rw [mstB_iff.1 q x (List.mem_of_getElem? hx)] at hf; cases hf

set_option maxRecDepth 100000 in
set_option maxHeartbeats 8000000 in
theorem pchk_any (x : CV) {lA : Option Addr} (lc : Nat) {w : World} (h : Rd encLn 2 w w.heap.size lA x.lns) (hl : x.lns.length ≤ 1000) :
    Calls Tryz.prog 23 #[CHV x lA lc] w fun e w' => e = .returned (.int .i64 (chkE x)) ∧ Below w.heap.size w w' := by
  obtain ⟨key, veh, sys, cls, tm, lns, cn⟩ := x
  simp only [CHV] at *
  obtain ⟨Y, hY⟩ : ∃ Y, w.alloc (.cells #[.string key, .string veh, .string sys, .int .i64 cls, .int .i64 tm, .slice lA lns.length lc, .int .i64 cn] 66) = Y := ⟨_, rfl⟩; have bW : Below w.heap.size w Y := (by rw [← hY]; exact (Below.refl _ w).al _); have BP : Blk Y w.heap.size #[.string key, .string veh, .string sys, .int .i64 cls, .int .i64 tm, .slice lA lns.length lc, .int .i64 cn] 66 := (by rw [← hY]; exact Blk.new w _ _)
  have p0 := BP.cell 0 (v := .string key) rfl; have p1 := BP.cell 1 (v := .string veh) rfl; have p3 := BP.cell 3 (v := .int .i64 cls) rfl; have p4 := BP.cell 4 (v := .int .i64 tm) rfl; have p5 := BP.cell 5 (v := .slice lA lns.length lc) rfl; have p6 := BP.cell 6 (v := .int .i64 cn) rfl
  have HR := Lib.hid (h.st bW)
  clear h
  cases e1 : emp key
  case' true =>
    obtain rfl := (emp_iff _).1 e1
    rw [chk_6 (.inl e1)]
    clear e1
    go_enter Tryz.func23, Tryz.ntmps23
    go_wp2_with fail; go_ret; exact ⟨rfl, bW⟩
  obtain ⟨k1, k2, k3⟩ := toList_neE e1
  cases e2 : emp veh
  case' true =>
    obtain rfl := (emp_iff _).1 e2
    rw [chk_6 (.inr e2)]
    clear e1 e2
    go_enter Tryz.func23, Tryz.ntmps23
    go_wp2_with fail; go_ret; exact ⟨rfl, bW⟩
  obtain ⟨v1, v2, v3⟩ := toList_neE e2
  by_cases hc : cls < 0 ∨ 9 < cls
  · rw [chk_20 e1 e2 hc]
    clear e1 e2
    rcases hc with hc | hc
    · go_enter Tryz.func23, Tryz.ntmps23
      go_wp2_with fail; go_ret; exact ⟨rfl, bW⟩
    · have hc2 : ¬ cls < 0 := by omega
      go_enter Tryz.func23, Tryz.ntmps23
      go_wp2_with fail; go_ret; exact ⟨rfl, bW⟩
  · by_cases ht : tm < 0 ∨ 68719476736 < tm
    · rw [chk_12 e1 e2 hc ht]
      have hc1 : ¬ cls < 0 := by omega
      have hc2 : ¬ 9 < cls := by omega
      clear e1 e2 hc
      rcases ht with ht | ht
      · go_enter Tryz.func23, Tryz.ntmps23
        go_wp2_with fail; go_ret; exact ⟨rfl, bW⟩
      · have ht2 : ¬ tm < 0 := by omega
        go_enter Tryz.func23, Tryz.ntmps23
        go_wp2_with fail; go_ret; exact ⟨rfl, bW⟩
    · rw [chk_T e1 e2 hc ht]
      have hc1 : ¬ cls < 0 := by omega
      have hc2 : ¬ 9 < cls := by omega
      have ht1 : ¬ tm < 0 := by omega
      have ht2 : ¬ 68719476736 < tm := by omega
      have HB := Lib.hid bW
      have HP := Lib.hid BP
      clear e1 e2 hc ht
      obtain ⟨rv, hrv⟩ : ∃ v, chkT lns cn = v := ⟨_, rfl⟩
      rw [hrv]
      have RV := Lib.hid hrv
      clear hrv
      go_enter Tryz.func23, Tryz.ntmps23
      go_wp2_with fail
      clear hY p0 p1 p3 p4 p5 p6 bW BP
      go_loopw [35] (fun i wr => ∃ k : Nat, k ≤ lns.length ∧ i = .int .i64 k ∧ Hid (Mst (lns.take k)) ∧ Below Y.heap.size Y wr) (fun i _ => lns.length - (RowKit.intOf i).toNat)
      case atStart => exact ⟨0, Nat.zero_le _, rfl, (by unfold Hid Mst; simp), Below.refl _ _⟩
      case round =>
        obtain ⟨k, hk, rfl, HQ, hwr⟩ := hrel
        have bW := HB.out.st hwr
        have BP := HP.out.below hwr HP.out.lt
        by_cases hi : k < lns.length
        · obtain ⟨b, off, s, n, rfl, hb, hx, d0, d1⟩ := (HR.out.st hwr).ln hi
          have HK := Lib.hid hi
          have HX := Lib.hid hx
          have CF := Lib.hid (fun (X : World) => fits_any n X)
          obtain ⟨Y5, hY5⟩ : ∃ Y, wr.alloc (.cells #[.string s, .int .i64 n] 123) = Y := ⟨_, rfl⟩
          have BS : Blk Y5 wr.heap.size #[.string s, .int .i64 n] 123 := by rw [← hY5]; exact Blk.new _ _ _
          have hbn : Below wr.heap.size wr Y5 := by rw [← hY5]; exact (Below.refl _ _).al _
          have hw5 := hwr.st hbn
          have b5 := bW.st hbn
          have s1 := BS.cell 1 (v := .int .i64 n) rfl
          clear hbn hwr bW hx hi hb
          cases hf : fitsB n
          · have R : Hid (rv = 13) := Lib.hid (by rw [← RV.out]; unfold chkT; rw [if_pos (mst_no HX.out hf)])
            rw [hf] at CF
            clear hf
            go_wp2_with fail
            refine (CF.out _).mono ?_
            rintro e w2 ⟨rfl, hw2⟩
            rw [hw2]
            clear hw2 w2
            go_wp2_with fail
            go_ret
            exact ⟨by rw [R.out]; rfl, b5⟩
          · have R := Lib.hid (mst_take HQ.out HX.out hf)
            rw [hf] at CF
            clear hf
            go_wp2_with fail
            refine (CF.out _).mono ?_
            rintro e w2 ⟨rfl, hw2⟩
            rw [hw2]
            clear hw2 w2
            go_wp2_with fail
            go_roundw
            case rel => exact ⟨k + 1, HK.out, by go_num, R, hw5⟩
            case measure => have := HK.out; simp [RowKit.intOf]; omega
        · obtain rfl : k = lns.length := by omega
          have HM : Hid (Mst lns) := Lib.hid (by have := HQ.out; rwa [List.take_length] at this)
          have CS := Lib.hid (fun (X : World) (hX : Below Y.heap.size Y X) => psum_any lc (HR.out.st hX) hl HM.out)
          have HW := Lib.hid hwr
          have p0 := BP.cell 0 (v := .string key) rfl; have p1 := BP.cell 1 (v := .string veh) rfl; have p3 := BP.cell 3 (v := .int .i64 cls) rfl; have p4 := BP.cell 4 (v := .int .i64 tm) rfl; have p5 := BP.cell 5 (v := .slice lA lns.length lc) rfl; have p6 := BP.cell 6 (v := .int .i64 cn) rfl
          clear HQ hwr
          by_cases hn : cn < 0 ∨ 1125899906842624 < cn
          · have R : Hid (rv = 13) := Lib.hid (by rw [← RV.out]; unfold chkT; rw [if_neg (by rw [mstB_iff.2 HM.out]; simp), if_pos hn])
            rcases hn with hn | hn
            · go_wp2_with fail
              go_ret
              exact ⟨by rw [R.out]; rfl, bW⟩
            · have hn2 : ¬ cn < 0 := by omega
              go_wp2_with fail
              go_ret
              exact ⟨by rw [R.out]; rfl, bW⟩
          · have hn1 : ¬ cn < 0 := by omega
            have hn2 : ¬ 1125899906842624 < cn := by omega
            have R : Hid (rv = if cn ≠ sumL lns then 8 else 0) := Lib.hid (by rw [← RV.out]; unfold chkT; rw [if_neg (by rw [mstB_iff.2 HM.out]; simp), if_neg hn])
            clear hn
            obtain ⟨sv, hsv⟩ : ∃ v, sumL lns = v := ⟨_, rfl⟩
            rw [hsv] at CS R
            clear hsv
            have HBP := Lib.hid BP.drew
            have HBW := Lib.hid (below_drewN bW 1)
            have HW0 := Lib.hid (below_drewN HW.out 1)
            cases hz : (cn != sv)
            case' false =>
              have R2 : Hid (rv = 0) := Lib.hid (by rw [R.out, if_neg (by simpa using hz)])
            case' true =>
              have R2 : Hid (rv = 8) := Lib.hid (by rw [R.out, if_pos (by simpa using hz)])
            all_goals
              go_wp2_with fail
              refine wp_region_held_drew (S := (fun w' : World => w'.cell? ⟨w.heap.size, 5, none⟩ = some (.slice lA lns.length lc) ∧ w'.cell? ⟨w.heap.size, 6, none⟩ = some (.int .i64 cn))) (by kernel_rfl) ?_ (fun hHeld => ?_)
              focus exact ⟨p5, p6⟩
              have hSS : (fun w' : World => w'.cell? ⟨w.heap.size, 5, none⟩ = some (.slice lA lns.length lc) ∧ w'.cell? ⟨w.heap.size, 6, none⟩ = some (.int .i64 cn)) wr.drew := ⟨p5, p6⟩
              have HBP : Hid (Blk wr.drew w.heap.size #[.string key, .string veh, .string sys, .int .i64 cls, .int .i64 tm, .slice lA lns.length lc, .int .i64 cn] 66) := HBP
              have HBW : Hid (Below w.heap.size w wr.drew) := HBW
              have HW0 : Hid (Below Y.heap.size Y wr.drew) := HW0
              clear p0 p1 p3 p4 p5 p6 BP bW
              generalize wr.drew = W0 at hSS hHeld HBP HBW HW0 ⊢
              change wpAnyH _ _ _ _ _ 7 _ _ _
              refine wpAnyH_take (i := 0) (v := ?_) (by simp only [List.getElem?_toArray, List.getElem?_cons_zero, List.getElem?_cons_succ]; rfl) (by kernel_rfl) (by kernel_rfl) (by kernel_rfl) (by intro _ _ _ h; exact h) (Or.inl ⟨by rfl, ?_⟩) (by assumption) ?_; rotate_left; (focus (intro w1 hSw; (try dsimp only at hSw); go_simp; (try with_reducible rfl))); (try simp only [Act.put, List.setIfInBounds_toArray, List.set_cons_zero, List.set_cons_succ, List.getElem_toArray, List.getElem_cons_zero, List.getElem_cons_succ])
              refine wpAnyH_take (i := 1) (v := ?_) (by simp only [List.getElem?_toArray, List.getElem?_cons_zero, List.getElem?_cons_succ]; rfl) (by kernel_rfl) (by kernel_rfl) (by kernel_rfl) (by intro _ _ _ h; exact h) (Or.inl ⟨by rfl, ?_⟩) (by assumption) ?_; rotate_left; (focus (intro w1 hSw; (try dsimp only at hSw); go_simp; (try with_reducible rfl))); (try simp only [Act.put, List.setIfInBounds_toArray, List.set_cons_zero, List.set_cons_succ, List.getElem_toArray, List.getElem_cons_zero, List.getElem_cons_succ])
              refine wpAnyH_take (i := 2) (v := ?_) (by simp only [List.getElem?_toArray, List.getElem?_cons_zero, List.getElem?_cons_succ]; rfl) (by kernel_rfl) (by kernel_rfl) (by kernel_rfl) (by intro _ _ _ h; exact h) (Or.inl ⟨by rfl, ?_⟩) (by assumption) ?_; rotate_left; (focus (intro w1 hSw; (try dsimp only at hSw); go_simp; (try with_reducible rfl))); (try simp only [Act.put, List.setIfInBounds_toArray, List.set_cons_zero, List.set_cons_succ, List.getElem_toArray, List.getElem_cons_zero, List.getElem_cons_succ])
              refine wpAnyH_take (i := 3) (v := ?_) (by simp only [List.getElem?_toArray, List.getElem?_cons_zero, List.getElem?_cons_succ]; rfl) (by kernel_rfl) (by kernel_rfl) (by kernel_rfl) (by intro _ _ _ h; exact h) (Or.inl ⟨by rfl, ?_⟩) (by assumption) ?_; rotate_left; (focus (intro w1 hSw; (try dsimp only at hSw); go_simp; (try with_reducible rfl))); (try simp only [Act.put, List.setIfInBounds_toArray, List.set_cons_zero, List.set_cons_succ, List.getElem_toArray, List.getElem_cons_zero, List.getElem_cons_succ])
              refine wpAnyH_ready (rs := [4]) (by kernel_rfl) (by simp) ?_; refine AllReadyH.cons (by simp only [List.getElem?_toArray, List.getElem?_cons_zero, List.getElem?_cons_succ]; rfl) (fun K hK => ?_) AllReadyH.nil
              rw [if_pos (by rfl)]; go_wp2_with fail
              refine (CS.out _ HW0.out).mono ?_
              rintro e W1 ⟨rfl, hbn⟩
              have HBP := Lib.hid (HBP.out.below hbn HBP.out.lt)
              have HBW := Lib.hid (HBW.out.st hbn)
              go_wp2_with fail
              refine hK.out _ _ ?_ (fun hHeld => ?_)
              focus exact ⟨HBP.out.cell 5 rfl, HBP.out.cell 6 rfl⟩
              clear hK K
              (try simp only [Act.put, List.setIfInBounds_toArray, List.set_cons_zero, List.set_cons_succ, List.getElem_toArray, List.getElem_cons_zero, List.getElem_cons_succ])
              refine wpAnyH_take (i := 5) (v := ?_) (by simp only [List.getElem?_toArray, List.getElem?_cons_zero, List.getElem?_cons_succ]; rfl) (by kernel_rfl) (by kernel_rfl) (by kernel_rfl) (by intro _ _ _ h; exact h) (Or.inl ⟨by rfl, ?_⟩) (by assumption) ?_; rotate_left; (focus (intro w1 hSw; (try dsimp only at hSw); go_simp; (try with_reducible rfl))); (try simp only [Act.put, List.setIfInBounds_toArray, List.set_cons_zero, List.set_cons_succ, List.getElem_toArray, List.getElem_cons_zero, List.getElem_cons_succ])
              refine wpAnyH_take (i := 6) (v := ?_) (by simp only [List.getElem?_toArray, List.getElem?_cons_zero, List.getElem?_cons_succ]; rfl) (by kernel_rfl) (by kernel_rfl) (by kernel_rfl) (by intro _ _ _ h; exact h) (Or.inl ⟨by rfl, ?_⟩) (by assumption) ?_; rotate_left; (focus (intro w1 hSw; (try dsimp only at hSw); go_simp; (try with_reducible rfl))); (try simp only [Act.put, List.setIfInBounds_toArray, List.set_cons_zero, List.set_cons_succ, List.getElem_toArray, List.getElem_cons_zero, List.getElem_cons_succ])
              refine wpAnyH_done (by kernel_rfl) ?_ _
              go_wp2_with fail
              go_ret
              exact ⟨by rw [R2.out]; rfl, HBW.out⟩

end Go.Proofs.YtcpfiiapfggmpaaGreat
