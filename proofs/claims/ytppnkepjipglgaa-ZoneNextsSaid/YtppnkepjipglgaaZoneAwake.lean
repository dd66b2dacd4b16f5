/- The chapter's examples, walked. Printed by gen_awake26.py. -/
import Derived.Test.YtppnkepjipglgaaZoneAwakeMath
namespace Go.Proofs.Ytppnkepjipglgaa
open Go.RowKit Go.Lib

set_option maxRecDepth 100000 in
set_option maxHeartbeats 16000000 in
theorem awake_any (w : World) : Calls Try.prog 11 #[] w fun e w' => e = .returned (.bool true) ∧ Below w.heap.size w w' := by
  go_enter Try.func11, Try.ntmps11
  go_wp2_with fail
  have bz := Blk.new ((w.alloc (.cells #[.int .i64 31, .int .i64 480, .int .i64 1080] 56)).alloc (.cells #[.int .i64 0, .int .i64 60, .int .i64 1] 58)) #[.string ⟨#[97]⟩, .slice (some ⟨w.heap.size, 0, none⟩) 1 1, .slice (some ⟨w.heap.size + 1, 0, none⟩) 1 1, .int .i64 0, .int .i64 0, .int .i64 0, .int .i64 0] 25
  simp only [World.size_alloc] at bz
  have bel : Below w.heap.size w (((w.alloc (.cells #[.int .i64 31, .int .i64 480, .int .i64 1080] 56)).alloc (.cells #[.int .i64 0, .int .i64 60, .int .i64 1] 58)).alloc (.cells #[.string ⟨#[97]⟩, .slice (some ⟨w.heap.size, 0, none⟩) 1 1, .slice (some ⟨w.heap.size + 1, 0, none⟩) 1 1, .int .i64 0, .int .i64 0, .int .i64 0, .int .i64 0] 25)) := (((Below.refl _ w).al _).al _).al _
  have r1 := (((Own.lit (e := 56) (cs := #[.int .i64 31, .int .i64 480, .int .i64 1080]) w 0 exH encW_ok rfl rfl (by omega) (by simp)).alloc (.cells #[.int .i64 0, .int .i64 60, .int .i64 1] 58)).alloc (.cells #[.string ⟨#[97]⟩, .slice (some ⟨w.heap.size, 0, none⟩) 1 1, .slice (some ⟨w.heap.size + 1, 0, none⟩) 1 1, .int .i64 0, .int .i64 0, .int .i64 0, .int .i64 0] 25)).rd encW_ok
  have r2 := ((Own.lit (e := 58) (cs := #[.int .i64 0, .int .i64 60, .int .i64 1]) (w.alloc (.cells #[.int .i64 31, .int .i64 480, .int .i64 1080] 56)) 0 [((0, 60, 1) : Wn)] (g := w.heap.size + 1) encW_ok rfl (by simp) (by omega) (by simp)).alloc (.cells #[.string ⟨#[97]⟩, .slice (some ⟨w.heap.size, 0, none⟩) 1 1, .slice (some ⟨w.heap.size + 1, 0, none⟩) 1 1, .int .i64 0, .int .i64 0, .int .i64 0, .int .i64 0] 25)).rd encW_ok
  obtain ⟨w1, hw1⟩ : ∃ w1, (((w.alloc (.cells #[.int .i64 31, .int .i64 480, .int .i64 1080] 56)).alloc (.cells #[.int .i64 0, .int .i64 60, .int .i64 1] 58)).alloc (.cells #[.string ⟨#[97]⟩, .slice (some ⟨w.heap.size, 0, none⟩) 1 1, .slice (some ⟨w.heap.size + 1, 0, none⟩) 1 1, .int .i64 0, .int .i64 0, .int .i64 0, .int .i64 0] 25)) = w1 := ⟨_, rfl⟩
  rw [hw1] at bz bel r1 r2 ⊢
  have hz : ZOk w1 (exZ (some ⟨w.heap.size, 0, none⟩) (some ⟨w.heap.size + 1, 0, none⟩)) := ⟨r1, r2⟩
  clear hw1 r1 r2
  refine (zenf_any (exZ (some ⟨w.heap.size, 0, none⟩) (some ⟨w.heap.size + 1, 0, none⟩)) 0 172800 hz (by simp [exZ])).mono ?_
  unfold EnfR
  rw [show daysE 0 172800 = 0 from rfl]
  rintro e w2 ⟨A2, c2, n2, rfl, hq, -, hr, hb2⟩
  obtain rfl : n2 = [((28800, 64800) : Iv), (115200, 151200)] := exEnf (hq rfl).1 (hq rfl).2
  clear hq
  replace bz := bz.below hb2 bz.lt
  replace hz := hz.st hb2
  replace bel := bel.st hb2
  have z0 : w2.cell? ⟨w.heap.size + 1 + 1, 0, none⟩ = some (.string ⟨#[97]⟩) := bz.cell 0 rfl
  have z1 : w2.cell? ⟨w.heap.size + 1 + 1, 1, none⟩ = some (.slice (some ⟨w.heap.size, 0, none⟩) 1 1) := bz.cell 1 rfl
  have z2 : w2.cell? ⟨w.heap.size + 1 + 1, 2, none⟩ = some (.slice (some ⟨w.heap.size + 1, 0, none⟩) 1 1) := bz.cell 2 rfl
  have z3 : w2.cell? ⟨w.heap.size + 1 + 1, 3, none⟩ = some (.int .i64 0) := bz.cell 3 rfl
  have z4 : w2.cell? ⟨w.heap.size + 1 + 1, 4, none⟩ = some (.int .i64 0) := bz.cell 4 rfl
  have z5 : w2.cell? ⟨w.heap.size + 1 + 1, 5, none⟩ = some (.int .i64 0) := bz.cell 5 rfl
  have z6 : w2.cell? ⟨w.heap.size + 1 + 1, 6, none⟩ = some (.int .i64 0) := bz.cell 6 rfl
  clear hb2
  go_wp2_with fail
  refine (znext_any (exZ (some ⟨w.heap.size, 0, none⟩) (some ⟨w.heap.size + 1, 0, none⟩)) (t := 64800) hz (by simp [exZ])).mono ?_
  rintro e w3 ⟨n3, ok3, rfl, hP, -, hb3⟩
  obtain ⟨rfl, rfl⟩ := hP.unique exNext1
  clear hP
  clear z0 z1 z2 z3 z4 z5 z6
  replace bz := bz.below hb3 bz.lt
  replace hz := hz.st hb3
  replace hr := hr.st hb3
  replace bel := bel.st hb3
  have z0 : w3.cell? ⟨w.heap.size + 1 + 1, 0, none⟩ = some (.string ⟨#[97]⟩) := bz.cell 0 rfl
  have z1 : w3.cell? ⟨w.heap.size + 1 + 1, 1, none⟩ = some (.slice (some ⟨w.heap.size, 0, none⟩) 1 1) := bz.cell 1 rfl
  have z2 : w3.cell? ⟨w.heap.size + 1 + 1, 2, none⟩ = some (.slice (some ⟨w.heap.size + 1, 0, none⟩) 1 1) := bz.cell 2 rfl
  have z3 : w3.cell? ⟨w.heap.size + 1 + 1, 3, none⟩ = some (.int .i64 0) := bz.cell 3 rfl
  have z4 : w3.cell? ⟨w.heap.size + 1 + 1, 4, none⟩ = some (.int .i64 0) := bz.cell 4 rfl
  have z5 : w3.cell? ⟨w.heap.size + 1 + 1, 5, none⟩ = some (.int .i64 0) := bz.cell 5 rfl
  have z6 : w3.cell? ⟨w.heap.size + 1 + 1, 6, none⟩ = some (.int .i64 0) := bz.cell 6 rfl
  clear hb3
  go_wp2_with fail
  refine (znext_any (exZ (some ⟨w.heap.size, 0, none⟩) (some ⟨w.heap.size + 1, 0, none⟩)) (t := 410400) hz (by simp [exZ])).mono ?_
  rintro e w4 ⟨n4, ok4, rfl, hP, -, hb4⟩
  obtain ⟨rfl, rfl⟩ := hP.unique exNext2
  clear hP
  clear z0 z1 z2 z3 z4 z5 z6
  replace bz := bz.below hb4 bz.lt
  replace hz := hz.st hb4
  replace hr := hr.st hb4
  replace bel := bel.st hb4
  have z0 : w4.cell? ⟨w.heap.size + 1 + 1, 0, none⟩ = some (.string ⟨#[97]⟩) := bz.cell 0 rfl
  have z1 : w4.cell? ⟨w.heap.size + 1 + 1, 1, none⟩ = some (.slice (some ⟨w.heap.size, 0, none⟩) 1 1) := bz.cell 1 rfl
  have z2 : w4.cell? ⟨w.heap.size + 1 + 1, 2, none⟩ = some (.slice (some ⟨w.heap.size + 1, 0, none⟩) 1 1) := bz.cell 2 rfl
  have z3 : w4.cell? ⟨w.heap.size + 1 + 1, 3, none⟩ = some (.int .i64 0) := bz.cell 3 rfl
  have z4 : w4.cell? ⟨w.heap.size + 1 + 1, 4, none⟩ = some (.int .i64 0) := bz.cell 4 rfl
  have z5 : w4.cell? ⟨w.heap.size + 1 + 1, 5, none⟩ = some (.int .i64 0) := bz.cell 5 rfl
  have z6 : w4.cell? ⟨w.heap.size + 1 + 1, 6, none⟩ = some (.int .i64 0) := bz.cell 6 rfl
  clear hb4
  go_wp2_with fail
  have rl := (Own.lit (e := 25) (cs := #[.string ⟨#[98]⟩, .slice none 0 0, .slice none 0 0, .int .i64 0, .int .i64 0, .int .i64 0, .int .i64 0, .string ⟨#[97]⟩, .slice (some ⟨w.heap.size, 0, none⟩) 1 1, .slice (some ⟨w.heap.size + 1, 0, none⟩) 1 1, .int .i64 0, .int .i64 0, .int .i64 0, .int .i64 0]) w4 0 [exB, (exZ (some ⟨w.heap.size, 0, none⟩) (some ⟨w.heap.size + 1, 0, none⟩))] encZ_ok rfl rfl (by omega) (by simp)).rd encZ_ok
  have zl : ZsOk (w4.alloc (.cells #[.string ⟨#[98]⟩, .slice none 0 0, .slice none 0 0, .int .i64 0, .int .i64 0, .int .i64 0, .int .i64 0, .string ⟨#[97]⟩, .slice (some ⟨w.heap.size, 0, none⟩) 1 1, .slice (some ⟨w.heap.size + 1, 0, none⟩) 1 1, .int .i64 0, .int .i64 0, .int .i64 0, .int .i64 0] 25)) [exB, (exZ (some ⟨w.heap.size, 0, none⟩) (some ⟨w.heap.size + 1, 0, none⟩))] := by
    intro y hy
    simp only [List.mem_cons, List.not_mem_nil, or_false] at hy
    rcases hy with rfl | rfl
    · exact ⟨Rd.nil, Rd.nil⟩
    · exact hz.st ((Below.refl _ w4).al _)
  have hbr := (Below.refl _ w4).al (.cells #[.string ⟨#[98]⟩, .slice none 0 0, .slice none 0 0, .int .i64 0, .int .i64 0, .int .i64 0, .int .i64 0, .string ⟨#[97]⟩, .slice (some ⟨w.heap.size, 0, none⟩) 1 1, .slice (some ⟨w.heap.size + 1, 0, none⟩) 1 1, .int .i64 0, .int .i64 0, .int .i64 0, .int .i64 0] 25)
  refine (zfind_any 2 (nm := ⟨#[97]⟩) rl zl (by intro y hy; simp only [List.mem_cons, List.not_mem_nil, or_false] at hy; rcases hy with rfl | rfl <;> exact ⟨by simp [exB, exZ], by simp [exB, exZ]⟩) (by simp)).mono ?_
  unfold FindR
  rw [exFind]
  rintro e w5 ⟨⟨nx, Ax, cx, hx, Sx, dx, sx, gx, fx, mx, yx⟩, rfl, hzx, hox, hb5'⟩
  have hb5 := hbr.st hb5'
  clear rl zl hbr hb5'
  clear z0 z1 z2 z3 z4 z5 z6
  replace bz := bz.below hb5 bz.lt
  replace hz := hz.st hb5
  replace hr := hr.st hb5
  replace bel := bel.st hb5
  have z0 : w5.cell? ⟨w.heap.size + 1 + 1, 0, none⟩ = some (.string ⟨#[97]⟩) := bz.cell 0 rfl
  have z1 : w5.cell? ⟨w.heap.size + 1 + 1, 1, none⟩ = some (.slice (some ⟨w.heap.size, 0, none⟩) 1 1) := bz.cell 1 rfl
  have z2 : w5.cell? ⟨w.heap.size + 1 + 1, 2, none⟩ = some (.slice (some ⟨w.heap.size + 1, 0, none⟩) 1 1) := bz.cell 2 rfl
  have z3 : w5.cell? ⟨w.heap.size + 1 + 1, 3, none⟩ = some (.int .i64 0) := bz.cell 3 rfl
  have z4 : w5.cell? ⟨w.heap.size + 1 + 1, 4, none⟩ = some (.int .i64 0) := bz.cell 4 rfl
  have z5 : w5.cell? ⟨w.heap.size + 1 + 1, 5, none⟩ = some (.int .i64 0) := bz.cell 5 rfl
  have z6 : w5.cell? ⟨w.heap.size + 1 + 1, 6, none⟩ = some (.int .i64 0) := bz.cell 6 rfl
  clear hb5
  have HZX := Lib.hid hzx
  clear hzx
  have bxn := Blk.new w5 #[.string nx, .slice Ax hx.length cx, .slice Sx sx.length dx, .int .i64 gx, .int .i64 fx, .int .i64 mx, .int .i64 yx] 25
  have hbx := (Below.refl _ w5).al (.cells #[.string nx, .slice Ax hx.length cx, .slice Sx sx.length dx, .int .i64 gx, .int .i64 fx, .int .i64 mx, .int .i64 yx] 25)
  have ltz := bz.lt
  go_wp2_with fail
  obtain ⟨Bx, hBx⟩ : ∃ Bx, w5.heap.size = Bx := ⟨_, rfl⟩
  have bx := bxn
  rw [hBx] at bx
  clear z0 z1 z2 z3 z4 z5 z6
  replace bz := bz.below hbx bz.lt
  replace hz := hz.st hbx
  replace hr := hr.st hbx
  replace hox := hox.st hbx
  replace bel := bel.st hbx
  try rw [hBx]
  obtain ⟨w6, hw6⟩ : ∃ w6, w5.alloc (.cells #[.string nx, .slice Ax hx.length cx, .slice Sx sx.length dx, .int .i64 gx, .int .i64 fx, .int .i64 mx, .int .i64 yx] 25) = w6 := ⟨_, rfl⟩
  rw [hw6] at bx bz hz hr hox bel ⊢
  clear hbx bxn hw6 hBx
  have z0 : w6.cell? ⟨w.heap.size + 1 + 1, 0, none⟩ = some (.string ⟨#[97]⟩) := bz.cell 0 rfl
  have z1 : w6.cell? ⟨w.heap.size + 1 + 1, 1, none⟩ = some (.slice (some ⟨w.heap.size, 0, none⟩) 1 1) := bz.cell 1 rfl
  have z2 : w6.cell? ⟨w.heap.size + 1 + 1, 2, none⟩ = some (.slice (some ⟨w.heap.size + 1, 0, none⟩) 1 1) := bz.cell 2 rfl
  have z3 : w6.cell? ⟨w.heap.size + 1 + 1, 3, none⟩ = some (.int .i64 0) := bz.cell 3 rfl
  have z4 : w6.cell? ⟨w.heap.size + 1 + 1, 4, none⟩ = some (.int .i64 0) := bz.cell 4 rfl
  have z5 : w6.cell? ⟨w.heap.size + 1 + 1, 5, none⟩ = some (.int .i64 0) := bz.cell 5 rfl
  have z6 : w6.cell? ⟨w.heap.size + 1 + 1, 6, none⟩ = some (.int .i64 0) := bz.cell 6 rfl
  have x0 : w6.cell? ⟨Bx, 0, none⟩ = some (.string nx) := bx.cell 0 rfl
  have x1 : w6.cell? ⟨Bx, 1, none⟩ = some (.slice Ax hx.length cx) := bx.cell 1 rfl
  have x2 : w6.cell? ⟨Bx, 2, none⟩ = some (.slice Sx sx.length dx) := bx.cell 2 rfl
  have x3 : w6.cell? ⟨Bx, 3, none⟩ = some (.int .i64 gx) := bx.cell 3 rfl
  have x4 : w6.cell? ⟨Bx, 4, none⟩ = some (.int .i64 fx) := bx.cell 4 rfl
  have x5 : w6.cell? ⟨Bx, 5, none⟩ = some (.int .i64 mx) := bx.cell 5 rfl
  have x6 : w6.cell? ⟨Bx, 6, none⟩ = some (.int .i64 yx) := bx.cell 6 rfl
  refine (zcheck_any (exZ (some ⟨w.heap.size, 0, none⟩) (some ⟨w.heap.size + 1, 0, none⟩)) hz).mono ?_
  rw [exCheck]
  rintro e w7 ⟨rfl, hb7⟩
  clear z0 z1 z2 z3 z4 z5 z6 x0 x1 x2 x3 x4 x5 x6
  replace bz := bz.below hb7 bz.lt
  replace bx := bx.below hb7 bx.lt
  replace hz := hz.st hb7
  replace hr := hr.st hb7
  replace hox := hox.st hb7
  replace bel := bel.st hb7
  have z0 : w7.cell? ⟨w.heap.size + 1 + 1, 0, none⟩ = some (.string ⟨#[97]⟩) := bz.cell 0 rfl
  have z1 : w7.cell? ⟨w.heap.size + 1 + 1, 1, none⟩ = some (.slice (some ⟨w.heap.size, 0, none⟩) 1 1) := bz.cell 1 rfl
  have z2 : w7.cell? ⟨w.heap.size + 1 + 1, 2, none⟩ = some (.slice (some ⟨w.heap.size + 1, 0, none⟩) 1 1) := bz.cell 2 rfl
  have z3 : w7.cell? ⟨w.heap.size + 1 + 1, 3, none⟩ = some (.int .i64 0) := bz.cell 3 rfl
  have z4 : w7.cell? ⟨w.heap.size + 1 + 1, 4, none⟩ = some (.int .i64 0) := bz.cell 4 rfl
  have z5 : w7.cell? ⟨w.heap.size + 1 + 1, 5, none⟩ = some (.int .i64 0) := bz.cell 5 rfl
  have z6 : w7.cell? ⟨w.heap.size + 1 + 1, 6, none⟩ = some (.int .i64 0) := bz.cell 6 rfl
  have x0 : w7.cell? ⟨Bx, 0, none⟩ = some (.string nx) := bx.cell 0 rfl
  have x1 : w7.cell? ⟨Bx, 1, none⟩ = some (.slice Ax hx.length cx) := bx.cell 1 rfl
  have x2 : w7.cell? ⟨Bx, 2, none⟩ = some (.slice Sx sx.length dx) := bx.cell 2 rfl
  have x3 : w7.cell? ⟨Bx, 3, none⟩ = some (.int .i64 gx) := bx.cell 3 rfl
  have x4 : w7.cell? ⟨Bx, 4, none⟩ = some (.int .i64 fx) := bx.cell 4 rfl
  have x5 : w7.cell? ⟨Bx, 5, none⟩ = some (.int .i64 mx) := bx.cell 5 rfl
  have x6 : w7.cell? ⟨Bx, 6, none⟩ = some (.int .i64 yx) := bx.cell 6 rfl
  clear hb7
  go_wp2_with fail
  refine (zopen_any (exZ (some ⟨w.heap.size, 0, none⟩) (some ⟨w.heap.size + 1, 0, none⟩)) (t := 28800) hz (by simp [exZ])).mono ?_
  rw [show openB (exZ (some ⟨w.heap.size, 0, none⟩) (some ⟨w.heap.size + 1, 0, none⟩)).hs 28800 = _ from exOpen1]
  rintro e w8 ⟨rfl, hb8⟩
  clear z0 z1 z2 z3 z4 z5 z6 x0 x1 x2 x3 x4 x5 x6
  replace bz := bz.below hb8 bz.lt
  replace bx := bx.below hb8 bx.lt
  replace hz := hz.st hb8
  replace hr := hr.st hb8
  replace hox := hox.st hb8
  replace bel := bel.st hb8
  have z0 : w8.cell? ⟨w.heap.size + 1 + 1, 0, none⟩ = some (.string ⟨#[97]⟩) := bz.cell 0 rfl
  have z1 : w8.cell? ⟨w.heap.size + 1 + 1, 1, none⟩ = some (.slice (some ⟨w.heap.size, 0, none⟩) 1 1) := bz.cell 1 rfl
  have z2 : w8.cell? ⟨w.heap.size + 1 + 1, 2, none⟩ = some (.slice (some ⟨w.heap.size + 1, 0, none⟩) 1 1) := bz.cell 2 rfl
  have z3 : w8.cell? ⟨w.heap.size + 1 + 1, 3, none⟩ = some (.int .i64 0) := bz.cell 3 rfl
  have z4 : w8.cell? ⟨w.heap.size + 1 + 1, 4, none⟩ = some (.int .i64 0) := bz.cell 4 rfl
  have z5 : w8.cell? ⟨w.heap.size + 1 + 1, 5, none⟩ = some (.int .i64 0) := bz.cell 5 rfl
  have z6 : w8.cell? ⟨w.heap.size + 1 + 1, 6, none⟩ = some (.int .i64 0) := bz.cell 6 rfl
  have x0 : w8.cell? ⟨Bx, 0, none⟩ = some (.string nx) := bx.cell 0 rfl
  have x1 : w8.cell? ⟨Bx, 1, none⟩ = some (.slice Ax hx.length cx) := bx.cell 1 rfl
  have x2 : w8.cell? ⟨Bx, 2, none⟩ = some (.slice Sx sx.length dx) := bx.cell 2 rfl
  have x3 : w8.cell? ⟨Bx, 3, none⟩ = some (.int .i64 gx) := bx.cell 3 rfl
  have x4 : w8.cell? ⟨Bx, 4, none⟩ = some (.int .i64 fx) := bx.cell 4 rfl
  have x5 : w8.cell? ⟨Bx, 5, none⟩ = some (.int .i64 mx) := bx.cell 5 rfl
  have x6 : w8.cell? ⟨Bx, 6, none⟩ = some (.int .i64 yx) := bx.cell 6 rfl
  clear hb8
  go_wp2_with fail
  refine (zopen_any (exZ (some ⟨w.heap.size, 0, none⟩) (some ⟨w.heap.size + 1, 0, none⟩)) (t := 28799) hz (by simp [exZ])).mono ?_
  rw [show openB (exZ (some ⟨w.heap.size, 0, none⟩) (some ⟨w.heap.size + 1, 0, none⟩)).hs 28799 = _ from exOpen2]
  rintro e w9 ⟨rfl, hb9⟩
  clear z0 z1 z2 z3 z4 z5 z6 x0 x1 x2 x3 x4 x5 x6
  replace bz := bz.below hb9 bz.lt
  replace bx := bx.below hb9 bx.lt
  replace hz := hz.st hb9
  replace hr := hr.st hb9
  replace hox := hox.st hb9
  replace bel := bel.st hb9
  have z0 : w9.cell? ⟨w.heap.size + 1 + 1, 0, none⟩ = some (.string ⟨#[97]⟩) := bz.cell 0 rfl
  have z1 : w9.cell? ⟨w.heap.size + 1 + 1, 1, none⟩ = some (.slice (some ⟨w.heap.size, 0, none⟩) 1 1) := bz.cell 1 rfl
  have z2 : w9.cell? ⟨w.heap.size + 1 + 1, 2, none⟩ = some (.slice (some ⟨w.heap.size + 1, 0, none⟩) 1 1) := bz.cell 2 rfl
  have z3 : w9.cell? ⟨w.heap.size + 1 + 1, 3, none⟩ = some (.int .i64 0) := bz.cell 3 rfl
  have z4 : w9.cell? ⟨w.heap.size + 1 + 1, 4, none⟩ = some (.int .i64 0) := bz.cell 4 rfl
  have z5 : w9.cell? ⟨w.heap.size + 1 + 1, 5, none⟩ = some (.int .i64 0) := bz.cell 5 rfl
  have z6 : w9.cell? ⟨w.heap.size + 1 + 1, 6, none⟩ = some (.int .i64 0) := bz.cell 6 rfl
  have x0 : w9.cell? ⟨Bx, 0, none⟩ = some (.string nx) := bx.cell 0 rfl
  have x1 : w9.cell? ⟨Bx, 1, none⟩ = some (.slice Ax hx.length cx) := bx.cell 1 rfl
  have x2 : w9.cell? ⟨Bx, 2, none⟩ = some (.slice Sx sx.length dx) := bx.cell 2 rfl
  have x3 : w9.cell? ⟨Bx, 3, none⟩ = some (.int .i64 gx) := bx.cell 3 rfl
  have x4 : w9.cell? ⟨Bx, 4, none⟩ = some (.int .i64 fx) := bx.cell 4 rfl
  have x5 : w9.cell? ⟨Bx, 5, none⟩ = some (.int .i64 mx) := bx.cell 5 rfl
  have x6 : w9.cell? ⟨Bx, 6, none⟩ = some (.int .i64 yx) := bx.cell 6 rfl
  clear hb9
  go_wp2_with fail
  refine (zopen_any (exZ (some ⟨w.heap.size, 0, none⟩) (some ⟨w.heap.size + 1, 0, none⟩)) (t := 64800) hz (by simp [exZ])).mono ?_
  rw [show openB (exZ (some ⟨w.heap.size, 0, none⟩) (some ⟨w.heap.size + 1, 0, none⟩)).hs 64800 = _ from exOpen3]
  rintro e w10 ⟨rfl, hb10⟩
  clear z0 z1 z2 z3 z4 z5 z6 x0 x1 x2 x3 x4 x5 x6
  replace bz := bz.below hb10 bz.lt
  replace bx := bx.below hb10 bx.lt
  replace hz := hz.st hb10
  replace hr := hr.st hb10
  replace hox := hox.st hb10
  replace bel := bel.st hb10
  have z0 : w10.cell? ⟨w.heap.size + 1 + 1, 0, none⟩ = some (.string ⟨#[97]⟩) := bz.cell 0 rfl
  have z1 : w10.cell? ⟨w.heap.size + 1 + 1, 1, none⟩ = some (.slice (some ⟨w.heap.size, 0, none⟩) 1 1) := bz.cell 1 rfl
  have z2 : w10.cell? ⟨w.heap.size + 1 + 1, 2, none⟩ = some (.slice (some ⟨w.heap.size + 1, 0, none⟩) 1 1) := bz.cell 2 rfl
  have z3 : w10.cell? ⟨w.heap.size + 1 + 1, 3, none⟩ = some (.int .i64 0) := bz.cell 3 rfl
  have z4 : w10.cell? ⟨w.heap.size + 1 + 1, 4, none⟩ = some (.int .i64 0) := bz.cell 4 rfl
  have z5 : w10.cell? ⟨w.heap.size + 1 + 1, 5, none⟩ = some (.int .i64 0) := bz.cell 5 rfl
  have z6 : w10.cell? ⟨w.heap.size + 1 + 1, 6, none⟩ = some (.int .i64 0) := bz.cell 6 rfl
  have x0 : w10.cell? ⟨Bx, 0, none⟩ = some (.string nx) := bx.cell 0 rfl
  have x1 : w10.cell? ⟨Bx, 1, none⟩ = some (.slice Ax hx.length cx) := bx.cell 1 rfl
  have x2 : w10.cell? ⟨Bx, 2, none⟩ = some (.slice Sx sx.length dx) := bx.cell 2 rfl
  have x3 : w10.cell? ⟨Bx, 3, none⟩ = some (.int .i64 gx) := bx.cell 3 rfl
  have x4 : w10.cell? ⟨Bx, 4, none⟩ = some (.int .i64 fx) := bx.cell 4 rfl
  have x5 : w10.cell? ⟨Bx, 5, none⟩ = some (.int .i64 mx) := bx.cell 5 rfl
  have x6 : w10.cell? ⟨Bx, 6, none⟩ = some (.int .i64 yx) := bx.cell 6 rfl
  clear hb10
  go_wp2_with fail
  have rl := (Own.lit (e := 42) (cs := #[.int .i64 28800, .int .i64 64800, .int .i64 115200, .int .i64 151200]) w10 0 [((28800, 64800) : Iv), (115200, 151200)] encIv_ok rfl rfl (by omega) (by simp)).rd encIv_ok
  have hbr := (Below.refl _ w10).al (.cells #[.int .i64 28800, .int .i64 64800, .int .i64 115200, .int .i64 151200] 42)
  refine (sameSpans_true c2 2 (hr.st hbr) rl (by simp)).mono ?_
  rintro e w11 ⟨rfl, hb11'⟩
  have hb11 := hbr.st hb11'
  clear rl hbr hb11'
  clear z0 z1 z2 z3 z4 z5 z6 x0 x1 x2 x3 x4 x5 x6
  replace bz := bz.below hb11 bz.lt
  replace bx := bx.below hb11 bx.lt
  replace hz := hz.st hb11
  replace hr := hr.st hb11
  replace hox := hox.st hb11
  replace bel := bel.st hb11
  have z0 : w11.cell? ⟨w.heap.size + 1 + 1, 0, none⟩ = some (.string ⟨#[97]⟩) := bz.cell 0 rfl
  have z1 : w11.cell? ⟨w.heap.size + 1 + 1, 1, none⟩ = some (.slice (some ⟨w.heap.size, 0, none⟩) 1 1) := bz.cell 1 rfl
  have z2 : w11.cell? ⟨w.heap.size + 1 + 1, 2, none⟩ = some (.slice (some ⟨w.heap.size + 1, 0, none⟩) 1 1) := bz.cell 2 rfl
  have z3 : w11.cell? ⟨w.heap.size + 1 + 1, 3, none⟩ = some (.int .i64 0) := bz.cell 3 rfl
  have z4 : w11.cell? ⟨w.heap.size + 1 + 1, 4, none⟩ = some (.int .i64 0) := bz.cell 4 rfl
  have z5 : w11.cell? ⟨w.heap.size + 1 + 1, 5, none⟩ = some (.int .i64 0) := bz.cell 5 rfl
  have z6 : w11.cell? ⟨w.heap.size + 1 + 1, 6, none⟩ = some (.int .i64 0) := bz.cell 6 rfl
  have x0 : w11.cell? ⟨Bx, 0, none⟩ = some (.string nx) := bx.cell 0 rfl
  have x1 : w11.cell? ⟨Bx, 1, none⟩ = some (.slice Ax hx.length cx) := bx.cell 1 rfl
  have x2 : w11.cell? ⟨Bx, 2, none⟩ = some (.slice Sx sx.length dx) := bx.cell 2 rfl
  have x3 : w11.cell? ⟨Bx, 3, none⟩ = some (.int .i64 gx) := bx.cell 3 rfl
  have x4 : w11.cell? ⟨Bx, 4, none⟩ = some (.int .i64 fx) := bx.cell 4 rfl
  have x5 : w11.cell? ⟨Bx, 5, none⟩ = some (.int .i64 mx) := bx.cell 5 rfl
  have x6 : w11.cell? ⟨Bx, 6, none⟩ = some (.int .i64 yx) := bx.cell 6 rfl
  clear hb11
  go_wp2_with fail
  refine (rsameZ_true ⟨nx, Ax, cx, hx, Sx, dx, sx, gx, fx, mx, yx⟩ (exZ (some ⟨w.heap.size, 0, none⟩) (some ⟨w.heap.size + 1, 0, none⟩)) hox hz HZX.out (by have := congrArg (fun q => q.2.1.length) HZX.out; simp [zc, exZ] at this; simp only; omega) (by have := congrArg (fun q => q.2.2.1.length) HZX.out; simp [zc, exZ] at this; simp only; omega)).mono ?_
  rintro e w12 ⟨rfl, hb12⟩
  clear z0 z1 z2 z3 z4 z5 z6 x0 x1 x2 x3 x4 x5 x6
  replace bz := bz.below hb12 bz.lt
  replace bx := bx.below hb12 bx.lt
  replace hz := hz.st hb12
  replace hr := hr.st hb12
  replace hox := hox.st hb12
  replace bel := bel.st hb12
  have z0 : w12.cell? ⟨w.heap.size + 1 + 1, 0, none⟩ = some (.string ⟨#[97]⟩) := bz.cell 0 rfl
  have z1 : w12.cell? ⟨w.heap.size + 1 + 1, 1, none⟩ = some (.slice (some ⟨w.heap.size, 0, none⟩) 1 1) := bz.cell 1 rfl
  have z2 : w12.cell? ⟨w.heap.size + 1 + 1, 2, none⟩ = some (.slice (some ⟨w.heap.size + 1, 0, none⟩) 1 1) := bz.cell 2 rfl
  have z3 : w12.cell? ⟨w.heap.size + 1 + 1, 3, none⟩ = some (.int .i64 0) := bz.cell 3 rfl
  have z4 : w12.cell? ⟨w.heap.size + 1 + 1, 4, none⟩ = some (.int .i64 0) := bz.cell 4 rfl
  have z5 : w12.cell? ⟨w.heap.size + 1 + 1, 5, none⟩ = some (.int .i64 0) := bz.cell 5 rfl
  have z6 : w12.cell? ⟨w.heap.size + 1 + 1, 6, none⟩ = some (.int .i64 0) := bz.cell 6 rfl
  have x0 : w12.cell? ⟨Bx, 0, none⟩ = some (.string nx) := bx.cell 0 rfl
  have x1 : w12.cell? ⟨Bx, 1, none⟩ = some (.slice Ax hx.length cx) := bx.cell 1 rfl
  have x2 : w12.cell? ⟨Bx, 2, none⟩ = some (.slice Sx sx.length dx) := bx.cell 2 rfl
  have x3 : w12.cell? ⟨Bx, 3, none⟩ = some (.int .i64 gx) := bx.cell 3 rfl
  have x4 : w12.cell? ⟨Bx, 4, none⟩ = some (.int .i64 fx) := bx.cell 4 rfl
  have x5 : w12.cell? ⟨Bx, 5, none⟩ = some (.int .i64 mx) := bx.cell 5 rfl
  have x6 : w12.cell? ⟨Bx, 6, none⟩ = some (.int .i64 yx) := bx.cell 6 rfl
  clear hb12
  go_wp2_with fail
  have rl := (Own.lit (e := 25) (cs := #[.string ⟨#[97]⟩, .slice (some ⟨w.heap.size, 0, none⟩) 1 1, .slice (some ⟨w.heap.size + 1, 0, none⟩) 1 1, .int .i64 0, .int .i64 0, .int .i64 0, .int .i64 0, .string ⟨#[97]⟩, .slice (some ⟨w.heap.size, 0, none⟩) 1 1, .slice (some ⟨w.heap.size + 1, 0, none⟩) 1 1, .int .i64 0, .int .i64 0, .int .i64 0, .int .i64 0]) w12 0 [(exZ (some ⟨w.heap.size, 0, none⟩) (some ⟨w.heap.size + 1, 0, none⟩)), (exZ (some ⟨w.heap.size, 0, none⟩) (some ⟨w.heap.size + 1, 0, none⟩))] encZ_ok rfl rfl (by omega) (by simp)).rd encZ_ok
  have hbr := (Below.refl _ w12).al (.cells #[.string ⟨#[97]⟩, .slice (some ⟨w.heap.size, 0, none⟩) 1 1, .slice (some ⟨w.heap.size + 1, 0, none⟩) 1 1, .int .i64 0, .int .i64 0, .int .i64 0, .int .i64 0, .string ⟨#[97]⟩, .slice (some ⟨w.heap.size, 0, none⟩) 1 1, .slice (some ⟨w.heap.size + 1, 0, none⟩) 1 1, .int .i64 0, .int .i64 0, .int .i64 0, .int .i64 0] 25)
  have zl : ZsOk (w12.alloc (.cells #[.string ⟨#[97]⟩, .slice (some ⟨w.heap.size, 0, none⟩) 1 1, .slice (some ⟨w.heap.size + 1, 0, none⟩) 1 1, .int .i64 0, .int .i64 0, .int .i64 0, .int .i64 0, .string ⟨#[97]⟩, .slice (some ⟨w.heap.size, 0, none⟩) 1 1, .slice (some ⟨w.heap.size + 1, 0, none⟩) 1 1, .int .i64 0, .int .i64 0, .int .i64 0, .int .i64 0] 25)) [(exZ (some ⟨w.heap.size, 0, none⟩) (some ⟨w.heap.size + 1, 0, none⟩)), (exZ (some ⟨w.heap.size, 0, none⟩) (some ⟨w.heap.size + 1, 0, none⟩))] := by
    intro y hy
    simp only [List.mem_cons, List.not_mem_nil, or_false, or_self] at hy
    subst hy
    exact hz.st hbr
  refine (zall_any (c := 2) rl zl (by intro y hy; simp only [List.mem_cons, List.not_mem_nil, or_false, or_self] at hy; subst hy; exact ⟨by simp [exZ], by simp [exZ]⟩) (by simp) (by simp) (by simp)).mono ?_
  rw [exAll]
  rintro e w13 ⟨rfl, hb13'⟩
  have hb13 := bel.st (hbr.st hb13')
  clear rl zl hbr hb13'
  clear z0 z1 z2 z3 z4 z5 z6 x0 x1 x2 x3 x4 x5 x6
  go_wp2_with fail
  go_ret
  exact ⟨rfl, hb13⟩
end Go.Proofs.Ytppnkepjipglgaa
