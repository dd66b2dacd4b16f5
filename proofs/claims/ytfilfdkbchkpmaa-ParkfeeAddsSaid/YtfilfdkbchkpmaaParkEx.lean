/- The examples of the chapter, walked; small. -/
import Derived.Test.YtfilfdkbchkpmaaParkExMath
namespace Go.Proofs.Ytfilfdkbchkpmaa
open Go.RowKit Go.Lib

def smallB (z : Zn) : Bool := decide (z.hs.length ≤ 40) && decide (z.ss.length ≤ 40)
theorem smallB_yes {z : Zn} (h : smallB z = true) : z.hs.length ≤ 40 ∧ z.ss.length ≤ 40 := by
  unfold smallB at h
  simpa using h
set_option maxHeartbeats 2000000 in
theorem small_any (z : Zn) (w : World) : Calls Try.prog 10 #[ZV z] w fun e w' => e = .returned (.bool (smallB z)) ∧ Below w.heap.size w w' := by
  obtain ⟨nm, hA, hc', hs, sA, sc, ss, gr, fr, dm, ms⟩ := z
  unfold smallB
  simp only [ZV] at *
  obtain ⟨Y1, hY1⟩ : ∃ Y, w.alloc (.cells #[.string nm, .slice hA hs.length hc', .slice sA ss.length sc, .int .i64 gr, .int .i64 fr, .int .i64 dm, .int .i64 ms] 25) = Y := ⟨_, rfl⟩; have bW : Below w.heap.size w Y1 := (by rw [← hY1]; exact (Below.refl _ w).al _); have bZ : Blk Y1 w.heap.size #[.string nm, .slice hA hs.length hc', .slice sA ss.length sc, .int .i64 gr, .int .i64 fr, .int .i64 dm, .int .i64 ms] 25 := (by rw [← hY1]; exact Blk.new w _ _); have q0 : World.cell? Y1 ⟨w.heap.size, 0, none⟩ = some (.string nm) := bZ.cell 0 rfl; have q1 : World.cell? Y1 ⟨w.heap.size, 1, none⟩ = some (.slice hA hs.length hc') := bZ.cell 1 rfl; have q2 : World.cell? Y1 ⟨w.heap.size, 2, none⟩ = some (.slice sA ss.length sc) := bZ.cell 2 rfl; have q3 : World.cell? Y1 ⟨w.heap.size, 3, none⟩ = some (.int .i64 gr) := bZ.cell 3 rfl; have q4 : World.cell? Y1 ⟨w.heap.size, 4, none⟩ = some (.int .i64 fr) := bZ.cell 4 rfl; have q5 : World.cell? Y1 ⟨w.heap.size, 5, none⟩ = some (.int .i64 dm) := bZ.cell 5 rfl; have q6 : World.cell? Y1 ⟨w.heap.size, 6, none⟩ = some (.int .i64 ms) := bZ.cell 6 rfl
  by_cases h1 : hs.length ≤ 40
  · have h1' : (hs.length : Int) ≤ 40 := by omega
    have R := Lib.hid (show (decide (hs.length ≤ 40) && decide (ss.length ≤ 40)) = decide ((ss.length : Int) ≤ 40) by rw [Bool.eq_iff_iff]; simp [h1]; omega)
    rw [R.out]
    clear R
    go_enter Try.func10, Try.ntmps10
    go_wp2
    all_goals (go_ret; exact ⟨ret_bool (by first | rfl | (rw [Bool.eq_iff_iff]; simp; omega)), bW⟩)
  · have h1' : ¬ (hs.length : Int) ≤ 40 := by omega
    have R := Lib.hid (show (decide (hs.length ≤ 40) && decide (ss.length ≤ 40)) = false by simp; omega)
    rw [R.out]
    clear R
    go_enter Try.func10, Try.ntmps10
    go_wp2
    all_goals (go_ret; exact ⟨rfl, bW⟩)

set_option maxRecDepth 100000 in
set_option maxHeartbeats 4000000 in
theorem example_any (w : World) : Calls Try.prog 28 #[] w fun e w' => ∃ sA, e = .returned (ZV (exP sA)) ∧ ZOk w' (exP sA) ∧ Below w.heap.size w w' := by
  go_enter Try.func28, Try.ntmps28
  go_wp2_with fail
  refine bodyPost_ret (v := ZV (exP (some ⟨w.heap.size + 1, 0, none⟩))) (by simp [results, Try.results28, go_sem, ZV, exP, exS]) rfl ?_
  refine ⟨_, rfl, ⟨Rd.nil, ?_⟩, ((Below.refl _ _).al _).al _⟩
  exact (Own.lit (e := 53) (cs := #[.int .i64 3600, .int .i64 1800, .int .i64 100, .int .i64 0, .int .i64 3600, .int .i64 150]) _ 0 exS encW_ok rfl (by simp) (by omega) (by simp [exS])).rd encW_ok

set_option maxHeartbeats 2000000 in
theorem price_ex {s c : Int} (hs : 0 ≤ s ∧ s ≤ 68719476736) (hv : V exS s = c) (hc : c ≤ 1125899906842624) (w : World) :
    Calls Try.prog 29 #[.int .i64 s, .int .i64 c] w fun e w' => e = .returned (.bool true) ∧ Below w.heap.size w w' := by
  have CE := Lib.hid (fun w => example_any w)
  have CS : Hid (∀ (A : Option Addr) (X : World), ZOk X (exP A) → Calls Try.prog 11 #[ZV (exP A), .int .i64 s] X fun e w' => e = .returned (.tuple #[.int .i64 c, .int .i64 0]) ∧ Below X.heap.size X w') := fun A X h => by
    have := psteps_any (exP A) s h
    obtain ⟨e1, e2⟩ := exStep (A := A) hs hv hc
    rwa [e1, e2] at this
  clear hv hc hs
  go_enter Try.func29, Try.ntmps29
  go_wp2_with fail
  refine (CE.out _).mono ?_
  rintro e w1 ⟨A, rfl, hz, hb1⟩
  have C1 := Lib.hid (CS.out A w1 hz)
  clear hz
  generalize ZV (exP A) = zv at *
  go_wp2_with fail
  refine (C1.out).mono ?_
  rintro e w2 ⟨rfl, hb2⟩
  have bW := hb1.st hb2
  go_wp2
  all_goals (go_ret; exact ⟨rfl, bW⟩)

set_option maxRecDepth 100000 in
set_option maxHeartbeats 16000000 in
theorem alive_any (w0 : World) : Calls Try.prog 13 #[] w0 fun e w' => e = .returned (.bool true) ∧ Below w0.heap.size w0 w' := by
  go_enter Try.func13, Try.ntmps13
  go_wp2_with fail
  refine (example_any _).mono ?_
  rintro e w ⟨sA, rfl, hz, hb0⟩
  have C1 := Lib.hid (fun (X : World) (hX : Below w.heap.size w X) => pfee_any (exP sA) 0 7200 (hz.st hX) (by simp [exP]))
  have C2 := Lib.hid (fun (X : World) (hX : Below w.heap.size w X) => pdays_any (exP sA) 0 172800 (hz.st hX) (by simp [exP]))
  have C3 := Lib.hid (fun (X : World) (hX : Below w.heap.size w X) => plongest_any (exP sA) 0 350 (hz.st hX) (by simp [exP]))
  have C4 := Lib.hid (fun (X : World) (hX : Below w.heap.size w X) => plongest_any (exP sA) 0 99 (hz.st hX) (by simp [exP]))
  have C5 := Lib.hid (fun (X : World) (hX : Below w.heap.size w X) => prefund_any (exP sA) 0 7200 1800 (hz.st hX) (by simp [exP]))
  have C6 := Lib.hid (fun (X : World) (hX : Below w.heap.size w X) => pdays_any (exP sA) 84600 88200 (hz.st hX) (by simp [exP]))
  unfold DayR at C2 C6
  rw [(exLA sA).1, (exLA sA).2] at C1
  rw [(exLB sA).1, (exLB sA).2] at C2
  rw [(exLC sA).1, (exLC sA).2] at C6
  rw [(exRef sA).1, (exRef sA).2] at C5
  have U1 := Lib.hid (fun n r (h : LongR (exP sA) 0 350 n r) => h.unique (exLong1 sA))
  have U2 := Lib.hid (fun n r (h : LongR (exP sA) 0 99 n r) => h.unique (exLong2 sA))
  generalize LongR (exP sA) = LR at *
  clear hz
  generalize exP sA = z at *
  obtain ⟨nm, hA, hc', hs, sA, sc, ss, gr, fr, dm, ms⟩ := z
  simp only [ZV] at *
  obtain ⟨Y1, hY1⟩ : ∃ Y, w.alloc (.cells #[.string nm, .slice hA hs.length hc', .slice sA ss.length sc, .int .i64 gr, .int .i64 fr, .int .i64 dm, .int .i64 ms] 25) = Y := ⟨_, rfl⟩; have bW : Below w.heap.size w Y1 := (by rw [← hY1]; exact (Below.refl _ w).al _); have bZ : Blk Y1 w.heap.size #[.string nm, .slice hA hs.length hc', .slice sA ss.length sc, .int .i64 gr, .int .i64 fr, .int .i64 dm, .int .i64 ms] 25 := (by rw [← hY1]; exact Blk.new w _ _); have q0 : World.cell? Y1 ⟨w.heap.size, 0, none⟩ = some (.string nm) := bZ.cell 0 rfl; have q1 : World.cell? Y1 ⟨w.heap.size, 1, none⟩ = some (.slice hA hs.length hc') := bZ.cell 1 rfl; have q2 : World.cell? Y1 ⟨w.heap.size, 2, none⟩ = some (.slice sA ss.length sc) := bZ.cell 2 rfl; have q3 : World.cell? Y1 ⟨w.heap.size, 3, none⟩ = some (.int .i64 gr) := bZ.cell 3 rfl; have q4 : World.cell? Y1 ⟨w.heap.size, 4, none⟩ = some (.int .i64 fr) := bZ.cell 4 rfl; have q5 : World.cell? Y1 ⟨w.heap.size, 5, none⟩ = some (.int .i64 dm) := bZ.cell 5 rfl; have q6 : World.cell? Y1 ⟨w.heap.size, 6, none⟩ = some (.int .i64 ms) := bZ.cell 6 rfl
  go_wp2_with fail
  refine (C1.out _ bW).mono ?_
  rintro e wn ⟨rfl, hbn⟩
  have bW : Below w.heap.size w wn := (by first | exact bW.st hbn | exact bW.drew.st hbn); have bZ : Blk wn w.heap.size #[.string nm, .slice hA hs.length hc', .slice sA ss.length sc, .int .i64 gr, .int .i64 fr, .int .i64 dm, .int .i64 ms] 25 := (by first | exact bZ.below hbn bZ.lt | exact bZ.drew.below hbn bZ.lt); have q0 : World.cell? wn ⟨w.heap.size, 0, none⟩ = some (.string nm) := bZ.cell 0 rfl; have q1 : World.cell? wn ⟨w.heap.size, 1, none⟩ = some (.slice hA hs.length hc') := bZ.cell 1 rfl; have q2 : World.cell? wn ⟨w.heap.size, 2, none⟩ = some (.slice sA ss.length sc) := bZ.cell 2 rfl; have q3 : World.cell? wn ⟨w.heap.size, 3, none⟩ = some (.int .i64 gr) := bZ.cell 3 rfl; have q4 : World.cell? wn ⟨w.heap.size, 4, none⟩ = some (.int .i64 fr) := bZ.cell 4 rfl; have q5 : World.cell? wn ⟨w.heap.size, 5, none⟩ = some (.int .i64 dm) := bZ.cell 5 rfl; have q6 : World.cell? wn ⟨w.heap.size, 6, none⟩ = some (.int .i64 ms) := bZ.cell 6 rfl
  go_wp2_with fail
  refine (C2.out _ bW).mono ?_
  rintro e wn ⟨A2, c2, rfl, hr2, hbn⟩
  have bW : Below w.heap.size w wn := (by first | exact bW.st hbn | exact bW.drew.st hbn); have bZ : Blk wn w.heap.size #[.string nm, .slice hA hs.length hc', .slice sA ss.length sc, .int .i64 gr, .int .i64 fr, .int .i64 dm, .int .i64 ms] 25 := (by first | exact bZ.below hbn bZ.lt | exact bZ.drew.below hbn bZ.lt); have q0 : World.cell? wn ⟨w.heap.size, 0, none⟩ = some (.string nm) := bZ.cell 0 rfl; have q1 : World.cell? wn ⟨w.heap.size, 1, none⟩ = some (.slice hA hs.length hc') := bZ.cell 1 rfl; have q2 : World.cell? wn ⟨w.heap.size, 2, none⟩ = some (.slice sA ss.length sc) := bZ.cell 2 rfl; have q3 : World.cell? wn ⟨w.heap.size, 3, none⟩ = some (.int .i64 gr) := bZ.cell 3 rfl; have q4 : World.cell? wn ⟨w.heap.size, 4, none⟩ = some (.int .i64 fr) := bZ.cell 4 rfl; have q5 : World.cell? wn ⟨w.heap.size, 5, none⟩ = some (.int .i64 dm) := bZ.cell 5 rfl; have q6 : World.cell? wn ⟨w.heap.size, 6, none⟩ = some (.int .i64 ms) := bZ.cell 6 rfl
  have bZ2 := Below.refl wn.heap.size wn
  go_wp2_with fail
  refine (C3.out _ bW).mono ?_
  rintro e wn ⟨n, r, rfl, hL, hbn⟩
  obtain ⟨rfl, rfl⟩ := U1.out _ _ hL
  have hr2 := hr2.st hbn
  have bW : Below w.heap.size w wn := (by first | exact bW.st hbn | exact bW.drew.st hbn); have bZ : Blk wn w.heap.size #[.string nm, .slice hA hs.length hc', .slice sA ss.length sc, .int .i64 gr, .int .i64 fr, .int .i64 dm, .int .i64 ms] 25 := (by first | exact bZ.below hbn bZ.lt | exact bZ.drew.below hbn bZ.lt); have q0 : World.cell? wn ⟨w.heap.size, 0, none⟩ = some (.string nm) := bZ.cell 0 rfl; have q1 : World.cell? wn ⟨w.heap.size, 1, none⟩ = some (.slice hA hs.length hc') := bZ.cell 1 rfl; have q2 : World.cell? wn ⟨w.heap.size, 2, none⟩ = some (.slice sA ss.length sc) := bZ.cell 2 rfl; have q3 : World.cell? wn ⟨w.heap.size, 3, none⟩ = some (.int .i64 gr) := bZ.cell 3 rfl; have q4 : World.cell? wn ⟨w.heap.size, 4, none⟩ = some (.int .i64 fr) := bZ.cell 4 rfl; have q5 : World.cell? wn ⟨w.heap.size, 5, none⟩ = some (.int .i64 dm) := bZ.cell 5 rfl; have q6 : World.cell? wn ⟨w.heap.size, 6, none⟩ = some (.int .i64 ms) := bZ.cell 6 rfl
  go_wp2_with fail
  refine (C4.out _ bW).mono ?_
  rintro e wn ⟨n, r, rfl, hL, hbn⟩
  obtain ⟨rfl, rfl⟩ := U2.out _ _ hL
  have hr2 := hr2.st hbn
  have bW : Below w.heap.size w wn := (by first | exact bW.st hbn | exact bW.drew.st hbn); have bZ : Blk wn w.heap.size #[.string nm, .slice hA hs.length hc', .slice sA ss.length sc, .int .i64 gr, .int .i64 fr, .int .i64 dm, .int .i64 ms] 25 := (by first | exact bZ.below hbn bZ.lt | exact bZ.drew.below hbn bZ.lt); have q0 : World.cell? wn ⟨w.heap.size, 0, none⟩ = some (.string nm) := bZ.cell 0 rfl; have q1 : World.cell? wn ⟨w.heap.size, 1, none⟩ = some (.slice hA hs.length hc') := bZ.cell 1 rfl; have q2 : World.cell? wn ⟨w.heap.size, 2, none⟩ = some (.slice sA ss.length sc) := bZ.cell 2 rfl; have q3 : World.cell? wn ⟨w.heap.size, 3, none⟩ = some (.int .i64 gr) := bZ.cell 3 rfl; have q4 : World.cell? wn ⟨w.heap.size, 4, none⟩ = some (.int .i64 fr) := bZ.cell 4 rfl; have q5 : World.cell? wn ⟨w.heap.size, 5, none⟩ = some (.int .i64 dm) := bZ.cell 5 rfl; have q6 : World.cell? wn ⟨w.heap.size, 6, none⟩ = some (.int .i64 ms) := bZ.cell 6 rfl
  go_wp2_with fail
  refine (C5.out _ bW).mono ?_
  rintro e wn ⟨rfl, hbn⟩
  have hr2 := hr2.st hbn
  have bW : Below w.heap.size w wn := (by first | exact bW.st hbn | exact bW.drew.st hbn); have bZ : Blk wn w.heap.size #[.string nm, .slice hA hs.length hc', .slice sA ss.length sc, .int .i64 gr, .int .i64 fr, .int .i64 dm, .int .i64 ms] 25 := (by first | exact bZ.below hbn bZ.lt | exact bZ.drew.below hbn bZ.lt); have q0 : World.cell? wn ⟨w.heap.size, 0, none⟩ = some (.string nm) := bZ.cell 0 rfl; have q1 : World.cell? wn ⟨w.heap.size, 1, none⟩ = some (.slice hA hs.length hc') := bZ.cell 1 rfl; have q2 : World.cell? wn ⟨w.heap.size, 2, none⟩ = some (.slice sA ss.length sc) := bZ.cell 2 rfl; have q3 : World.cell? wn ⟨w.heap.size, 3, none⟩ = some (.int .i64 gr) := bZ.cell 3 rfl; have q4 : World.cell? wn ⟨w.heap.size, 4, none⟩ = some (.int .i64 fr) := bZ.cell 4 rfl; have q5 : World.cell? wn ⟨w.heap.size, 5, none⟩ = some (.int .i64 dm) := bZ.cell 5 rfl; have q6 : World.cell? wn ⟨w.heap.size, 6, none⟩ = some (.int .i64 ms) := bZ.cell 6 rfl
  go_wp2_with fail
  refine (C6.out _ bW).mono ?_
  rintro e wn ⟨A3, c3, rfl, hr3, hbn⟩
  have hr2 := hr2.st hbn
  have bW : Below w.heap.size w wn := (by first | exact bW.st hbn | exact bW.drew.st hbn); have bZ : Blk wn w.heap.size #[.string nm, .slice hA hs.length hc', .slice sA ss.length sc, .int .i64 gr, .int .i64 fr, .int .i64 dm, .int .i64 ms] 25 := (by first | exact bZ.below hbn bZ.lt | exact bZ.drew.below hbn bZ.lt); have q0 : World.cell? wn ⟨w.heap.size, 0, none⟩ = some (.string nm) := bZ.cell 0 rfl; have q1 : World.cell? wn ⟨w.heap.size, 1, none⟩ = some (.slice hA hs.length hc') := bZ.cell 1 rfl; have q2 : World.cell? wn ⟨w.heap.size, 2, none⟩ = some (.slice sA ss.length sc) := bZ.cell 2 rfl; have q3 : World.cell? wn ⟨w.heap.size, 3, none⟩ = some (.int .i64 gr) := bZ.cell 3 rfl; have q4 : World.cell? wn ⟨w.heap.size, 4, none⟩ = some (.int .i64 fr) := bZ.cell 4 rfl; have q5 : World.cell? wn ⟨w.heap.size, 5, none⟩ = some (.int .i64 dm) := bZ.cell 5 rfl; have q6 : World.cell? wn ⟨w.heap.size, 6, none⟩ = some (.int .i64 ms) := bZ.cell 6 rfl
  obtain ⟨wA, rfl⟩ : ∃ wA, wA = wn := ⟨_, rfl⟩
  have bW6 := bW
  clear q0 q1 q2 q3 q4 q5 q6 bZ bZ2 hbn
  have bel6 := hb0.st bW6
  clear C1 C2 C3 C4 C5 C6 U1 U2 hb0 bW6
  have ha1 := (Below.refl _ wA).al (.cells #[.int .i64 1000, .int .i64 1000] 3)
  have rl1 := (Own.lit (e := 3) (cs := #[.int .i64 1000, .int .i64 1000]) wA 0 [(1000 : Int), 1000] encI_ok rfl rfl (by omega) (by simp)).rd encI_ok
  go_wp2_with fail
  refine (same_any c2 2 (l := [1000, 1000]) (hr2.st ha1) rl1 (by simp)).mono ?_
  rintro e w7 ⟨rfl, hb7⟩
  have hr3 := hr3.st (ha1.st hb7)
  have bel7 := bel6.st (ha1.st hb7)
  have ha2 := (Below.refl _ w7).al (.cells #[.int .i64 100, .int .i64 100] 3)
  have rl2 := (Own.lit (e := 3) (cs := #[.int .i64 100, .int .i64 100]) w7 0 [(100 : Int), 100] encI_ok rfl rfl (by omega) (by simp)).rd encI_ok
  go_wp2_with fail
  refine (same_any c3 2 (l := [100, 100]) (hr3.st ha2) rl2 (by simp)).mono ?_
  rintro e w8 ⟨rfl, hb8⟩
  have bel8 := bel7.st (ha2.st hb8)
  go_wp2_with fail
  refine (price_ex (by omega) (show V exS 0 = 0 by decide) (by omega) _).mono ?_
  rintro e w9 ⟨rfl, hb9⟩
  have bel8 := bel8.st hb9
  go_wp2_with fail
  refine (price_ex (by omega) (show V exS 1 = 100 by decide) (by omega) _).mono ?_
  rintro e w9 ⟨rfl, hb9⟩
  have bel8 := bel8.st hb9
  go_wp2_with fail
  refine (price_ex (by omega) (show V exS 1800 = 100 by decide) (by omega) _).mono ?_
  rintro e w9 ⟨rfl, hb9⟩
  have bel8 := bel8.st hb9
  go_wp2_with fail
  refine (price_ex (by omega) (show V exS 1801 = 200 by decide) (by omega) _).mono ?_
  rintro e w9 ⟨rfl, hb9⟩
  have bel8 := bel8.st hb9
  go_wp2_with fail
  refine (price_ex (by omega) (show V exS 3601 = 350 by decide) (by omega) _).mono ?_
  rintro e w9 ⟨rfl, hb9⟩
  have bel8 := bel8.st hb9
  go_wp2_with fail
  go_ret
  exact ⟨rfl, bel8⟩
end Go.Proofs.Ytfilfdkbchkpmaa
