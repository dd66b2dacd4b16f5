/- (stay).fee, walked. -/
import Derived.Test.YtfilfdkbchkpmaaParkUntil
namespace Go.Proofs.Ytfilfdkbchkpmaa
open Go.RowKit Go.Lib

set_option maxRecDepth 100000 in
set_option maxHeartbeats 4000000 in
theorem fee_any (z : Zn) (A : Option Addr) (c : Nat) (l : List Iv) (a b d : Int) {w : World} (h : ZOk w z) (hl : Rd encIv 2 w w.heap.size A l) (hE : EnfL z.hs a b l) (hb0 : 0 ≤ b) (hb1 : b ≤ 68719476736) (hd0 : 0 ≤ d) (hd1 : 86400 * d ≤ b)
    (hc : checkE z = 0) (hv : V z.ss (U z.hs a b) ≤ 1125899906842624) :
    Calls Try.prog 32 #[SV z A l.length c, .int .i64 d] w fun e w' => e = .returned (.int .i64 (feeD z a b d)) ∧ Below w.heap.size w w' := by
  have St := (check_st hc).1
  have r0 := V_nonneg St (U z.hs a (min (86400 * d) b))
  have r1 := V_nonneg St (U z.hs a (min (86400 * (d + 1)) b))
  have r2 := V_mono St (U_mono z.hs a (show min (86400 * d) b ≤ b by omega))
  have r3 := V_mono St (U_mono z.hs a (show min (86400 * (d + 1)) b ≤ b by omega))
  have C1 := Lib.hid (fun (X : World) (hX : Below w.heap.size w X) => until_any z A c l a b (min (86400 * (d + 1)) 68719476736) (w := X) (h.st hX) (hl.st hX) hE hb0 hb1 (by omega) (by omega) hc hv)
  have C2 := Lib.hid (fun (X : World) (hX : Below w.heap.size w X) => until_any z A c l a b (86400 * d) (w := X) (h.st hX) (hl.st hX) hE hb0 hb1 (by omega) (by omega) hc hv)
  rw [show min (min (86400 * (d + 1)) 68719476736) b = min (86400 * (d + 1)) b by omega] at C1
  unfold feeD capD
  generalize V z.ss (U z.hs a (min (86400 * d) b)) = v0 at *
  generalize V z.ss (U z.hs a (min (86400 * (d + 1)) b)) = v1 at *
  have g0 : v0 ≤ 1125899906842624 := by omega
  have g1 : v1 ≤ 1125899906842624 := by omega
  clear hE h hl hv hc St r2 r3
  obtain ⟨nm, hA, hc', hs, sA, sc, ss, gr, fr, dm, ms⟩ := z
  simp only [SV] at *
  have H1 : IntKind.i64.wrap (d + 1) = d + 1 := by rw [IntKind.wrap_i64]; omega
  have H2 : IntKind.i64.wrap (86400 * (d + 1)) = 86400 * (d + 1) := by rw [IntKind.wrap_i64]; omega
  have H3 : IntKind.i64.wrap (86400 * d) = 86400 * d := by rw [IntKind.wrap_i64]; omega
  have H4 : IntKind.i64.wrap (v1 - v0) = v1 - v0 := by rw [IntKind.wrap_i64]; omega
  obtain ⟨Y1, hY1⟩ : ∃ Y, w.alloc (.cells #[.string nm, .slice hA hs.length hc', .slice sA ss.length sc, .int .i64 gr, .int .i64 fr, .int .i64 dm, .int .i64 ms, .slice A l.length c] 67) = Y := ⟨_, rfl⟩
  have bW : Below w.heap.size w Y1 := by rw [← hY1]; exact (Below.refl _ w).al _
  have bZ : Blk Y1 w.heap.size #[.string nm, .slice hA hs.length hc', .slice sA ss.length sc, .int .i64 gr, .int .i64 fr, .int .i64 dm, .int .i64 ms, .slice A l.length c] 67 := by rw [← hY1]; exact Blk.new w _ _
  have q0 : World.cell? Y1 ⟨w.heap.size, 0, none⟩ = some (.string nm) := bZ.cell 0 rfl; have q1 : World.cell? Y1 ⟨w.heap.size, 1, none⟩ = some (.slice hA hs.length hc') := bZ.cell 1 rfl; have q2 : World.cell? Y1 ⟨w.heap.size, 2, none⟩ = some (.slice sA ss.length sc) := bZ.cell 2 rfl; have q3 : World.cell? Y1 ⟨w.heap.size, 3, none⟩ = some (.int .i64 gr) := bZ.cell 3 rfl; have q4 : World.cell? Y1 ⟨w.heap.size, 4, none⟩ = some (.int .i64 fr) := bZ.cell 4 rfl; have q5 : World.cell? Y1 ⟨w.heap.size, 5, none⟩ = some (.int .i64 dm) := bZ.cell 5 rfl; have q6 : World.cell? Y1 ⟨w.heap.size, 6, none⟩ = some (.int .i64 ms) := bZ.cell 6 rfl; have q7 : World.cell? Y1 ⟨w.heap.size, 7, none⟩ = some (.slice A l.length c) := bZ.cell 7 rfl
  go_enter Try.func32, Try.ntmps32
  go_wp2_with fail
  go_region_held3 (fun w' => w'.cell? ⟨w.heap.size, 0, none⟩ = some (.string nm) ∧ w'.cell? ⟨w.heap.size, 1, none⟩ = some (.slice hA hs.length hc') ∧ w'.cell? ⟨w.heap.size, 2, none⟩ = some (.slice sA ss.length sc) ∧ w'.cell? ⟨w.heap.size, 3, none⟩ = some (.int .i64 gr) ∧ w'.cell? ⟨w.heap.size, 4, none⟩ = some (.int .i64 fr) ∧ w'.cell? ⟨w.heap.size, 5, none⟩ = some (.int .i64 dm) ∧ w'.cell? ⟨w.heap.size, 6, none⟩ = some (.int .i64 ms) ∧ w'.cell? ⟨w.heap.size, 7, none⟩ = some (.slice A l.length c)) (go_keep) (first | (go_at_call 58; (with_reducible refine (C1.out _ (by first | exact bW | exact bW.drew)).mono ?_); rintro e wn ⟨rfl, hbn⟩; have bW : Below w.heap.size w wn := (by first | exact bW.st hbn | exact bW.drew.st hbn); have bZ : Blk wn w.heap.size #[.string nm, .slice hA hs.length hc', .slice sA ss.length sc, .int .i64 gr, .int .i64 fr, .int .i64 dm, .int .i64 ms, .slice A l.length c] 67 := (by first | exact bZ.below hbn bZ.lt | exact bZ.drew.below hbn bZ.lt); have q0 : World.cell? wn ⟨w.heap.size, 0, none⟩ = some (.string nm) := bZ.cell 0 rfl; have q1 : World.cell? wn ⟨w.heap.size, 1, none⟩ = some (.slice hA hs.length hc') := bZ.cell 1 rfl; have q2 : World.cell? wn ⟨w.heap.size, 2, none⟩ = some (.slice sA ss.length sc) := bZ.cell 2 rfl; have q3 : World.cell? wn ⟨w.heap.size, 3, none⟩ = some (.int .i64 gr) := bZ.cell 3 rfl; have q4 : World.cell? wn ⟨w.heap.size, 4, none⟩ = some (.int .i64 fr) := bZ.cell 4 rfl; have q5 : World.cell? wn ⟨w.heap.size, 5, none⟩ = some (.int .i64 dm) := bZ.cell 5 rfl; have q6 : World.cell? wn ⟨w.heap.size, 6, none⟩ = some (.int .i64 ms) := bZ.cell 6 rfl; have q7 : World.cell? wn ⟨w.heap.size, 7, none⟩ = some (.slice A l.length c) := bZ.cell 7 rfl) | (go_at_call 58; (with_reducible refine (C2.out _ (by first | exact bW | exact bW.drew)).mono ?_); rintro e wn ⟨rfl, hbn⟩; have bW : Below w.heap.size w wn := (by first | exact bW.st hbn | exact bW.drew.st hbn); have bZ : Blk wn w.heap.size #[.string nm, .slice hA hs.length hc', .slice sA ss.length sc, .int .i64 gr, .int .i64 fr, .int .i64 dm, .int .i64 ms, .slice A l.length c] 67 := (by first | exact bZ.below hbn bZ.lt | exact bZ.drew.below hbn bZ.lt); have q0 : World.cell? wn ⟨w.heap.size, 0, none⟩ = some (.string nm) := bZ.cell 0 rfl; have q1 : World.cell? wn ⟨w.heap.size, 1, none⟩ = some (.slice hA hs.length hc') := bZ.cell 1 rfl; have q2 : World.cell? wn ⟨w.heap.size, 2, none⟩ = some (.slice sA ss.length sc) := bZ.cell 2 rfl; have q3 : World.cell? wn ⟨w.heap.size, 3, none⟩ = some (.int .i64 gr) := bZ.cell 3 rfl; have q4 : World.cell? wn ⟨w.heap.size, 4, none⟩ = some (.int .i64 fr) := bZ.cell 4 rfl; have q5 : World.cell? wn ⟨w.heap.size, 5, none⟩ = some (.int .i64 dm) := bZ.cell 5 rfl; have q6 : World.cell? wn ⟨w.heap.size, 6, none⟩ = some (.int .i64 ms) := bZ.cell 6 rfl; have q7 : World.cell? wn ⟨w.heap.size, 7, none⟩ = some (.slice A l.length c) := bZ.cell 7 rfl))
  all_goals
    go_wp2
    all_goals (go_ret; exact ⟨rfl, by first | exact bW | exact bW.drew⟩)
end Go.Proofs.Ytfilfdkbchkpmaa
