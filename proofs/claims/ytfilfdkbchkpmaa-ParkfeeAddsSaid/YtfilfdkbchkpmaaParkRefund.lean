/- parkfee.Refund, walked. -/
import Derived.Test.YtfilfdkbchkpmaaParkFeeW
namespace Go.Proofs.Ytfilfdkbchkpmaa
open Go.RowKit Go.Lib

theorem ref_1 {z : Zn} {a b t : Int} (h : feeE z a b ≠ 0) : refN z a b t = 0 ∧ refE z a b t = feeE z a b := by
  have e : refE z a b t = feeE z a b := by unfold refE; rw [if_pos h]
  exact ⟨by unfold refN; rw [e, if_pos h], e⟩
theorem ref_12 {z : Zn} {a b t : Int} (h : feeE z a b = 0) (h2 : t < a ∨ b < t) : refN z a b t = 0 ∧ refE z a b t = 12 := by
  have e : refE z a b t = 12 := by unfold refE; rw [if_neg (by simp [h]), if_pos h2]
  exact ⟨by unfold refN; rw [e, if_pos (by omega)], e⟩
theorem ref_a {z : Zn} {a b : Int} (h : feeE z a b = 0) (h2 : a < b) : refN z a b a = feeS z a b ∧ refE z a b a = 0 := by
  have e : refE z a b a = 0 := by unfold refE; rw [if_neg (by simp [h]), if_neg (by omega)]
  exact ⟨by unfold refN; rw [e, if_neg (by simp), if_pos rfl], e⟩
theorem ref_s {z : Zn} {a b t : Int} (h : feeE z a b = 0) (h2 : a < t) (h3 : t ≤ b) : refN z a b t = feeS z a b - feeS z a t ∧ refE z a b t = 0 := by
  have e : refE z a b t = 0 := by unfold refE; rw [if_neg (by simp [h]), if_neg (by omega)]
  exact ⟨by unfold refN; rw [e, if_neg (by simp), if_neg (by omega)], e⟩
theorem fee_yes {z : Zn} {a b : Int} (h : feeE z a b = 0) : feeN z a b = feeS z a b ∧ 0 ≤ feeS z a b ∧ feeS z a b ≤ 1125899906842624 ∧ a < b := by
  obtain ⟨h1, h2⟩ := feeE_ok h
  obtain ⟨h3, h4, _⟩ := dayE_ok h1
  exact ⟨(feeE_0 h1 h2).1, feeS_nonneg (check_st h3).1 a b, h2, (daysE_rng h4).2.1⟩

set_option maxRecDepth 100000 in
set_option maxHeartbeats 4000000 in
theorem prefund_any (z : Zn) (a b t : Int) {w : World} (h : ZOk w z) (hh : z.hs.length ≤ 1000) :
    Calls Try.prog 21 #[ZV z, .agg #[.int .i64 a, .int .i64 b], .int .i64 t] w fun e w' => e = .returned (.tuple #[.int .i64 (refN z a b t), .int .i64 (refE z a b t)]) ∧ Below w.heap.size w w' := by
  have CF := Lib.hid (fun (W : World) (hW : Below w.heap.size w W) => pfee_any z a b (h.st hW) hh)
  have CG := Lib.hid (fun (W : World) (hW : Below w.heap.size w W) => pfee_any z a t (h.st hW) hh)
  by_cases hf : feeE z a b = 0
  · obtain ⟨y1, y2, y3, y4⟩ := fee_yes hf
    rw [y1, hf] at CF
    by_cases ht : t < a ∨ b < t
    · obtain ⟨e1, e2⟩ := ref_12 hf ht
      rw [e1, e2]
      clear e1 e2 h hh CG y1 y2 y3 hf
      generalize feeS z a b = r at *
      obtain ⟨nm, hA, hc', hs, sA, sc, ss, gr, fr, dm, ms⟩ := z
      simp only [ZV] at *
      obtain ⟨Y1, hY1⟩ : ∃ Y, w.alloc (.cells #[.string nm, .slice hA hs.length hc', .slice sA ss.length sc, .int .i64 gr, .int .i64 fr, .int .i64 dm, .int .i64 ms] 25) = Y := ⟨_, rfl⟩; obtain ⟨Y2, hY2⟩ : ∃ Y, Y1.alloc (.cells #[.int .i64 a, .int .i64 b] 35) = Y := ⟨_, rfl⟩; have bW : Below w.heap.size w Y2 := (by rw [← hY2, ← hY1]; exact ((Below.refl _ w).al _).al _); have sY1 : Y1.heap.size = w.heap.size + 1 := (by rw [← hY1]; simp); have bZ : Blk Y2 w.heap.size #[.string nm, .slice hA hs.length hc', .slice sA ss.length sc, .int .i64 gr, .int .i64 fr, .int .i64 dm, .int .i64 ms] 25 := (by rw [← hY2, ← hY1]; exact (Blk.new w _ _).alloc _); have bI : Blk Y2 (w.heap.size + 1) #[.int .i64 a, .int .i64 b] 35 := (by rw [← hY2, ← sY1]; exact Blk.new Y1 _ _); have q0 : World.cell? Y2 ⟨w.heap.size, 0, none⟩ = some (.string nm) := bZ.cell 0 rfl; have q1 : World.cell? Y2 ⟨w.heap.size, 1, none⟩ = some (.slice hA hs.length hc') := bZ.cell 1 rfl; have q2 : World.cell? Y2 ⟨w.heap.size, 2, none⟩ = some (.slice sA ss.length sc) := bZ.cell 2 rfl; have q3 : World.cell? Y2 ⟨w.heap.size, 3, none⟩ = some (.int .i64 gr) := bZ.cell 3 rfl; have q4 : World.cell? Y2 ⟨w.heap.size, 4, none⟩ = some (.int .i64 fr) := bZ.cell 4 rfl; have q5 : World.cell? Y2 ⟨w.heap.size, 5, none⟩ = some (.int .i64 dm) := bZ.cell 5 rfl; have q6 : World.cell? Y2 ⟨w.heap.size, 6, none⟩ = some (.int .i64 ms) := bZ.cell 6 rfl; have p0 : World.cell? Y2 ⟨w.heap.size + 1, 0, none⟩ = some (.int .i64 a) := bI.cell 0 rfl; have p1 : World.cell? Y2 ⟨w.heap.size + 1, 1, none⟩ = some (.int .i64 b) := bI.cell 1 rfl
      rcases ht with ht | ht
      · go_enter Try.func21, Try.ntmps21; go_wp2_with fail; refine (CF.out _ bW).mono ?_; rintro e wn ⟨rfl, hbn⟩; have bW : Below w.heap.size w wn := (by first | exact bW.st hbn | exact bW.drew.st hbn); have bZ : Blk wn w.heap.size #[.string nm, .slice hA hs.length hc', .slice sA ss.length sc, .int .i64 gr, .int .i64 fr, .int .i64 dm, .int .i64 ms] 25 := (by first | exact bZ.below hbn bZ.lt | exact bZ.drew.below hbn bZ.lt); have bI : Blk wn (w.heap.size + 1) #[.int .i64 a, .int .i64 b] 35 := (by first | exact bI.below hbn bI.lt | exact bI.drew.below hbn bI.lt); have q0 : World.cell? wn ⟨w.heap.size, 0, none⟩ = some (.string nm) := bZ.cell 0 rfl; have q1 : World.cell? wn ⟨w.heap.size, 1, none⟩ = some (.slice hA hs.length hc') := bZ.cell 1 rfl; have q2 : World.cell? wn ⟨w.heap.size, 2, none⟩ = some (.slice sA ss.length sc) := bZ.cell 2 rfl; have q3 : World.cell? wn ⟨w.heap.size, 3, none⟩ = some (.int .i64 gr) := bZ.cell 3 rfl; have q4 : World.cell? wn ⟨w.heap.size, 4, none⟩ = some (.int .i64 fr) := bZ.cell 4 rfl; have q5 : World.cell? wn ⟨w.heap.size, 5, none⟩ = some (.int .i64 dm) := bZ.cell 5 rfl; have q6 : World.cell? wn ⟨w.heap.size, 6, none⟩ = some (.int .i64 ms) := bZ.cell 6 rfl; have p0 : World.cell? wn ⟨w.heap.size + 1, 0, none⟩ = some (.int .i64 a) := bI.cell 0 rfl; have p1 : World.cell? wn ⟨w.heap.size + 1, 1, none⟩ = some (.int .i64 b) := bI.cell 1 rfl; 
        go_wp2
        all_goals (go_ret2; exact ⟨rfl, bW⟩)
      · have ht' : ¬ t < a := by omega
        go_enter Try.func21, Try.ntmps21; go_wp2_with fail; refine (CF.out _ bW).mono ?_; rintro e wn ⟨rfl, hbn⟩; have bW : Below w.heap.size w wn := (by first | exact bW.st hbn | exact bW.drew.st hbn); have bZ : Blk wn w.heap.size #[.string nm, .slice hA hs.length hc', .slice sA ss.length sc, .int .i64 gr, .int .i64 fr, .int .i64 dm, .int .i64 ms] 25 := (by first | exact bZ.below hbn bZ.lt | exact bZ.drew.below hbn bZ.lt); have bI : Blk wn (w.heap.size + 1) #[.int .i64 a, .int .i64 b] 35 := (by first | exact bI.below hbn bI.lt | exact bI.drew.below hbn bI.lt); have q0 : World.cell? wn ⟨w.heap.size, 0, none⟩ = some (.string nm) := bZ.cell 0 rfl; have q1 : World.cell? wn ⟨w.heap.size, 1, none⟩ = some (.slice hA hs.length hc') := bZ.cell 1 rfl; have q2 : World.cell? wn ⟨w.heap.size, 2, none⟩ = some (.slice sA ss.length sc) := bZ.cell 2 rfl; have q3 : World.cell? wn ⟨w.heap.size, 3, none⟩ = some (.int .i64 gr) := bZ.cell 3 rfl; have q4 : World.cell? wn ⟨w.heap.size, 4, none⟩ = some (.int .i64 fr) := bZ.cell 4 rfl; have q5 : World.cell? wn ⟨w.heap.size, 5, none⟩ = some (.int .i64 dm) := bZ.cell 5 rfl; have q6 : World.cell? wn ⟨w.heap.size, 6, none⟩ = some (.int .i64 ms) := bZ.cell 6 rfl; have p0 : World.cell? wn ⟨w.heap.size + 1, 0, none⟩ = some (.int .i64 a) := bI.cell 0 rfl; have p1 : World.cell? wn ⟨w.heap.size + 1, 1, none⟩ = some (.int .i64 b) := bI.cell 1 rfl; 
        go_wp2
        all_goals (go_ret2; exact ⟨rfl, bW⟩)
    · have ht1 : ¬ t < a := by omega
      have ht2 : ¬ b < t := by omega
      by_cases hta : t = a
      · subst hta
        obtain ⟨e1, e2⟩ := ref_a hf y4
        rw [e1, e2]
        clear e1 e2 h hh CG y1 y2 y3 hf
        generalize feeS z t b = r at *
        obtain ⟨nm, hA, hc', hs, sA, sc, ss, gr, fr, dm, ms⟩ := z
        simp only [ZV] at *
        obtain ⟨a, hta⟩ : ∃ a, a = t := ⟨t, rfl⟩
        subst hta
        obtain ⟨Y1, hY1⟩ : ∃ Y, w.alloc (.cells #[.string nm, .slice hA hs.length hc', .slice sA ss.length sc, .int .i64 gr, .int .i64 fr, .int .i64 dm, .int .i64 ms] 25) = Y := ⟨_, rfl⟩; obtain ⟨Y2, hY2⟩ : ∃ Y, Y1.alloc (.cells #[.int .i64 a, .int .i64 b] 35) = Y := ⟨_, rfl⟩; have bW : Below w.heap.size w Y2 := (by rw [← hY2, ← hY1]; exact ((Below.refl _ w).al _).al _); have sY1 : Y1.heap.size = w.heap.size + 1 := (by rw [← hY1]; simp); have bZ : Blk Y2 w.heap.size #[.string nm, .slice hA hs.length hc', .slice sA ss.length sc, .int .i64 gr, .int .i64 fr, .int .i64 dm, .int .i64 ms] 25 := (by rw [← hY2, ← hY1]; exact (Blk.new w _ _).alloc _); have bI : Blk Y2 (w.heap.size + 1) #[.int .i64 a, .int .i64 b] 35 := (by rw [← hY2, ← sY1]; exact Blk.new Y1 _ _); have q0 : World.cell? Y2 ⟨w.heap.size, 0, none⟩ = some (.string nm) := bZ.cell 0 rfl; have q1 : World.cell? Y2 ⟨w.heap.size, 1, none⟩ = some (.slice hA hs.length hc') := bZ.cell 1 rfl; have q2 : World.cell? Y2 ⟨w.heap.size, 2, none⟩ = some (.slice sA ss.length sc) := bZ.cell 2 rfl; have q3 : World.cell? Y2 ⟨w.heap.size, 3, none⟩ = some (.int .i64 gr) := bZ.cell 3 rfl; have q4 : World.cell? Y2 ⟨w.heap.size, 4, none⟩ = some (.int .i64 fr) := bZ.cell 4 rfl; have q5 : World.cell? Y2 ⟨w.heap.size, 5, none⟩ = some (.int .i64 dm) := bZ.cell 5 rfl; have q6 : World.cell? Y2 ⟨w.heap.size, 6, none⟩ = some (.int .i64 ms) := bZ.cell 6 rfl; have p0 : World.cell? Y2 ⟨w.heap.size + 1, 0, none⟩ = some (.int .i64 a) := bI.cell 0 rfl; have p1 : World.cell? Y2 ⟨w.heap.size + 1, 1, none⟩ = some (.int .i64 b) := bI.cell 1 rfl
        go_enter Try.func21, Try.ntmps21; go_wp2_with fail; refine (CF.out _ bW).mono ?_; rintro e wn ⟨rfl, hbn⟩; have bW : Below w.heap.size w wn := (by first | exact bW.st hbn | exact bW.drew.st hbn); have bZ : Blk wn w.heap.size #[.string nm, .slice hA hs.length hc', .slice sA ss.length sc, .int .i64 gr, .int .i64 fr, .int .i64 dm, .int .i64 ms] 25 := (by first | exact bZ.below hbn bZ.lt | exact bZ.drew.below hbn bZ.lt); have bI : Blk wn (w.heap.size + 1) #[.int .i64 a, .int .i64 b] 35 := (by first | exact bI.below hbn bI.lt | exact bI.drew.below hbn bI.lt); have q0 : World.cell? wn ⟨w.heap.size, 0, none⟩ = some (.string nm) := bZ.cell 0 rfl; have q1 : World.cell? wn ⟨w.heap.size, 1, none⟩ = some (.slice hA hs.length hc') := bZ.cell 1 rfl; have q2 : World.cell? wn ⟨w.heap.size, 2, none⟩ = some (.slice sA ss.length sc) := bZ.cell 2 rfl; have q3 : World.cell? wn ⟨w.heap.size, 3, none⟩ = some (.int .i64 gr) := bZ.cell 3 rfl; have q4 : World.cell? wn ⟨w.heap.size, 4, none⟩ = some (.int .i64 fr) := bZ.cell 4 rfl; have q5 : World.cell? wn ⟨w.heap.size, 5, none⟩ = some (.int .i64 dm) := bZ.cell 5 rfl; have q6 : World.cell? wn ⟨w.heap.size, 6, none⟩ = some (.int .i64 ms) := bZ.cell 6 rfl; have p0 : World.cell? wn ⟨w.heap.size + 1, 0, none⟩ = some (.int .i64 a) := bI.cell 0 rfl; have p1 : World.cell? wn ⟨w.heap.size + 1, 1, none⟩ = some (.int .i64 b) := bI.cell 1 rfl; 
        go_wp2
        all_goals (go_ret2; exact ⟨rfl, bW⟩)
      · obtain ⟨e1, e2⟩ := ref_s hf (show a < t by omega) (show t ≤ b by omega)
        obtain ⟨g1, g2⟩ := feeE_sub hf (show a < t by omega) (show t ≤ b by omega)
        obtain ⟨x1, x2, x3, x4⟩ := fee_yes g1
        rw [x1, g1] at CG
        rw [e1, e2]
        have hne : (t == a) = false := beq_eq_false_iff_ne.2 hta
        clear e1 e2 h hh y1 hf x1 g1
        generalize feeS z a b = r at *
        generalize feeS z a t = q at *
        obtain ⟨nm, hA, hc', hs, sA, sc, ss, gr, fr, dm, ms⟩ := z
        simp only [ZV] at *
        obtain ⟨Y1, hY1⟩ : ∃ Y, w.alloc (.cells #[.string nm, .slice hA hs.length hc', .slice sA ss.length sc, .int .i64 gr, .int .i64 fr, .int .i64 dm, .int .i64 ms] 25) = Y := ⟨_, rfl⟩; obtain ⟨Y2, hY2⟩ : ∃ Y, Y1.alloc (.cells #[.int .i64 a, .int .i64 b] 35) = Y := ⟨_, rfl⟩; have bW : Below w.heap.size w Y2 := (by rw [← hY2, ← hY1]; exact ((Below.refl _ w).al _).al _); have sY1 : Y1.heap.size = w.heap.size + 1 := (by rw [← hY1]; simp); have bZ : Blk Y2 w.heap.size #[.string nm, .slice hA hs.length hc', .slice sA ss.length sc, .int .i64 gr, .int .i64 fr, .int .i64 dm, .int .i64 ms] 25 := (by rw [← hY2, ← hY1]; exact (Blk.new w _ _).alloc _); have bI : Blk Y2 (w.heap.size + 1) #[.int .i64 a, .int .i64 b] 35 := (by rw [← hY2, ← sY1]; exact Blk.new Y1 _ _); have q0 : World.cell? Y2 ⟨w.heap.size, 0, none⟩ = some (.string nm) := bZ.cell 0 rfl; have q1 : World.cell? Y2 ⟨w.heap.size, 1, none⟩ = some (.slice hA hs.length hc') := bZ.cell 1 rfl; have q2 : World.cell? Y2 ⟨w.heap.size, 2, none⟩ = some (.slice sA ss.length sc) := bZ.cell 2 rfl; have q3 : World.cell? Y2 ⟨w.heap.size, 3, none⟩ = some (.int .i64 gr) := bZ.cell 3 rfl; have q4 : World.cell? Y2 ⟨w.heap.size, 4, none⟩ = some (.int .i64 fr) := bZ.cell 4 rfl; have q5 : World.cell? Y2 ⟨w.heap.size, 5, none⟩ = some (.int .i64 dm) := bZ.cell 5 rfl; have q6 : World.cell? Y2 ⟨w.heap.size, 6, none⟩ = some (.int .i64 ms) := bZ.cell 6 rfl; have p0 : World.cell? Y2 ⟨w.heap.size + 1, 0, none⟩ = some (.int .i64 a) := bI.cell 0 rfl; have p1 : World.cell? Y2 ⟨w.heap.size + 1, 1, none⟩ = some (.int .i64 b) := bI.cell 1 rfl
        go_enter Try.func21, Try.ntmps21; go_wp2_with fail; refine (CF.out _ bW).mono ?_; rintro e wn ⟨rfl, hbn⟩; have bW : Below w.heap.size w wn := (by first | exact bW.st hbn | exact bW.drew.st hbn); have bZ : Blk wn w.heap.size #[.string nm, .slice hA hs.length hc', .slice sA ss.length sc, .int .i64 gr, .int .i64 fr, .int .i64 dm, .int .i64 ms] 25 := (by first | exact bZ.below hbn bZ.lt | exact bZ.drew.below hbn bZ.lt); have bI : Blk wn (w.heap.size + 1) #[.int .i64 a, .int .i64 b] 35 := (by first | exact bI.below hbn bI.lt | exact bI.drew.below hbn bI.lt); have q0 : World.cell? wn ⟨w.heap.size, 0, none⟩ = some (.string nm) := bZ.cell 0 rfl; have q1 : World.cell? wn ⟨w.heap.size, 1, none⟩ = some (.slice hA hs.length hc') := bZ.cell 1 rfl; have q2 : World.cell? wn ⟨w.heap.size, 2, none⟩ = some (.slice sA ss.length sc) := bZ.cell 2 rfl; have q3 : World.cell? wn ⟨w.heap.size, 3, none⟩ = some (.int .i64 gr) := bZ.cell 3 rfl; have q4 : World.cell? wn ⟨w.heap.size, 4, none⟩ = some (.int .i64 fr) := bZ.cell 4 rfl; have q5 : World.cell? wn ⟨w.heap.size, 5, none⟩ = some (.int .i64 dm) := bZ.cell 5 rfl; have q6 : World.cell? wn ⟨w.heap.size, 6, none⟩ = some (.int .i64 ms) := bZ.cell 6 rfl; have p0 : World.cell? wn ⟨w.heap.size + 1, 0, none⟩ = some (.int .i64 a) := bI.cell 0 rfl; have p1 : World.cell? wn ⟨w.heap.size + 1, 1, none⟩ = some (.int .i64 b) := bI.cell 1 rfl; 
        go_wp2_with fail
        refine (CG.out _ bW).mono ?_
        rintro e wn ⟨rfl, hbn⟩
        have bW : Below w.heap.size w wn := (by first | exact bW.st hbn | exact bW.drew.st hbn); have bZ : Blk wn w.heap.size #[.string nm, .slice hA hs.length hc', .slice sA ss.length sc, .int .i64 gr, .int .i64 fr, .int .i64 dm, .int .i64 ms] 25 := (by first | exact bZ.below hbn bZ.lt | exact bZ.drew.below hbn bZ.lt); have bI : Blk wn (w.heap.size + 1) #[.int .i64 a, .int .i64 b] 35 := (by first | exact bI.below hbn bI.lt | exact bI.drew.below hbn bI.lt); have q0 : World.cell? wn ⟨w.heap.size, 0, none⟩ = some (.string nm) := bZ.cell 0 rfl; have q1 : World.cell? wn ⟨w.heap.size, 1, none⟩ = some (.slice hA hs.length hc') := bZ.cell 1 rfl; have q2 : World.cell? wn ⟨w.heap.size, 2, none⟩ = some (.slice sA ss.length sc) := bZ.cell 2 rfl; have q3 : World.cell? wn ⟨w.heap.size, 3, none⟩ = some (.int .i64 gr) := bZ.cell 3 rfl; have q4 : World.cell? wn ⟨w.heap.size, 4, none⟩ = some (.int .i64 fr) := bZ.cell 4 rfl; have q5 : World.cell? wn ⟨w.heap.size, 5, none⟩ = some (.int .i64 dm) := bZ.cell 5 rfl; have q6 : World.cell? wn ⟨w.heap.size, 6, none⟩ = some (.int .i64 ms) := bZ.cell 6 rfl; have p0 : World.cell? wn ⟨w.heap.size + 1, 0, none⟩ = some (.int .i64 a) := bI.cell 0 rfl; have p1 : World.cell? wn ⟨w.heap.size + 1, 1, none⟩ = some (.int .i64 b) := bI.cell 1 rfl
        go_wp2
        all_goals (go_ret2; exact ⟨rfl, bW⟩)
  · obtain ⟨e1, e2⟩ := ref_1 (t := t) hf
    rw [e1, e2]
    clear e1 e2 h hh CG
    generalize feeE z a b = r at *
    generalize feeN z a b = q at *
    obtain ⟨nm, hA, hc', hs, sA, sc, ss, gr, fr, dm, ms⟩ := z
    simp only [ZV] at *
    obtain ⟨Y1, hY1⟩ : ∃ Y, w.alloc (.cells #[.string nm, .slice hA hs.length hc', .slice sA ss.length sc, .int .i64 gr, .int .i64 fr, .int .i64 dm, .int .i64 ms] 25) = Y := ⟨_, rfl⟩; obtain ⟨Y2, hY2⟩ : ∃ Y, Y1.alloc (.cells #[.int .i64 a, .int .i64 b] 35) = Y := ⟨_, rfl⟩; have bW : Below w.heap.size w Y2 := (by rw [← hY2, ← hY1]; exact ((Below.refl _ w).al _).al _); have sY1 : Y1.heap.size = w.heap.size + 1 := (by rw [← hY1]; simp); have bZ : Blk Y2 w.heap.size #[.string nm, .slice hA hs.length hc', .slice sA ss.length sc, .int .i64 gr, .int .i64 fr, .int .i64 dm, .int .i64 ms] 25 := (by rw [← hY2, ← hY1]; exact (Blk.new w _ _).alloc _); have bI : Blk Y2 (w.heap.size + 1) #[.int .i64 a, .int .i64 b] 35 := (by rw [← hY2, ← sY1]; exact Blk.new Y1 _ _); have q0 : World.cell? Y2 ⟨w.heap.size, 0, none⟩ = some (.string nm) := bZ.cell 0 rfl; have q1 : World.cell? Y2 ⟨w.heap.size, 1, none⟩ = some (.slice hA hs.length hc') := bZ.cell 1 rfl; have q2 : World.cell? Y2 ⟨w.heap.size, 2, none⟩ = some (.slice sA ss.length sc) := bZ.cell 2 rfl; have q3 : World.cell? Y2 ⟨w.heap.size, 3, none⟩ = some (.int .i64 gr) := bZ.cell 3 rfl; have q4 : World.cell? Y2 ⟨w.heap.size, 4, none⟩ = some (.int .i64 fr) := bZ.cell 4 rfl; have q5 : World.cell? Y2 ⟨w.heap.size, 5, none⟩ = some (.int .i64 dm) := bZ.cell 5 rfl; have q6 : World.cell? Y2 ⟨w.heap.size, 6, none⟩ = some (.int .i64 ms) := bZ.cell 6 rfl; have p0 : World.cell? Y2 ⟨w.heap.size + 1, 0, none⟩ = some (.int .i64 a) := bI.cell 0 rfl; have p1 : World.cell? Y2 ⟨w.heap.size + 1, 1, none⟩ = some (.int .i64 b) := bI.cell 1 rfl
    go_enter Try.func21, Try.ntmps21; go_wp2_with fail; refine (CF.out _ bW).mono ?_; rintro e wn ⟨rfl, hbn⟩; have bW : Below w.heap.size w wn := (by first | exact bW.st hbn | exact bW.drew.st hbn); have bZ : Blk wn w.heap.size #[.string nm, .slice hA hs.length hc', .slice sA ss.length sc, .int .i64 gr, .int .i64 fr, .int .i64 dm, .int .i64 ms] 25 := (by first | exact bZ.below hbn bZ.lt | exact bZ.drew.below hbn bZ.lt); have bI : Blk wn (w.heap.size + 1) #[.int .i64 a, .int .i64 b] 35 := (by first | exact bI.below hbn bI.lt | exact bI.drew.below hbn bI.lt); have q0 : World.cell? wn ⟨w.heap.size, 0, none⟩ = some (.string nm) := bZ.cell 0 rfl; have q1 : World.cell? wn ⟨w.heap.size, 1, none⟩ = some (.slice hA hs.length hc') := bZ.cell 1 rfl; have q2 : World.cell? wn ⟨w.heap.size, 2, none⟩ = some (.slice sA ss.length sc) := bZ.cell 2 rfl; have q3 : World.cell? wn ⟨w.heap.size, 3, none⟩ = some (.int .i64 gr) := bZ.cell 3 rfl; have q4 : World.cell? wn ⟨w.heap.size, 4, none⟩ = some (.int .i64 fr) := bZ.cell 4 rfl; have q5 : World.cell? wn ⟨w.heap.size, 5, none⟩ = some (.int .i64 dm) := bZ.cell 5 rfl; have q6 : World.cell? wn ⟨w.heap.size, 6, none⟩ = some (.int .i64 ms) := bZ.cell 6 rfl; have p0 : World.cell? wn ⟨w.heap.size + 1, 0, none⟩ = some (.int .i64 a) := bI.cell 0 rfl; have p1 : World.cell? wn ⟨w.heap.size + 1, 1, none⟩ = some (.int .i64 b) := bI.cell 1 rfl; 
    go_wp2
    all_goals (go_ret2; exact ⟨rfl, bW⟩)
end Go.Proofs.Ytfilfdkbchkpmaa
