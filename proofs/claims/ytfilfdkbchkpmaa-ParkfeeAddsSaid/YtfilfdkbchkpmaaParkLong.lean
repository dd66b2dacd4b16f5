/- parkfee.Longest's closure and Longest, walked. -/
import Derived.Test.YtfilfdkbchkpmaaParkSearch
import Derived.Test.YtfilfdkbchkpmaaParkRefund
namespace Go.Proofs.Ytfilfdkbchkpmaa
open Go.RowKit Go.Lib

def badB (z : Zn) (f cents k : Int) : Bool := !decide (paid z f cents (f + k + 1))

set_option maxRecDepth 100000 in
set_option maxHeartbeats 4000000 in
theorem lclo_any (z : Zn) (f cents k : Int) (Bz Bf Bc : Nat) {w : World} (h : ZOk w z) (hh : z.hs.length ≤ 1000) (hk0 : 0 ≤ k) (hf0 : 0 ≤ f) (hk1 : f + k + 1 ≤ 68719476736)
    (hz : Blk w Bz #[.string z.name, .slice z.hA z.hs.length z.hc, .slice z.sA z.ss.length z.sc, .int .i64 z.grace, .int .i64 z.free, .int .i64 z.dayMax, .int .i64 z.maxStay] 25)
    (cf : w.cell? ⟨Bf, 0, none⟩ = some (.int .i64 f)) (cc : w.cell? ⟨Bc, 0, none⟩ = some (.int .i64 cents)) (hBc : Bc < w.heap.size) :
    Calls Try.prog 39 #[.int .i64 k, .pointer (some ⟨Bz, 0, none⟩), .pointer (some ⟨Bf, 0, none⟩), .pointer (some ⟨Bc, 0, none⟩)] w fun e w' =>
      e = .returned (.bool (badB z f cents k)) ∧ Below w.heap.size w w' := by
  have CF := Lib.hid (pfee_any z f (f + k + 1) h hh)
  by_cases hf : feeE z f (f + k + 1) = 0
  · obtain ⟨y1, y2, y3, y4⟩ := fee_yes hf
    rw [y1, hf] at CF
    have e : badB z f cents k = decide (cents < feeS z f (f + k + 1)) := by
      unfold badB paid
      rw [Bool.eq_iff_iff]
      simp [hf]
    rw [e]
    clear e hf h hh y1 y4
    generalize feeS z f (f + k + 1) = r at *
    obtain ⟨nm, hA, hc', hs, sA, sc, ss, gr, fr, dm, ms⟩ := z
    simp only [ZV] at *
    have q0 : w.cell? ⟨Bz, 0, none⟩ = some (.string nm) := hz.cell 0 rfl
    have q1 : w.cell? ⟨Bz, 1, none⟩ = some (.slice hA hs.length hc') := hz.cell 1 rfl
    have q2 : w.cell? ⟨Bz, 2, none⟩ = some (.slice sA ss.length sc) := hz.cell 2 rfl
    have q3 : w.cell? ⟨Bz, 3, none⟩ = some (.int .i64 gr) := hz.cell 3 rfl
    have q4 : w.cell? ⟨Bz, 4, none⟩ = some (.int .i64 fr) := hz.cell 4 rfl
    have q5 : w.cell? ⟨Bz, 5, none⟩ = some (.int .i64 dm) := hz.cell 5 rfl
    have q6 : w.cell? ⟨Bz, 6, none⟩ = some (.int .i64 ms) := hz.cell 6 rfl
    go_enter Try.func39, Try.ntmps39
    go_wp2_with fail
    refine (CF.out).mono ?_
    rintro e w1 ⟨rfl, hb1⟩
    have c1 := (hb1.cell (p := ⟨Bc, 0, none⟩) hBc).trans cc
    go_wp2
    all_goals (go_ret; exact ⟨rfl, hb1⟩)
  · have e : badB z f cents k = true := by
      unfold badB paid
      simp [hf]
    rw [e]
    clear e h hh
    generalize feeE z f (f + k + 1) = r at *
    generalize feeN z f (f + k + 1) = q at *
    obtain ⟨nm, hA, hc', hs, sA, sc, ss, gr, fr, dm, ms⟩ := z
    simp only [ZV] at *
    have q0 : w.cell? ⟨Bz, 0, none⟩ = some (.string nm) := hz.cell 0 rfl
    have q1 : w.cell? ⟨Bz, 1, none⟩ = some (.slice hA hs.length hc') := hz.cell 1 rfl
    have q2 : w.cell? ⟨Bz, 2, none⟩ = some (.slice sA ss.length sc) := hz.cell 2 rfl
    have q3 : w.cell? ⟨Bz, 3, none⟩ = some (.int .i64 gr) := hz.cell 3 rfl
    have q4 : w.cell? ⟨Bz, 4, none⟩ = some (.int .i64 fr) := hz.cell 4 rfl
    have q5 : w.cell? ⟨Bz, 5, none⟩ = some (.int .i64 dm) := hz.cell 5 rfl
    have q6 : w.cell? ⟨Bz, 6, none⟩ = some (.int .i64 ms) := hz.cell 6 rfl
    go_enter Try.func39, Try.ntmps39
    go_wp2_with fail
    refine (CF.out).mono ?_
    rintro e w1 ⟨rfl, hb1⟩
    go_wp2
    all_goals (go_ret; exact ⟨rfl, hb1⟩)
theorem LongR.no {z : Zn} {f cents r : Int} (h : longE0 z f cents = r) (hr : r ≠ 0) : LongR z f cents 0 r := ⟨fun _ => ⟨rfl, h.symm⟩, fun q => absurd (h.symm.trans q) hr⟩
theorem long_1 {z : Zn} {f cents : Int} (h : checkE z ≠ 0) : longE0 z f cents = checkE z := by unfold longE0; rw [if_pos h]
theorem long_2 {z : Zn} {f cents : Int} (h : checkE z = 0) (h2 : f < 0 ∨ 68719476736 ≤ f) : longE0 z f cents = 12 := by unfold longE0; rw [if_neg (by simp [h]), if_pos h2]
theorem long_3 {z : Zn} {f cents : Int} (h : checkE z = 0) (h2 : ¬ (f < 0 ∨ 68719476736 ≤ f)) (h3 : cents < 0 ∨ 1125899906842624 < cents) : longE0 z f cents = 13 := by unfold longE0; rw [if_neg (by simp [h]), if_neg h2, if_pos h3]
theorem long_0 {z : Zn} {f cents : Int} (h : checkE z = 0) (h2 : ¬ (f < 0 ∨ 68719476736 ≤ f)) (h3 : ¬ (cents < 0 ∨ 1125899906842624 < cents)) : longE0 z f cents = 0 := by unfold longE0; rw [if_neg (by simp [h]), if_neg h2, if_neg h3]
theorem LongR.zero {z : Zn} {f cents : Int} (h : longE0 z f cents = 0) (hk : Lng z f cents 0) : LongR z f cents 0 27 := ⟨fun q => absurd h q, fun _ => ⟨0, hk, fun _ => ⟨rfl, rfl⟩, fun q => absurd rfl q⟩⟩
theorem LongR.pos {z : Zn} {f cents k : Int} (h : longE0 z f cents = 0) (hk : Lng z f cents k) (h0 : k ≠ 0) : LongR z f cents (f + k) 0 := ⟨fun q => absurd h q, fun _ => ⟨k, hk, fun q => absurd q h0, fun _ => ⟨rfl, rfl⟩⟩⟩
theorem lng_of {z : Zn} {f cents k : Int} (h0 : 0 ≤ k) (h1 : k ≤ limZ z f - f) (h2 : 0 < k → badB z f cents (k - 1) = false) (h3 : k < limZ z f - f → badB z f cents k = true) : Lng z f cents k := by
  refine ⟨h0, h1, fun q => ?_, fun q => ?_⟩
  · have := h2 q
    unfold badB at this
    rw [show f + (k - 1) + 1 = f + k by omega] at this
    simpa using this
  · have := h3 q
    unfold badB at this
    simpa using this

set_option maxRecDepth 100000 in
set_option maxHeartbeats 4000000 in
theorem plongest_any (z : Zn) (f cents : Int) {w : World} (h : ZOk w z) (hh : z.hs.length ≤ 1000) :
    Calls Try.prog 19 #[ZV z, .int .i64 f, .int .i64 cents] w fun e w' => ∃ n r, e = .returned (.tuple #[.int .i64 n, .int .i64 r]) ∧ LongR z f cents n r ∧ Below w.heap.size w w' := by
  have CC := Lib.hid (fun (W : World) (hW : Below w.heap.size w W) => zcheck_any z (h.st hW))
  by_cases hc : checkE z = 0
  · rw [hc] at CC
    by_cases hf : f < 0 ∨ 68719476736 ≤ f
    · have HR := Lib.hid (LongR.no (cents := cents) (long_2 hc hf) (by omega))
      clear h
      generalize LongR z f cents = LR at *
      obtain ⟨nm, hA, hc', hs, sA, sc, ss, gr, fr, dm, ms⟩ := z
      simp only [ZV] at *
      obtain ⟨Y1, hY1⟩ : ∃ Y, w.alloc (.cells #[.string nm, .slice hA hs.length hc', .slice sA ss.length sc, .int .i64 gr, .int .i64 fr, .int .i64 dm, .int .i64 ms] 25) = Y := ⟨_, rfl⟩; obtain ⟨Y2, hY2⟩ : ∃ Y, Y1.alloc (.cells #[.int .i64 f] 3) = Y := ⟨_, rfl⟩; obtain ⟨Y3, hY3⟩ : ∃ Y, Y2.alloc (.cells #[.int .i64 cents] 3) = Y := ⟨_, rfl⟩; have bW : Below w.heap.size w Y3 := (by rw [← hY3, ← hY2, ← hY1]; exact (((Below.refl _ w).al _).al _).al _); have sY1 : Y1.heap.size = w.heap.size + 1 := (by rw [← hY1]; simp); have sY2 : Y2.heap.size = w.heap.size + 2 := (by rw [← hY2]; simp [sY1]); have bZ : Blk Y3 w.heap.size #[.string nm, .slice hA hs.length hc', .slice sA ss.length sc, .int .i64 gr, .int .i64 fr, .int .i64 dm, .int .i64 ms] 25 := (by rw [← hY3, ← hY2, ← hY1]; exact ((Blk.new w _ _).alloc _).alloc _); have bF : Blk Y3 (w.heap.size + 1) #[.int .i64 f] 3 := (by rw [← hY3, ← hY2, ← sY1]; exact (Blk.new Y1 _ _).alloc _); have bC : Blk Y3 (w.heap.size + 2) #[.int .i64 cents] 3 := (by rw [← hY3, ← sY2]; exact Blk.new Y2 _ _); have q0 : World.cell? Y3 ⟨w.heap.size, 0, none⟩ = some (.string nm) := bZ.cell 0 rfl; have q1 : World.cell? Y3 ⟨w.heap.size, 1, none⟩ = some (.slice hA hs.length hc') := bZ.cell 1 rfl; have q2 : World.cell? Y3 ⟨w.heap.size, 2, none⟩ = some (.slice sA ss.length sc) := bZ.cell 2 rfl; have q3 : World.cell? Y3 ⟨w.heap.size, 3, none⟩ = some (.int .i64 gr) := bZ.cell 3 rfl; have q4 : World.cell? Y3 ⟨w.heap.size, 4, none⟩ = some (.int .i64 fr) := bZ.cell 4 rfl; have q5 : World.cell? Y3 ⟨w.heap.size, 5, none⟩ = some (.int .i64 dm) := bZ.cell 5 rfl; have q6 : World.cell? Y3 ⟨w.heap.size, 6, none⟩ = some (.int .i64 ms) := bZ.cell 6 rfl; have p0 : World.cell? Y3 ⟨w.heap.size + 1, 0, none⟩ = some (.int .i64 f) := bF.cell 0 rfl; have p1 : World.cell? Y3 ⟨w.heap.size + 2, 0, none⟩ = some (.int .i64 cents) := bC.cell 0 rfl
      rcases hf with hf | hf
      · go_enter Try.func19, Try.ntmps19; go_wp2_with fail; refine (CC.out _ bW).mono ?_; rintro e wn ⟨rfl, hbn⟩; have bW : Below w.heap.size w wn := (by first | exact bW.st hbn | exact bW.drew.st hbn); have bZ : Blk wn w.heap.size #[.string nm, .slice hA hs.length hc', .slice sA ss.length sc, .int .i64 gr, .int .i64 fr, .int .i64 dm, .int .i64 ms] 25 := (by first | exact bZ.below hbn bZ.lt | exact bZ.drew.below hbn bZ.lt); have bF : Blk wn (w.heap.size + 1) #[.int .i64 f] 3 := (by first | exact bF.below hbn bF.lt | exact bF.drew.below hbn bF.lt); have bC : Blk wn (w.heap.size + 2) #[.int .i64 cents] 3 := (by first | exact bC.below hbn bC.lt | exact bC.drew.below hbn bC.lt); have q0 : World.cell? wn ⟨w.heap.size, 0, none⟩ = some (.string nm) := bZ.cell 0 rfl; have q1 : World.cell? wn ⟨w.heap.size, 1, none⟩ = some (.slice hA hs.length hc') := bZ.cell 1 rfl; have q2 : World.cell? wn ⟨w.heap.size, 2, none⟩ = some (.slice sA ss.length sc) := bZ.cell 2 rfl; have q3 : World.cell? wn ⟨w.heap.size, 3, none⟩ = some (.int .i64 gr) := bZ.cell 3 rfl; have q4 : World.cell? wn ⟨w.heap.size, 4, none⟩ = some (.int .i64 fr) := bZ.cell 4 rfl; have q5 : World.cell? wn ⟨w.heap.size, 5, none⟩ = some (.int .i64 dm) := bZ.cell 5 rfl; have q6 : World.cell? wn ⟨w.heap.size, 6, none⟩ = some (.int .i64 ms) := bZ.cell 6 rfl; have p0 : World.cell? wn ⟨w.heap.size + 1, 0, none⟩ = some (.int .i64 f) := bF.cell 0 rfl; have p1 : World.cell? wn ⟨w.heap.size + 2, 0, none⟩ = some (.int .i64 cents) := bC.cell 0 rfl
        go_wp2
        all_goals (go_ret2; exact ⟨_, _, rfl, HR.out, bW⟩)
      · have hf' : ¬ f < 0 := by omega
        go_enter Try.func19, Try.ntmps19; go_wp2_with fail; refine (CC.out _ bW).mono ?_; rintro e wn ⟨rfl, hbn⟩; have bW : Below w.heap.size w wn := (by first | exact bW.st hbn | exact bW.drew.st hbn); have bZ : Blk wn w.heap.size #[.string nm, .slice hA hs.length hc', .slice sA ss.length sc, .int .i64 gr, .int .i64 fr, .int .i64 dm, .int .i64 ms] 25 := (by first | exact bZ.below hbn bZ.lt | exact bZ.drew.below hbn bZ.lt); have bF : Blk wn (w.heap.size + 1) #[.int .i64 f] 3 := (by first | exact bF.below hbn bF.lt | exact bF.drew.below hbn bF.lt); have bC : Blk wn (w.heap.size + 2) #[.int .i64 cents] 3 := (by first | exact bC.below hbn bC.lt | exact bC.drew.below hbn bC.lt); have q0 : World.cell? wn ⟨w.heap.size, 0, none⟩ = some (.string nm) := bZ.cell 0 rfl; have q1 : World.cell? wn ⟨w.heap.size, 1, none⟩ = some (.slice hA hs.length hc') := bZ.cell 1 rfl; have q2 : World.cell? wn ⟨w.heap.size, 2, none⟩ = some (.slice sA ss.length sc) := bZ.cell 2 rfl; have q3 : World.cell? wn ⟨w.heap.size, 3, none⟩ = some (.int .i64 gr) := bZ.cell 3 rfl; have q4 : World.cell? wn ⟨w.heap.size, 4, none⟩ = some (.int .i64 fr) := bZ.cell 4 rfl; have q5 : World.cell? wn ⟨w.heap.size, 5, none⟩ = some (.int .i64 dm) := bZ.cell 5 rfl; have q6 : World.cell? wn ⟨w.heap.size, 6, none⟩ = some (.int .i64 ms) := bZ.cell 6 rfl; have p0 : World.cell? wn ⟨w.heap.size + 1, 0, none⟩ = some (.int .i64 f) := bF.cell 0 rfl; have p1 : World.cell? wn ⟨w.heap.size + 2, 0, none⟩ = some (.int .i64 cents) := bC.cell 0 rfl
        go_wp2
        all_goals (go_ret2; exact ⟨_, _, rfl, HR.out, bW⟩)
    · by_cases hm : cents < 0 ∨ 1125899906842624 < cents
      · have HR := Lib.hid (LongR.no (long_3 hc hf hm) (by omega))
        clear h
        generalize LongR z f cents = LR at *
        obtain ⟨nm, hA, hc', hs, sA, sc, ss, gr, fr, dm, ms⟩ := z
        simp only [ZV] at *
        obtain ⟨Y1, hY1⟩ : ∃ Y, w.alloc (.cells #[.string nm, .slice hA hs.length hc', .slice sA ss.length sc, .int .i64 gr, .int .i64 fr, .int .i64 dm, .int .i64 ms] 25) = Y := ⟨_, rfl⟩; obtain ⟨Y2, hY2⟩ : ∃ Y, Y1.alloc (.cells #[.int .i64 f] 3) = Y := ⟨_, rfl⟩; obtain ⟨Y3, hY3⟩ : ∃ Y, Y2.alloc (.cells #[.int .i64 cents] 3) = Y := ⟨_, rfl⟩; have bW : Below w.heap.size w Y3 := (by rw [← hY3, ← hY2, ← hY1]; exact (((Below.refl _ w).al _).al _).al _); have sY1 : Y1.heap.size = w.heap.size + 1 := (by rw [← hY1]; simp); have sY2 : Y2.heap.size = w.heap.size + 2 := (by rw [← hY2]; simp [sY1]); have bZ : Blk Y3 w.heap.size #[.string nm, .slice hA hs.length hc', .slice sA ss.length sc, .int .i64 gr, .int .i64 fr, .int .i64 dm, .int .i64 ms] 25 := (by rw [← hY3, ← hY2, ← hY1]; exact ((Blk.new w _ _).alloc _).alloc _); have bF : Blk Y3 (w.heap.size + 1) #[.int .i64 f] 3 := (by rw [← hY3, ← hY2, ← sY1]; exact (Blk.new Y1 _ _).alloc _); have bC : Blk Y3 (w.heap.size + 2) #[.int .i64 cents] 3 := (by rw [← hY3, ← sY2]; exact Blk.new Y2 _ _); have q0 : World.cell? Y3 ⟨w.heap.size, 0, none⟩ = some (.string nm) := bZ.cell 0 rfl; have q1 : World.cell? Y3 ⟨w.heap.size, 1, none⟩ = some (.slice hA hs.length hc') := bZ.cell 1 rfl; have q2 : World.cell? Y3 ⟨w.heap.size, 2, none⟩ = some (.slice sA ss.length sc) := bZ.cell 2 rfl; have q3 : World.cell? Y3 ⟨w.heap.size, 3, none⟩ = some (.int .i64 gr) := bZ.cell 3 rfl; have q4 : World.cell? Y3 ⟨w.heap.size, 4, none⟩ = some (.int .i64 fr) := bZ.cell 4 rfl; have q5 : World.cell? Y3 ⟨w.heap.size, 5, none⟩ = some (.int .i64 dm) := bZ.cell 5 rfl; have q6 : World.cell? Y3 ⟨w.heap.size, 6, none⟩ = some (.int .i64 ms) := bZ.cell 6 rfl; have p0 : World.cell? Y3 ⟨w.heap.size + 1, 0, none⟩ = some (.int .i64 f) := bF.cell 0 rfl; have p1 : World.cell? Y3 ⟨w.heap.size + 2, 0, none⟩ = some (.int .i64 cents) := bC.cell 0 rfl
        have hf0 : 0 ≤ f := by omega
        have hf1 : f < 68719476736 := by omega
        rcases hm with hm | hm
        · go_enter Try.func19, Try.ntmps19; go_wp2_with fail; refine (CC.out _ bW).mono ?_; rintro e wn ⟨rfl, hbn⟩; have bW : Below w.heap.size w wn := (by first | exact bW.st hbn | exact bW.drew.st hbn); have bZ : Blk wn w.heap.size #[.string nm, .slice hA hs.length hc', .slice sA ss.length sc, .int .i64 gr, .int .i64 fr, .int .i64 dm, .int .i64 ms] 25 := (by first | exact bZ.below hbn bZ.lt | exact bZ.drew.below hbn bZ.lt); have bF : Blk wn (w.heap.size + 1) #[.int .i64 f] 3 := (by first | exact bF.below hbn bF.lt | exact bF.drew.below hbn bF.lt); have bC : Blk wn (w.heap.size + 2) #[.int .i64 cents] 3 := (by first | exact bC.below hbn bC.lt | exact bC.drew.below hbn bC.lt); have q0 : World.cell? wn ⟨w.heap.size, 0, none⟩ = some (.string nm) := bZ.cell 0 rfl; have q1 : World.cell? wn ⟨w.heap.size, 1, none⟩ = some (.slice hA hs.length hc') := bZ.cell 1 rfl; have q2 : World.cell? wn ⟨w.heap.size, 2, none⟩ = some (.slice sA ss.length sc) := bZ.cell 2 rfl; have q3 : World.cell? wn ⟨w.heap.size, 3, none⟩ = some (.int .i64 gr) := bZ.cell 3 rfl; have q4 : World.cell? wn ⟨w.heap.size, 4, none⟩ = some (.int .i64 fr) := bZ.cell 4 rfl; have q5 : World.cell? wn ⟨w.heap.size, 5, none⟩ = some (.int .i64 dm) := bZ.cell 5 rfl; have q6 : World.cell? wn ⟨w.heap.size, 6, none⟩ = some (.int .i64 ms) := bZ.cell 6 rfl; have p0 : World.cell? wn ⟨w.heap.size + 1, 0, none⟩ = some (.int .i64 f) := bF.cell 0 rfl; have p1 : World.cell? wn ⟨w.heap.size + 2, 0, none⟩ = some (.int .i64 cents) := bC.cell 0 rfl
          go_wp2
          all_goals (go_ret2; exact ⟨_, _, rfl, HR.out, bW⟩)
        · have hm' : ¬ cents < 0 := by omega
          go_enter Try.func19, Try.ntmps19; go_wp2_with fail; refine (CC.out _ bW).mono ?_; rintro e wn ⟨rfl, hbn⟩; have bW : Below w.heap.size w wn := (by first | exact bW.st hbn | exact bW.drew.st hbn); have bZ : Blk wn w.heap.size #[.string nm, .slice hA hs.length hc', .slice sA ss.length sc, .int .i64 gr, .int .i64 fr, .int .i64 dm, .int .i64 ms] 25 := (by first | exact bZ.below hbn bZ.lt | exact bZ.drew.below hbn bZ.lt); have bF : Blk wn (w.heap.size + 1) #[.int .i64 f] 3 := (by first | exact bF.below hbn bF.lt | exact bF.drew.below hbn bF.lt); have bC : Blk wn (w.heap.size + 2) #[.int .i64 cents] 3 := (by first | exact bC.below hbn bC.lt | exact bC.drew.below hbn bC.lt); have q0 : World.cell? wn ⟨w.heap.size, 0, none⟩ = some (.string nm) := bZ.cell 0 rfl; have q1 : World.cell? wn ⟨w.heap.size, 1, none⟩ = some (.slice hA hs.length hc') := bZ.cell 1 rfl; have q2 : World.cell? wn ⟨w.heap.size, 2, none⟩ = some (.slice sA ss.length sc) := bZ.cell 2 rfl; have q3 : World.cell? wn ⟨w.heap.size, 3, none⟩ = some (.int .i64 gr) := bZ.cell 3 rfl; have q4 : World.cell? wn ⟨w.heap.size, 4, none⟩ = some (.int .i64 fr) := bZ.cell 4 rfl; have q5 : World.cell? wn ⟨w.heap.size, 5, none⟩ = some (.int .i64 dm) := bZ.cell 5 rfl; have q6 : World.cell? wn ⟨w.heap.size, 6, none⟩ = some (.int .i64 ms) := bZ.cell 6 rfl; have p0 : World.cell? wn ⟨w.heap.size + 1, 0, none⟩ = some (.int .i64 f) := bF.cell 0 rfl; have p1 : World.cell? wn ⟨w.heap.size + 2, 0, none⟩ = some (.int .i64 cents) := bC.cell 0 rfl
          go_wp2
          all_goals (go_ret2; exact ⟨_, _, rfl, HR.out, bW⟩)
      · have h0 := long_0 hc hf hm
        have hf0 : 0 ≤ f := by omega
        have hf1 : f < 68719476736 := by omega
        have hm0 : 0 ≤ cents := by omega
        have hm1 : cents ≤ 1125899906842624 := by omega
        have ⟨l1, l2, _⟩ := limZ_range z hf0 hf1
        have HZ := Lib.hid (fun hk => LongR.zero h0 hk)
        have HP := Lib.hid (fun k hk hne => LongR.pos (k := k) h0 hk hne)
        have HN := Lib.hid (fun k => @lng_of z f cents k)
        have hst := check_st hc
        have hms0 := hst.2.2.2.1
        have hms1 := hst.2.2.2.2.1
        have HLim : Hid (limZ z f = if 0 < z.maxStay then min (min 68719476736 (86400 * (f / 86400 + 366))) (f + z.maxStay) else min 68719476736 (86400 * (f / 86400 + 366))) := rfl
        have CQ := Lib.hid (fun (X : World) (hX : Below w.heap.size w X) (k : Int) (hk0 : 0 ≤ k) (hk1 : f + k + 1 ≤ 68719476736) (hz) (cf) (cc) (hB) => lclo_any z f cents k w.heap.size (w.heap.size + 1) (w.heap.size + 2) (w := X) (h.st hX) hh hk0 hf0 hk1 hz cf cc hB)
        generalize LongR z f cents = LR at *
        generalize Lng z f cents = LN at *
        generalize badB z f cents = BQ at *
        generalize limZ z f = lm at *
        clear h h0 hf hm hst hc
        obtain ⟨nm, hA, hc', hs, sA, sc, ss, gr, fr, dm, ms⟩ := z
        simp only [ZV] at *
        obtain ⟨Y1, hY1⟩ : ∃ Y, w.alloc (.cells #[.string nm, .slice hA hs.length hc', .slice sA ss.length sc, .int .i64 gr, .int .i64 fr, .int .i64 dm, .int .i64 ms] 25) = Y := ⟨_, rfl⟩; obtain ⟨Y2, hY2⟩ : ∃ Y, Y1.alloc (.cells #[.int .i64 f] 3) = Y := ⟨_, rfl⟩; obtain ⟨Y3, hY3⟩ : ∃ Y, Y2.alloc (.cells #[.int .i64 cents] 3) = Y := ⟨_, rfl⟩; have bW : Below w.heap.size w Y3 := (by rw [← hY3, ← hY2, ← hY1]; exact (((Below.refl _ w).al _).al _).al _); have sY1 : Y1.heap.size = w.heap.size + 1 := (by rw [← hY1]; simp); have sY2 : Y2.heap.size = w.heap.size + 2 := (by rw [← hY2]; simp [sY1]); have bZ : Blk Y3 w.heap.size #[.string nm, .slice hA hs.length hc', .slice sA ss.length sc, .int .i64 gr, .int .i64 fr, .int .i64 dm, .int .i64 ms] 25 := (by rw [← hY3, ← hY2, ← hY1]; exact ((Blk.new w _ _).alloc _).alloc _); have bF : Blk Y3 (w.heap.size + 1) #[.int .i64 f] 3 := (by rw [← hY3, ← hY2, ← sY1]; exact (Blk.new Y1 _ _).alloc _); have bC : Blk Y3 (w.heap.size + 2) #[.int .i64 cents] 3 := (by rw [← hY3, ← sY2]; exact Blk.new Y2 _ _); have q0 : World.cell? Y3 ⟨w.heap.size, 0, none⟩ = some (.string nm) := bZ.cell 0 rfl; have q1 : World.cell? Y3 ⟨w.heap.size, 1, none⟩ = some (.slice hA hs.length hc') := bZ.cell 1 rfl; have q2 : World.cell? Y3 ⟨w.heap.size, 2, none⟩ = some (.slice sA ss.length sc) := bZ.cell 2 rfl; have q3 : World.cell? Y3 ⟨w.heap.size, 3, none⟩ = some (.int .i64 gr) := bZ.cell 3 rfl; have q4 : World.cell? Y3 ⟨w.heap.size, 4, none⟩ = some (.int .i64 fr) := bZ.cell 4 rfl; have q5 : World.cell? Y3 ⟨w.heap.size, 5, none⟩ = some (.int .i64 dm) := bZ.cell 5 rfl; have q6 : World.cell? Y3 ⟨w.heap.size, 6, none⟩ = some (.int .i64 ms) := bZ.cell 6 rfl; have p0 : World.cell? Y3 ⟨w.heap.size + 1, 0, none⟩ = some (.int .i64 f) := bF.cell 0 rfl; have p1 : World.cell? Y3 ⟨w.heap.size + 2, 0, none⟩ = some (.int .i64 cents) := bC.cell 0 rfl
        go_enter Try.func19, Try.ntmps19; go_wp2_with fail; refine (CC.out _ bW).mono ?_; rintro e wn ⟨rfl, hbn⟩; have bW : Below w.heap.size w wn := (by first | exact bW.st hbn | exact bW.drew.st hbn); have bZ : Blk wn w.heap.size #[.string nm, .slice hA hs.length hc', .slice sA ss.length sc, .int .i64 gr, .int .i64 fr, .int .i64 dm, .int .i64 ms] 25 := (by first | exact bZ.below hbn bZ.lt | exact bZ.drew.below hbn bZ.lt); have bF : Blk wn (w.heap.size + 1) #[.int .i64 f] 3 := (by first | exact bF.below hbn bF.lt | exact bF.drew.below hbn bF.lt); have bC : Blk wn (w.heap.size + 2) #[.int .i64 cents] 3 := (by first | exact bC.below hbn bC.lt | exact bC.drew.below hbn bC.lt); have q0 : World.cell? wn ⟨w.heap.size, 0, none⟩ = some (.string nm) := bZ.cell 0 rfl; have q1 : World.cell? wn ⟨w.heap.size, 1, none⟩ = some (.slice hA hs.length hc') := bZ.cell 1 rfl; have q2 : World.cell? wn ⟨w.heap.size, 2, none⟩ = some (.slice sA ss.length sc) := bZ.cell 2 rfl; have q3 : World.cell? wn ⟨w.heap.size, 3, none⟩ = some (.int .i64 gr) := bZ.cell 3 rfl; have q4 : World.cell? wn ⟨w.heap.size, 4, none⟩ = some (.int .i64 fr) := bZ.cell 4 rfl; have q5 : World.cell? wn ⟨w.heap.size, 5, none⟩ = some (.int .i64 dm) := bZ.cell 5 rfl; have q6 : World.cell? wn ⟨w.heap.size, 6, none⟩ = some (.int .i64 ms) := bZ.cell 6 rfl; have p0 : World.cell? wn ⟨w.heap.size + 1, 0, none⟩ = some (.int .i64 f) := bF.cell 0 rfl; have p1 : World.cell? wn ⟨w.heap.size + 2, 0, none⟩ = some (.int .i64 cents) := bC.cell 0 rfl
        have CS := Lib.hid (search_any (.pointer (some ⟨w.heap.size, 0, none⟩)) (.pointer (some ⟨w.heap.size + 1, 0, none⟩)) (.pointer (some ⟨w.heap.size + 2, 0, none⟩)) BQ (lm - f) (by omega) (by omega) (w := wn)
          (fun X hX k hk0 hk1 => CQ.out X (bW.st hX) k hk0 (by omega) (bZ.below hX bZ.lt) ((bF.below hX bF.lt).cell 0 rfl) ((bC.below hX bC.lt).cell 0 rfl) (bC.below hX bC.lt).lt))
        by_cases hms : 0 < ms
        · have hlm : lm = min 68719476736 (min (86400 * (f / 86400 + 366)) (f + ms)) := by have := HLim.out; rw [if_pos hms] at this; omega
          subst hlm
          go_wp2_with fail; refine (CS.out).mono ?_; rintro e wn ⟨k, k0, k1, rfl, k2, k3, hbn⟩; have hL := HN.out k k0 k1 k2 k3; have HL := Lib.hid hL; clear hL k2 k3 HN CS HLim; have bW : Below w.heap.size w wn := (by first | exact bW.st hbn | exact bW.drew.st hbn); have bZ : Blk wn w.heap.size #[.string nm, .slice hA hs.length hc', .slice sA ss.length sc, .int .i64 gr, .int .i64 fr, .int .i64 dm, .int .i64 ms] 25 := (by first | exact bZ.below hbn bZ.lt | exact bZ.drew.below hbn bZ.lt); have bF : Blk wn (w.heap.size + 1) #[.int .i64 f] 3 := (by first | exact bF.below hbn bF.lt | exact bF.drew.below hbn bF.lt); have bC : Blk wn (w.heap.size + 2) #[.int .i64 cents] 3 := (by first | exact bC.below hbn bC.lt | exact bC.drew.below hbn bC.lt); have q0 : World.cell? wn ⟨w.heap.size, 0, none⟩ = some (.string nm) := bZ.cell 0 rfl; have q1 : World.cell? wn ⟨w.heap.size, 1, none⟩ = some (.slice hA hs.length hc') := bZ.cell 1 rfl; have q2 : World.cell? wn ⟨w.heap.size, 2, none⟩ = some (.slice sA ss.length sc) := bZ.cell 2 rfl; have q3 : World.cell? wn ⟨w.heap.size, 3, none⟩ = some (.int .i64 gr) := bZ.cell 3 rfl; have q4 : World.cell? wn ⟨w.heap.size, 4, none⟩ = some (.int .i64 fr) := bZ.cell 4 rfl; have q5 : World.cell? wn ⟨w.heap.size, 5, none⟩ = some (.int .i64 dm) := bZ.cell 5 rfl; have q6 : World.cell? wn ⟨w.heap.size, 6, none⟩ = some (.int .i64 ms) := bZ.cell 6 rfl; have p0 : World.cell? wn ⟨w.heap.size + 1, 0, none⟩ = some (.int .i64 f) := bF.cell 0 rfl; have p1 : World.cell? wn ⟨w.heap.size + 2, 0, none⟩ = some (.int .i64 cents) := bC.cell 0 rfl; by_cases hk : k = 0; (focus (subst hk; go_wp2; all_goals (go_ret2; exact ⟨_, _, rfl, HZ.out HL.out, bW⟩))); (have hk2 : (k == 0) = false := beq_eq_false_iff_ne.2 hk; have HP2 := Lib.hid (HP.out k HL.out hk); clear HP HL; go_wp2; all_goals (go_ret2; exact ⟨_, _, rfl, HP2.out, bW⟩))
        · have hlm : lm = min 68719476736 (86400 * (f / 86400 + 366)) := by have := HLim.out; rwa [if_neg hms] at this
          subst hlm
          go_wp2_with fail; refine (CS.out).mono ?_; rintro e wn ⟨k, k0, k1, rfl, k2, k3, hbn⟩; have hL := HN.out k k0 k1 k2 k3; have HL := Lib.hid hL; clear hL k2 k3 HN CS HLim; have bW : Below w.heap.size w wn := (by first | exact bW.st hbn | exact bW.drew.st hbn); have bZ : Blk wn w.heap.size #[.string nm, .slice hA hs.length hc', .slice sA ss.length sc, .int .i64 gr, .int .i64 fr, .int .i64 dm, .int .i64 ms] 25 := (by first | exact bZ.below hbn bZ.lt | exact bZ.drew.below hbn bZ.lt); have bF : Blk wn (w.heap.size + 1) #[.int .i64 f] 3 := (by first | exact bF.below hbn bF.lt | exact bF.drew.below hbn bF.lt); have bC : Blk wn (w.heap.size + 2) #[.int .i64 cents] 3 := (by first | exact bC.below hbn bC.lt | exact bC.drew.below hbn bC.lt); have q0 : World.cell? wn ⟨w.heap.size, 0, none⟩ = some (.string nm) := bZ.cell 0 rfl; have q1 : World.cell? wn ⟨w.heap.size, 1, none⟩ = some (.slice hA hs.length hc') := bZ.cell 1 rfl; have q2 : World.cell? wn ⟨w.heap.size, 2, none⟩ = some (.slice sA ss.length sc) := bZ.cell 2 rfl; have q3 : World.cell? wn ⟨w.heap.size, 3, none⟩ = some (.int .i64 gr) := bZ.cell 3 rfl; have q4 : World.cell? wn ⟨w.heap.size, 4, none⟩ = some (.int .i64 fr) := bZ.cell 4 rfl; have q5 : World.cell? wn ⟨w.heap.size, 5, none⟩ = some (.int .i64 dm) := bZ.cell 5 rfl; have q6 : World.cell? wn ⟨w.heap.size, 6, none⟩ = some (.int .i64 ms) := bZ.cell 6 rfl; have p0 : World.cell? wn ⟨w.heap.size + 1, 0, none⟩ = some (.int .i64 f) := bF.cell 0 rfl; have p1 : World.cell? wn ⟨w.heap.size + 2, 0, none⟩ = some (.int .i64 cents) := bC.cell 0 rfl; by_cases hk : k = 0; (focus (subst hk; go_wp2; all_goals (go_ret2; exact ⟨_, _, rfl, HZ.out HL.out, bW⟩))); (have hk2 : (k == 0) = false := beq_eq_false_iff_ne.2 hk; have HP2 := Lib.hid (HP.out k HL.out hk); clear HP HL; go_wp2; all_goals (go_ret2; exact ⟨_, _, rfl, HP2.out, bW⟩))
  · have HR := Lib.hid (LongR.no (f := f) (cents := cents) (long_1 hc) hc)
    clear h
    generalize LongR z f cents = LR at *
    generalize checkE z = r at *
    obtain ⟨nm, hA, hc', hs, sA, sc, ss, gr, fr, dm, ms⟩ := z
    simp only [ZV] at *
    obtain ⟨Y1, hY1⟩ : ∃ Y, w.alloc (.cells #[.string nm, .slice hA hs.length hc', .slice sA ss.length sc, .int .i64 gr, .int .i64 fr, .int .i64 dm, .int .i64 ms] 25) = Y := ⟨_, rfl⟩; obtain ⟨Y2, hY2⟩ : ∃ Y, Y1.alloc (.cells #[.int .i64 f] 3) = Y := ⟨_, rfl⟩; obtain ⟨Y3, hY3⟩ : ∃ Y, Y2.alloc (.cells #[.int .i64 cents] 3) = Y := ⟨_, rfl⟩; have bW : Below w.heap.size w Y3 := (by rw [← hY3, ← hY2, ← hY1]; exact (((Below.refl _ w).al _).al _).al _); have sY1 : Y1.heap.size = w.heap.size + 1 := (by rw [← hY1]; simp); have sY2 : Y2.heap.size = w.heap.size + 2 := (by rw [← hY2]; simp [sY1]); have bZ : Blk Y3 w.heap.size #[.string nm, .slice hA hs.length hc', .slice sA ss.length sc, .int .i64 gr, .int .i64 fr, .int .i64 dm, .int .i64 ms] 25 := (by rw [← hY3, ← hY2, ← hY1]; exact ((Blk.new w _ _).alloc _).alloc _); have bF : Blk Y3 (w.heap.size + 1) #[.int .i64 f] 3 := (by rw [← hY3, ← hY2, ← sY1]; exact (Blk.new Y1 _ _).alloc _); have bC : Blk Y3 (w.heap.size + 2) #[.int .i64 cents] 3 := (by rw [← hY3, ← sY2]; exact Blk.new Y2 _ _); have q0 : World.cell? Y3 ⟨w.heap.size, 0, none⟩ = some (.string nm) := bZ.cell 0 rfl; have q1 : World.cell? Y3 ⟨w.heap.size, 1, none⟩ = some (.slice hA hs.length hc') := bZ.cell 1 rfl; have q2 : World.cell? Y3 ⟨w.heap.size, 2, none⟩ = some (.slice sA ss.length sc) := bZ.cell 2 rfl; have q3 : World.cell? Y3 ⟨w.heap.size, 3, none⟩ = some (.int .i64 gr) := bZ.cell 3 rfl; have q4 : World.cell? Y3 ⟨w.heap.size, 4, none⟩ = some (.int .i64 fr) := bZ.cell 4 rfl; have q5 : World.cell? Y3 ⟨w.heap.size, 5, none⟩ = some (.int .i64 dm) := bZ.cell 5 rfl; have q6 : World.cell? Y3 ⟨w.heap.size, 6, none⟩ = some (.int .i64 ms) := bZ.cell 6 rfl; have p0 : World.cell? Y3 ⟨w.heap.size + 1, 0, none⟩ = some (.int .i64 f) := bF.cell 0 rfl; have p1 : World.cell? Y3 ⟨w.heap.size + 2, 0, none⟩ = some (.int .i64 cents) := bC.cell 0 rfl
    go_enter Try.func19, Try.ntmps19; go_wp2_with fail; refine (CC.out _ bW).mono ?_; rintro e wn ⟨rfl, hbn⟩; have bW : Below w.heap.size w wn := (by first | exact bW.st hbn | exact bW.drew.st hbn); have bZ : Blk wn w.heap.size #[.string nm, .slice hA hs.length hc', .slice sA ss.length sc, .int .i64 gr, .int .i64 fr, .int .i64 dm, .int .i64 ms] 25 := (by first | exact bZ.below hbn bZ.lt | exact bZ.drew.below hbn bZ.lt); have bF : Blk wn (w.heap.size + 1) #[.int .i64 f] 3 := (by first | exact bF.below hbn bF.lt | exact bF.drew.below hbn bF.lt); have bC : Blk wn (w.heap.size + 2) #[.int .i64 cents] 3 := (by first | exact bC.below hbn bC.lt | exact bC.drew.below hbn bC.lt); have q0 : World.cell? wn ⟨w.heap.size, 0, none⟩ = some (.string nm) := bZ.cell 0 rfl; have q1 : World.cell? wn ⟨w.heap.size, 1, none⟩ = some (.slice hA hs.length hc') := bZ.cell 1 rfl; have q2 : World.cell? wn ⟨w.heap.size, 2, none⟩ = some (.slice sA ss.length sc) := bZ.cell 2 rfl; have q3 : World.cell? wn ⟨w.heap.size, 3, none⟩ = some (.int .i64 gr) := bZ.cell 3 rfl; have q4 : World.cell? wn ⟨w.heap.size, 4, none⟩ = some (.int .i64 fr) := bZ.cell 4 rfl; have q5 : World.cell? wn ⟨w.heap.size, 5, none⟩ = some (.int .i64 dm) := bZ.cell 5 rfl; have q6 : World.cell? wn ⟨w.heap.size, 6, none⟩ = some (.int .i64 ms) := bZ.cell 6 rfl; have p0 : World.cell? wn ⟨w.heap.size + 1, 0, none⟩ = some (.int .i64 f) := bF.cell 0 rfl; have p1 : World.cell? wn ⟨w.heap.size + 2, 0, none⟩ = some (.int .i64 cents) := bC.cell 0 rfl
    go_wp2
    all_goals (go_ret2; exact ⟨_, _, rfl, HR.out, bW⟩)
end Go.Proofs.Ytfilfdkbchkpmaa
