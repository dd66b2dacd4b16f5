/- Joined texts: ParkFeeW, StayM, Concat. -/
import Derived.Test.YtcpfiiapfggmpaaGreatParkDays
import Derived.Test.YtcpfiiapfggmpaaGreatJSumAny
import Derived.Test.YtcpfiiapfggmpaaGreatZoneFind
import Derived.Lib.AppendZeros
/- parkfee.Fee, walked. -/
namespace Go.Proofs.YtcpfiiapfggmpaaGreat
open Go.RowKit Go.Lib

theorem feesL_fits {z : Zn} {a b : Int} (h : dayE z a b = 0) : (feesL z a b).length ≤ 1024 ∧ ∀ x ∈ feesL z a b, 0 ≤ x ∧ x ≤ 1125899906842624 := by
  obtain ⟨h1, h2, h3⟩ := dayE_ok h
  have hn := days_last h2
  refine ⟨by rw [feesL_length]; omega, fun x hx => ?_⟩
  unfold feesL at hx
  rw [List.mem_map] at hx
  obtain ⟨k, _, rfl⟩ := hx
  have := feeD_range (check_st h1).1 a b (a / 86400 + k)
  unfold feeK
  omega
theorem feeE_1 {z : Zn} {a b : Int} (h : dayE z a b ≠ 0) : feeN z a b = 0 ∧ feeE z a b = dayE z a b := by
  have e : feeE z a b = dayE z a b := by unfold feeE; rw [if_pos h]
  exact ⟨by unfold feeN; rw [e, if_neg h], e⟩
theorem feeE_13 {z : Zn} {a b : Int} (h : dayE z a b = 0) (h2 : 1125899906842624 < feeS z a b) : feeN z a b = 0 ∧ feeE z a b = 13 := by
  have e : feeE z a b = 13 := by unfold feeE; rw [if_neg (by simp [h]), if_pos h2]
  exact ⟨by unfold feeN; rw [e, if_neg (by omega)], e⟩
theorem feeE_0 {z : Zn} {a b : Int} (h : dayE z a b = 0) (h2 : feeS z a b ≤ 1125899906842624) : feeN z a b = feeS z a b ∧ feeE z a b = 0 := by
  have e : feeE z a b = 0 := by unfold feeE; rw [if_neg (by simp [h]), if_neg (by omega)]
  exact ⟨by unfold feeN; rw [e, if_pos rfl], e⟩

set_option maxRecDepth 100000 in
set_option maxHeartbeats 4000000 in
theorem pfee_any (z : Zn) (a b : Int) {w : World} (h : ZOk w z) (hh : z.hs.length ≤ 1000) :
    Calls Tryz.prog 40 #[ZV z, .agg #[.int .i64 a, .int .i64 b]] w fun e w' => e = .returned (.tuple #[.int .i64 (feeN z a b), .int .i64 (feeE z a b)]) ∧ Below w.heap.size w w' := by
  have CD := Lib.hid (fun (W : World) (hW : Below w.heap.size w W) => pdays_any z a b (h.st hW) hh)
  unfold DayR at CD
  by_cases hd : dayE z a b = 0
  · obtain ⟨f1, f2⟩ := feesL_fits hd
    rw [dayL_yes hd, hd] at CD
    have CS := Lib.hid (fun (A : Option Addr) (c : Nat) (X : World) (hr : Rd encI 1 X X.heap.size A (feesL z a b)) => sum_any (w := X) c hr f1 (fun x hx => by have := f2 x hx; omega))
    have hS : (feesL z a b).sum = feeS z a b := rfl
    have h0 := feeS_nonneg (check_st (dayE_ok hd).1).1 a b
    rw [hS] at CS
    have hfit : fitsB (feeS z a b) = decide (feeS z a b ≤ 1125899906842624) := by unfold fitsB; rw [Bool.eq_iff_iff]; simp; omega
    rw [hfit] at CS
    by_cases h2 : feeS z a b ≤ 1125899906842624
    · obtain ⟨e1, e2⟩ := feeE_0 hd h2
      rw [e1, e2]
      rw [decide_eq_true h2, if_pos rfl, if_pos rfl] at CS
      clear f1 f2 hS h0 hfit h2 e1 e2 hd h hh
      generalize feeS z a b = r at *
      generalize feesL z a b = L at *
      obtain ⟨nm, hA, hc', hs, sA, sc, ss, gr, fr, dm, ms⟩ := z
      simp only [ZV] at *
      obtain ⟨Y1, hY1⟩ : ∃ Y, w.alloc (.cells #[.string nm, .slice hA hs.length hc', .slice sA ss.length sc, .int .i64 gr, .int .i64 fr, .int .i64 dm, .int .i64 ms] 76) = Y := ⟨_, rfl⟩; obtain ⟨Y2, hY2⟩ : ∃ Y, Y1.alloc (.cells #[.int .i64 a, .int .i64 b] 59) = Y := ⟨_, rfl⟩; have bW : Below w.heap.size w Y2 := (by rw [← hY2, ← hY1]; exact ((Below.refl _ w).al _).al _); have sY1 : Y1.heap.size = w.heap.size + 1 := (by rw [← hY1]; simp); have bZ : Blk Y2 w.heap.size #[.string nm, .slice hA hs.length hc', .slice sA ss.length sc, .int .i64 gr, .int .i64 fr, .int .i64 dm, .int .i64 ms] 76 := (by rw [← hY2, ← hY1]; exact (Blk.new w _ _).alloc _); have bI : Blk Y2 (w.heap.size + 1) #[.int .i64 a, .int .i64 b] 59 := (by rw [← hY2, ← sY1]; exact Blk.new Y1 _ _); have q0 : World.cell? Y2 ⟨w.heap.size, 0, none⟩ = some (.string nm) := bZ.cell 0 rfl; have q1 : World.cell? Y2 ⟨w.heap.size, 1, none⟩ = some (.slice hA hs.length hc') := bZ.cell 1 rfl; have q2 : World.cell? Y2 ⟨w.heap.size, 2, none⟩ = some (.slice sA ss.length sc) := bZ.cell 2 rfl; have q3 : World.cell? Y2 ⟨w.heap.size, 3, none⟩ = some (.int .i64 gr) := bZ.cell 3 rfl; have q4 : World.cell? Y2 ⟨w.heap.size, 4, none⟩ = some (.int .i64 fr) := bZ.cell 4 rfl; have q5 : World.cell? Y2 ⟨w.heap.size, 5, none⟩ = some (.int .i64 dm) := bZ.cell 5 rfl; have q6 : World.cell? Y2 ⟨w.heap.size, 6, none⟩ = some (.int .i64 ms) := bZ.cell 6 rfl; have p0 : World.cell? Y2 ⟨w.heap.size + 1, 0, none⟩ = some (.int .i64 a) := bI.cell 0 rfl; have p1 : World.cell? Y2 ⟨w.heap.size + 1, 1, none⟩ = some (.int .i64 b) := bI.cell 1 rfl
      go_enter Tryz.func40, Tryz.ntmps40
      go_wp2_with fail
      refine (CD.out _ bW).mono ?_
      rintro e wn ⟨A1, c1, rfl, hrd, hbn⟩
      have bW : Below w.heap.size w wn := (by first | exact bW.st hbn | exact bW.drew.st hbn); have bZ : Blk wn w.heap.size #[.string nm, .slice hA hs.length hc', .slice sA ss.length sc, .int .i64 gr, .int .i64 fr, .int .i64 dm, .int .i64 ms] 76 := (by first | exact bZ.below hbn bZ.lt | exact bZ.drew.below hbn bZ.lt); have bI : Blk wn (w.heap.size + 1) #[.int .i64 a, .int .i64 b] 59 := (by first | exact bI.below hbn bI.lt | exact bI.drew.below hbn bI.lt); have q0 : World.cell? wn ⟨w.heap.size, 0, none⟩ = some (.string nm) := bZ.cell 0 rfl; have q1 : World.cell? wn ⟨w.heap.size, 1, none⟩ = some (.slice hA hs.length hc') := bZ.cell 1 rfl; have q2 : World.cell? wn ⟨w.heap.size, 2, none⟩ = some (.slice sA ss.length sc) := bZ.cell 2 rfl; have q3 : World.cell? wn ⟨w.heap.size, 3, none⟩ = some (.int .i64 gr) := bZ.cell 3 rfl; have q4 : World.cell? wn ⟨w.heap.size, 4, none⟩ = some (.int .i64 fr) := bZ.cell 4 rfl; have q5 : World.cell? wn ⟨w.heap.size, 5, none⟩ = some (.int .i64 dm) := bZ.cell 5 rfl; have q6 : World.cell? wn ⟨w.heap.size, 6, none⟩ = some (.int .i64 ms) := bZ.cell 6 rfl; have p0 : World.cell? wn ⟨w.heap.size + 1, 0, none⟩ = some (.int .i64 a) := bI.cell 0 rfl; have p1 : World.cell? wn ⟨w.heap.size + 1, 1, none⟩ = some (.int .i64 b) := bI.cell 1 rfl
      go_wp2_with fail
      refine (CS.out A1 c1 _ hrd).mono ?_
      rintro e wn ⟨rfl, hbn⟩
      have bW : Below w.heap.size w wn := (by first | exact bW.st hbn | exact bW.drew.st hbn); have bZ : Blk wn w.heap.size #[.string nm, .slice hA hs.length hc', .slice sA ss.length sc, .int .i64 gr, .int .i64 fr, .int .i64 dm, .int .i64 ms] 76 := (by first | exact bZ.below hbn bZ.lt | exact bZ.drew.below hbn bZ.lt); have bI : Blk wn (w.heap.size + 1) #[.int .i64 a, .int .i64 b] 59 := (by first | exact bI.below hbn bI.lt | exact bI.drew.below hbn bI.lt); have q0 : World.cell? wn ⟨w.heap.size, 0, none⟩ = some (.string nm) := bZ.cell 0 rfl; have q1 : World.cell? wn ⟨w.heap.size, 1, none⟩ = some (.slice hA hs.length hc') := bZ.cell 1 rfl; have q2 : World.cell? wn ⟨w.heap.size, 2, none⟩ = some (.slice sA ss.length sc) := bZ.cell 2 rfl; have q3 : World.cell? wn ⟨w.heap.size, 3, none⟩ = some (.int .i64 gr) := bZ.cell 3 rfl; have q4 : World.cell? wn ⟨w.heap.size, 4, none⟩ = some (.int .i64 fr) := bZ.cell 4 rfl; have q5 : World.cell? wn ⟨w.heap.size, 5, none⟩ = some (.int .i64 dm) := bZ.cell 5 rfl; have q6 : World.cell? wn ⟨w.heap.size, 6, none⟩ = some (.int .i64 ms) := bZ.cell 6 rfl; have p0 : World.cell? wn ⟨w.heap.size + 1, 0, none⟩ = some (.int .i64 a) := bI.cell 0 rfl; have p1 : World.cell? wn ⟨w.heap.size + 1, 1, none⟩ = some (.int .i64 b) := bI.cell 1 rfl
      go_wp2
      all_goals (go_ret2; exact ⟨rfl, bW⟩)
    · obtain ⟨e1, e2⟩ := feeE_13 hd (by omega)
      rw [e1, e2]
      rw [decide_eq_false h2, if_neg (by simp), if_neg (by simp)] at CS
      clear f1 f2 hS h0 hfit h2 e1 e2 hd h hh
      generalize feesL z a b = L at *
      obtain ⟨nm, hA, hc', hs, sA, sc, ss, gr, fr, dm, ms⟩ := z
      simp only [ZV] at *
      obtain ⟨Y1, hY1⟩ : ∃ Y, w.alloc (.cells #[.string nm, .slice hA hs.length hc', .slice sA ss.length sc, .int .i64 gr, .int .i64 fr, .int .i64 dm, .int .i64 ms] 76) = Y := ⟨_, rfl⟩; obtain ⟨Y2, hY2⟩ : ∃ Y, Y1.alloc (.cells #[.int .i64 a, .int .i64 b] 59) = Y := ⟨_, rfl⟩; have bW : Below w.heap.size w Y2 := (by rw [← hY2, ← hY1]; exact ((Below.refl _ w).al _).al _); have sY1 : Y1.heap.size = w.heap.size + 1 := (by rw [← hY1]; simp); have bZ : Blk Y2 w.heap.size #[.string nm, .slice hA hs.length hc', .slice sA ss.length sc, .int .i64 gr, .int .i64 fr, .int .i64 dm, .int .i64 ms] 76 := (by rw [← hY2, ← hY1]; exact (Blk.new w _ _).alloc _); have bI : Blk Y2 (w.heap.size + 1) #[.int .i64 a, .int .i64 b] 59 := (by rw [← hY2, ← sY1]; exact Blk.new Y1 _ _); have q0 : World.cell? Y2 ⟨w.heap.size, 0, none⟩ = some (.string nm) := bZ.cell 0 rfl; have q1 : World.cell? Y2 ⟨w.heap.size, 1, none⟩ = some (.slice hA hs.length hc') := bZ.cell 1 rfl; have q2 : World.cell? Y2 ⟨w.heap.size, 2, none⟩ = some (.slice sA ss.length sc) := bZ.cell 2 rfl; have q3 : World.cell? Y2 ⟨w.heap.size, 3, none⟩ = some (.int .i64 gr) := bZ.cell 3 rfl; have q4 : World.cell? Y2 ⟨w.heap.size, 4, none⟩ = some (.int .i64 fr) := bZ.cell 4 rfl; have q5 : World.cell? Y2 ⟨w.heap.size, 5, none⟩ = some (.int .i64 dm) := bZ.cell 5 rfl; have q6 : World.cell? Y2 ⟨w.heap.size, 6, none⟩ = some (.int .i64 ms) := bZ.cell 6 rfl; have p0 : World.cell? Y2 ⟨w.heap.size + 1, 0, none⟩ = some (.int .i64 a) := bI.cell 0 rfl; have p1 : World.cell? Y2 ⟨w.heap.size + 1, 1, none⟩ = some (.int .i64 b) := bI.cell 1 rfl
      go_enter Tryz.func40, Tryz.ntmps40
      go_wp2_with fail
      refine (CD.out _ bW).mono ?_
      rintro e wn ⟨A1, c1, rfl, hrd, hbn⟩
      have bW : Below w.heap.size w wn := (by first | exact bW.st hbn | exact bW.drew.st hbn); have bZ : Blk wn w.heap.size #[.string nm, .slice hA hs.length hc', .slice sA ss.length sc, .int .i64 gr, .int .i64 fr, .int .i64 dm, .int .i64 ms] 76 := (by first | exact bZ.below hbn bZ.lt | exact bZ.drew.below hbn bZ.lt); have bI : Blk wn (w.heap.size + 1) #[.int .i64 a, .int .i64 b] 59 := (by first | exact bI.below hbn bI.lt | exact bI.drew.below hbn bI.lt); have q0 : World.cell? wn ⟨w.heap.size, 0, none⟩ = some (.string nm) := bZ.cell 0 rfl; have q1 : World.cell? wn ⟨w.heap.size, 1, none⟩ = some (.slice hA hs.length hc') := bZ.cell 1 rfl; have q2 : World.cell? wn ⟨w.heap.size, 2, none⟩ = some (.slice sA ss.length sc) := bZ.cell 2 rfl; have q3 : World.cell? wn ⟨w.heap.size, 3, none⟩ = some (.int .i64 gr) := bZ.cell 3 rfl; have q4 : World.cell? wn ⟨w.heap.size, 4, none⟩ = some (.int .i64 fr) := bZ.cell 4 rfl; have q5 : World.cell? wn ⟨w.heap.size, 5, none⟩ = some (.int .i64 dm) := bZ.cell 5 rfl; have q6 : World.cell? wn ⟨w.heap.size, 6, none⟩ = some (.int .i64 ms) := bZ.cell 6 rfl; have p0 : World.cell? wn ⟨w.heap.size + 1, 0, none⟩ = some (.int .i64 a) := bI.cell 0 rfl; have p1 : World.cell? wn ⟨w.heap.size + 1, 1, none⟩ = some (.int .i64 b) := bI.cell 1 rfl
      go_wp2_with fail
      refine (CS.out A1 c1 _ hrd).mono ?_
      rintro e wn ⟨rfl, hbn⟩
      have bW : Below w.heap.size w wn := (by first | exact bW.st hbn | exact bW.drew.st hbn); have bZ : Blk wn w.heap.size #[.string nm, .slice hA hs.length hc', .slice sA ss.length sc, .int .i64 gr, .int .i64 fr, .int .i64 dm, .int .i64 ms] 76 := (by first | exact bZ.below hbn bZ.lt | exact bZ.drew.below hbn bZ.lt); have bI : Blk wn (w.heap.size + 1) #[.int .i64 a, .int .i64 b] 59 := (by first | exact bI.below hbn bI.lt | exact bI.drew.below hbn bI.lt); have q0 : World.cell? wn ⟨w.heap.size, 0, none⟩ = some (.string nm) := bZ.cell 0 rfl; have q1 : World.cell? wn ⟨w.heap.size, 1, none⟩ = some (.slice hA hs.length hc') := bZ.cell 1 rfl; have q2 : World.cell? wn ⟨w.heap.size, 2, none⟩ = some (.slice sA ss.length sc) := bZ.cell 2 rfl; have q3 : World.cell? wn ⟨w.heap.size, 3, none⟩ = some (.int .i64 gr) := bZ.cell 3 rfl; have q4 : World.cell? wn ⟨w.heap.size, 4, none⟩ = some (.int .i64 fr) := bZ.cell 4 rfl; have q5 : World.cell? wn ⟨w.heap.size, 5, none⟩ = some (.int .i64 dm) := bZ.cell 5 rfl; have q6 : World.cell? wn ⟨w.heap.size, 6, none⟩ = some (.int .i64 ms) := bZ.cell 6 rfl; have p0 : World.cell? wn ⟨w.heap.size + 1, 0, none⟩ = some (.int .i64 a) := bI.cell 0 rfl; have p1 : World.cell? wn ⟨w.heap.size + 1, 1, none⟩ = some (.int .i64 b) := bI.cell 1 rfl
      go_wp2
      all_goals (go_ret2; exact ⟨rfl, bW⟩)
  · obtain ⟨e1, e2⟩ := feeE_1 hd
    rw [e1, e2]
    clear e1 e2 h hh
    generalize dayE z a b = r at *
    generalize dayL z a b = L at *
    obtain ⟨nm, hA, hc', hs, sA, sc, ss, gr, fr, dm, ms⟩ := z
    simp only [ZV] at *
    obtain ⟨Y1, hY1⟩ : ∃ Y, w.alloc (.cells #[.string nm, .slice hA hs.length hc', .slice sA ss.length sc, .int .i64 gr, .int .i64 fr, .int .i64 dm, .int .i64 ms] 76) = Y := ⟨_, rfl⟩; obtain ⟨Y2, hY2⟩ : ∃ Y, Y1.alloc (.cells #[.int .i64 a, .int .i64 b] 59) = Y := ⟨_, rfl⟩; have bW : Below w.heap.size w Y2 := (by rw [← hY2, ← hY1]; exact ((Below.refl _ w).al _).al _); have sY1 : Y1.heap.size = w.heap.size + 1 := (by rw [← hY1]; simp); have bZ : Blk Y2 w.heap.size #[.string nm, .slice hA hs.length hc', .slice sA ss.length sc, .int .i64 gr, .int .i64 fr, .int .i64 dm, .int .i64 ms] 76 := (by rw [← hY2, ← hY1]; exact (Blk.new w _ _).alloc _); have bI : Blk Y2 (w.heap.size + 1) #[.int .i64 a, .int .i64 b] 59 := (by rw [← hY2, ← sY1]; exact Blk.new Y1 _ _); have q0 : World.cell? Y2 ⟨w.heap.size, 0, none⟩ = some (.string nm) := bZ.cell 0 rfl; have q1 : World.cell? Y2 ⟨w.heap.size, 1, none⟩ = some (.slice hA hs.length hc') := bZ.cell 1 rfl; have q2 : World.cell? Y2 ⟨w.heap.size, 2, none⟩ = some (.slice sA ss.length sc) := bZ.cell 2 rfl; have q3 : World.cell? Y2 ⟨w.heap.size, 3, none⟩ = some (.int .i64 gr) := bZ.cell 3 rfl; have q4 : World.cell? Y2 ⟨w.heap.size, 4, none⟩ = some (.int .i64 fr) := bZ.cell 4 rfl; have q5 : World.cell? Y2 ⟨w.heap.size, 5, none⟩ = some (.int .i64 dm) := bZ.cell 5 rfl; have q6 : World.cell? Y2 ⟨w.heap.size, 6, none⟩ = some (.int .i64 ms) := bZ.cell 6 rfl; have p0 : World.cell? Y2 ⟨w.heap.size + 1, 0, none⟩ = some (.int .i64 a) := bI.cell 0 rfl; have p1 : World.cell? Y2 ⟨w.heap.size + 1, 1, none⟩ = some (.int .i64 b) := bI.cell 1 rfl
    go_enter Tryz.func40, Tryz.ntmps40
    go_wp2_with fail
    refine (CD.out _ bW).mono ?_
    rintro e wn ⟨A1, c1, rfl, hrd, hbn⟩
    have bW : Below w.heap.size w wn := (by first | exact bW.st hbn | exact bW.drew.st hbn); have bZ : Blk wn w.heap.size #[.string nm, .slice hA hs.length hc', .slice sA ss.length sc, .int .i64 gr, .int .i64 fr, .int .i64 dm, .int .i64 ms] 76 := (by first | exact bZ.below hbn bZ.lt | exact bZ.drew.below hbn bZ.lt); have bI : Blk wn (w.heap.size + 1) #[.int .i64 a, .int .i64 b] 59 := (by first | exact bI.below hbn bI.lt | exact bI.drew.below hbn bI.lt); have q0 : World.cell? wn ⟨w.heap.size, 0, none⟩ = some (.string nm) := bZ.cell 0 rfl; have q1 : World.cell? wn ⟨w.heap.size, 1, none⟩ = some (.slice hA hs.length hc') := bZ.cell 1 rfl; have q2 : World.cell? wn ⟨w.heap.size, 2, none⟩ = some (.slice sA ss.length sc) := bZ.cell 2 rfl; have q3 : World.cell? wn ⟨w.heap.size, 3, none⟩ = some (.int .i64 gr) := bZ.cell 3 rfl; have q4 : World.cell? wn ⟨w.heap.size, 4, none⟩ = some (.int .i64 fr) := bZ.cell 4 rfl; have q5 : World.cell? wn ⟨w.heap.size, 5, none⟩ = some (.int .i64 dm) := bZ.cell 5 rfl; have q6 : World.cell? wn ⟨w.heap.size, 6, none⟩ = some (.int .i64 ms) := bZ.cell 6 rfl; have p0 : World.cell? wn ⟨w.heap.size + 1, 0, none⟩ = some (.int .i64 a) := bI.cell 0 rfl; have p1 : World.cell? wn ⟨w.heap.size + 1, 1, none⟩ = some (.int .i64 b) := bI.cell 1 rfl
    go_wp2
    all_goals (go_ret2; exact ⟨rfl, bW⟩)
end Go.Proofs.YtcpfiiapfggmpaaGreat
/- The charge for a stay, in plain words. -/
set_option linter.unusedSimpArgs false
namespace Go.Proofs.YtcpfiiapfggmpaaGreat
open Go.RowKit Go.Lib

/-- a zone's fees depend on its values only -/
theorem fee_zc {y z : Zn} (h : zc y = zc z) (a b : Int) : feeN y a b = feeN z a b ∧ feeE y a b = feeE z a b := by
  obtain ⟨n1, a1, b1, c1, d1, e1, f1, g1, h1, i1, j1⟩ := y
  obtain ⟨n2, a2, b2, c2, d2, e2, f2, g2, h2, i2, j2⟩ := z
  simp only [zc, Prod.mk.injEq] at h
  obtain ⟨rfl, rfl, rfl, rfl, rfl, rfl, rfl⟩ := h
  exact ⟨rfl, rfl⟩
theorem list_nonneg : ∀ {l : List Int}, (∀ x ∈ l, 0 ≤ x) → 0 ≤ l.sum
  | [], _ => by simp
  | a :: l, h => by have h1 := h a (by simp); have h2 := list_nonneg (l := l) fun x hx => h x (by simp [hx]); rw [List.sum_cons]; omega
theorem feeN_bnd (z : Zn) (a b : Int) : 0 ≤ feeN z a b ∧ feeN z a b ≤ 1125899906842624 := by
  unfold feeN
  split
  · rename_i h
    obtain ⟨h1, h2⟩ := feeE_ok h
    obtain ⟨h3, _⟩ := feesL_fits h1
    refine ⟨?_, h2⟩
    obtain ⟨_, h4⟩ := feesL_fits h1
    unfold feeS
    exact list_nonneg fun x hx => (h4 x hx).1
  · omega
def stayS : ByteArray := ⟨#[115, 116, 97, 121]⟩
def feL (z : Zn) (us : List Iv) : List Int := us.map fun u => feeN z u.1 u.2
def lnL (z : Zn) (us : List Iv) : List Ln := us.map fun u => (stayS, feeN z u.1 u.2)
def noE (z : Zn) (us : List Iv) : Prop := ∀ u ∈ us, feeE z u.1 u.2 = 0
def feSum (z : Zn) (us : List Iv) : Int := (feL z us).sum
theorem feSum_snoc {z : Zn} {us : List Iv} {k : Nat} {u : Iv} (h : us[k]? = some u) : feSum z (us.take (k + 1)) = feSum z (us.take k) + feeN z u.1 u.2 := by
  unfold feSum feL; rw [take_snoc h]; simp
theorem lnL_snoc {z : Zn} {us : List Iv} {k : Nat} {u : Iv} (h : us[k]? = some u) : lnL z (us.take (k + 1)) = lnL z (us.take k) ++ [(stayS, feeN z u.1 u.2)] := by
  unfold lnL; rw [take_snoc h]; simp
theorem lnL_len (z : Zn) (us : List Iv) : (lnL z us).length = us.length := by simp [lnL]
theorem feSum_bnd (z : Zn) : ∀ us : List Iv, 0 ≤ feSum z us ∧ feSum z us ≤ 1125899906842624 * us.length
  | [] => by simp [feSum, feL]
  | u :: us => by
    have h1 := feeN_bnd z u.1 u.2
    have h2 := feSum_bnd z us
    have e : feSum z (u :: us) = feeN z u.1 u.2 + feSum z us := by simp [feSum, feL]
    rw [e, List.length_cons]
    push_cast
    omega
theorem lnL_mst (z : Zn) (us : List Iv) : Mst (lnL z us) := by
  intro y hy
  unfold lnL at hy
  obtain ⟨u, _, rfl⟩ := List.mem_map.1 hy
  have := feeN_bnd z u.1 u.2
  show decide _ = true
  exact decide_eq_true (by show _ ∧ _; simp only; omega)
theorem lnL_sum (z : Zn) (us : List Iv) : sumL (lnL z us) = feSum z us := by
  unfold sumL lnL feSum feL; rw [List.map_map]; rfl
/-- the charge for a stay and its error -/
def keyP (id : ByteArray) : ByteArray := (⟨#[112, 58]⟩ : ByteArray) ++ id
/-- an error at the first fee that fails -/
def ErrAt (z : Zn) (us : List Iv) (e : Int) : Prop := ∃ k u, us[k]? = some u ∧ noE z (us.take k) ∧ feeE z u.1 u.2 = e ∧ e ≠ 0
/-- what a stay's charge is -/
inductive StayR (zs : List Zn) (id zn pl : ByteArray) (t : Int) (us : List Iv) : CV → Int → Prop
  | zone : findZ zs zn = none → StayR zs id zn pl t us zeroC 23
  | fee (z : Zn) (e : Int) : findZ zs zn = some z → ErrAt z us e → StayR zs id zn pl t us zeroC e
  | big (z : Zn) : findZ zs zn = some z → noE z us → 1125899906842624 < feSum z us → StayR zs id zn pl t us zeroC 13
  | ok (z : Zn) : findZ zs zn = some z → noE z us → feSum z us ≤ 1125899906842624 → StayR zs id zn pl t us ⟨keyP id, pl, z.name, 0, t, lnL z us, feSum z us⟩ 0
theorem ErrAt.not {z : Zn} {us : List Iv} {e : Int} (h : ErrAt z us e) (k : noE z us) : False := by
  obtain ⟨i, u, h1, _, h3, h4⟩ := h
  exact h4 (by rw [← h3]; exact k u (List.mem_of_getElem? h1))
theorem ErrAt.unique {z : Zn} {us : List Iv} {e f : Int} (h : ErrAt z us e) (k : ErrAt z us f) : e = f := by
  obtain ⟨i, u, h1, h2, h3, h4⟩ := h
  obtain ⟨j, v, k1, k2, k3, k4⟩ := k
  rcases Nat.lt_trichotomy i j with q | q | q
  · exact absurd (k2 u (by rw [List.mem_take_iff_getElem]; obtain ⟨hi, rfl⟩ := List.getElem?_eq_some_iff.1 h1; exact ⟨i, by omega, rfl⟩)) (by rw [h3]; exact h4)
  · subst q; rw [h1] at k1; obtain rfl := Option.some.inj k1; rw [← h3, k3]
  · exact absurd (h2 v (by rw [List.mem_take_iff_getElem]; obtain ⟨hi, rfl⟩ := List.getElem?_eq_some_iff.1 k1; exact ⟨j, by omega, rfl⟩)) (by rw [k3]; exact k4)
theorem StayR.unique {zs : List Zn} {id zn pl : ByteArray} {t : Int} {us : List Iv} {v1 v2 : CV} {e1 e2 : Int} (h : StayR zs id zn pl t us v1 e1) (k : StayR zs id zn pl t us v2 e2) : v1 = v2 ∧ e1 = e2 := by
  cases h with
  | zone h1 => cases k with
    | zone => exact ⟨rfl, rfl⟩
    | fee z e k1 => rw [h1] at k1; cases k1
    | big z k1 => rw [h1] at k1; cases k1
    | ok z k1 => rw [h1] at k1; cases k1
  | fee z e h1 h2 => cases k with
    | zone k1 => rw [h1] at k1; cases k1
    | fee z2 e2 k1 k2 => rw [h1] at k1; obtain rfl := Option.some.inj k1; exact ⟨rfl, h2.unique k2⟩
    | big z2 k1 k2 => rw [h1] at k1; obtain rfl := Option.some.inj k1; exact (h2.not k2).elim
    | ok z2 k1 k2 => rw [h1] at k1; obtain rfl := Option.some.inj k1; exact (h2.not k2).elim
  | big z h1 h2 h3 => cases k with
    | zone k1 => rw [h1] at k1; cases k1
    | fee z2 e2 k1 k2 => rw [h1] at k1; obtain rfl := Option.some.inj k1; exact (k2.not h2).elim
    | big z2 k1 => exact ⟨rfl, rfl⟩
    | ok z2 k1 k2 k3 => rw [h1] at k1; obtain rfl := Option.some.inj k1; omega
  | ok z h1 h2 h3 => cases k with
    | zone k1 => rw [h1] at k1; cases k1
    | fee z2 e2 k1 k2 => rw [h1] at k1; obtain rfl := Option.some.inj k1; exact (k2.not h2).elim
    | big z2 k1 k2 k3 => rw [h1] at k1; obtain rfl := Option.some.inj k1; omega
    | ok z2 k1 => rw [h1] at k1; obtain rfl := Option.some.inj k1; exact ⟨rfl, rfl⟩
end Go.Proofs.YtcpfiiapfggmpaaGreat
/- slices.Grow of nil and slices.Concat of two lists of lines; price.join; walked. -/
set_option linter.unusedSimpArgs false
namespace Go.Proofs.YtcpfiiapfggmpaaGreat
open Go.RowKit Go.Lib

/-- a slice of length 0 with room -/
theorem Own.room {α : Type} {e k : Nat} {enc : α → List Value} {w : World} {base g c : Nat} {cur : Array Value} (hg : w.heap[g]? = some (.cells cur e (0, 0))) (hb : base ≤ g) (hc : c ≤ maxLen) (hs : cur.size = c * k) : Own e enc k w base (some ⟨g, 0, none⟩) c ([] : List α) :=
  ⟨by simp, .inr ⟨g, c, cur, rfl, hb, hg, Nat.zero_le _, hc, hs, by simp⟩⟩

set_option maxRecDepth 100000 in
set_option maxHeartbeats 4000000 in
theorem growL_any (n : Nat) (hn : n ≤ 1000000) (w : World) :
    Calls Tryz.prog 121 #[.slice none 0 0, .int .i64 n] w fun e w' => ∃ A c, e = .returned (.slice A 0 c) ∧ Own 123 encLn 2 w' w.heap.size A c ([] : List Ln) ∧ Below w.heap.size w w' := by
  rcases Nat.eq_zero_or_pos n with rfl | h0
  · go_enter Tryz.func121, Tryz.ntmps121
    go_wp2_with fail
    go_ret
    exact ⟨none, 0, rfl, Own.nil _ _, Below.refl _ _⟩
  · obtain ⟨i, z, hi, hz, hs, hby, hzs⟩ := tyLn.info
    have happ := Lib.run_append_nil_zeros (P := Tryz.prog) w 64 3 64 123 i z .i64 .i64 tyLn.under (by kernel_rfl) hi hz n h0 (by omega) (by omega) (by rw [hby]; omega)
    generalize hcap : grownCap w n 0 123 = cap at happ
    have hge : n ≤ cap := by rw [← hcap]; exact grownCap_ge w _ 0 _
    have hle : cap ≤ maxLen := by rw [← hcap]; exact grownCap_le_maxLen w _ 0 _ (by unfold maxLen; omega)
    generalize hZ : (Builtin.zeroCells z.cells n ++ Builtin.zeroCells z.cells (cap - n)) = Z at happ
    have hZs : Z.size = cap * 2 := by rw [← hZ]; simp [size_zeroCells, hzs]; omega
    have hn1 : (0 : Int) < (n : Int) := by omega
    have hn2 : ¬ (n : Int) < 0 := by omega
    have HS := Lib.hid (And.intro hle hZs)
    have HG := Lib.hid hge
    clear hcap hZ hi hz hs hby hzs hle hZs hge
    go_enter Tryz.func121, Tryz.ntmps121
    go_wp2_with (at_builtin; refine Lib.wpList_append_run _ rfl _ _ _ _ rfl _ _ rfl rfl _ _ happ ?_)
    go_ret
    refine ⟨some ⟨w.heap.size, 0, none⟩, cap, rfl, Own.room (cur := Z) ?_ (Nat.le_refl _) HS.out.1 HS.out.2, ?_⟩
    · exact heap_alloc_new w.drew _
    · exact (below_drewN (Below.refl _ w) 1).al _

set_option maxRecDepth 100000 in
set_option maxHeartbeats 4000000 in
theorem concat2_any {b : Nat} {A1 A2 : Option Addr} {c1 c2 c : Nat} {l1 l2 : List Ln} {w : World} (hb : b < w.heap.size) (h0 : w.cell? ⟨b, 0, none⟩ = some (.slice A1 l1.length c1)) (h1 : w.cell? ⟨b, 1, none⟩ = some (.slice A2 l2.length c2))
    (r1 : Rd encLn 2 w w.heap.size A1 l1) (r2 : Rd encLn 2 w w.heap.size A2 l2) (hl1 : l1.length ≤ 1000) (hl2 : l2.length ≤ 1000) :
    Calls Tryz.prog 85 #[.slice (some ⟨b, 0, none⟩) 2 c] w fun e w' => ∃ A9 c9, e = .returned (.slice A9 (l1.length + l2.length) c9) ∧ Own 123 encLn 2 w' w.heap.size A9 c9 (l1 ++ l2) ∧ Below w.heap.size w w' := by
  have CG := growL_any (l1.length + l2.length) (by omega) w
  rw [Int.natCast_add] at CG
  have CG := Lib.hid CG
  have n1 : ¬ (l1.length : Int) < 0 := by omega
  have n2 : ¬ (l1.length : Int) + (l2.length : Int) < 0 := by omega
  have w1 : IntKind.i64.wrap ((l1.length : Int) + (l2.length : Int)) = (l1.length : Int) + (l2.length : Int) := IntWalk.i64_in _ (by omega)
  have R1 := Lib.hid r1
  have R2 := Lib.hid r2
  have HB := Lib.hid hb
  have H0 := Lib.hid h0
  have H1 := Lib.hid h1
  clear r1 r2 hb
  go_enter Tryz.func85, Tryz.ntmps85
  go_wp2
  refine wp_loop_rounds 3 ?_
  rw [rounds_succ]
  go_wp2
  rw [rounds_succ]
  go_wp2
  rw [rounds_succ]
  go_wp2_with fail
  refine CG.out.mono ?_
  rintro e W2 ⟨A3, c3, rfl, hown, hbn⟩
  have h0 := (World.cell?_of_block (hbn.block b HB.out)).trans H0.out
  have h1 := (World.cell?_of_block (hbn.block b HB.out)).trans H1.out
  have hr1 := R1.out.keep hbn
  have hr2 := R2.out.keep hbn
  have hsz := hbn.size
  have HBN := Lib.hid hbn
  have hb2 : b < W2.heap.size := Nat.lt_of_lt_of_le HB.out hsz
  clear hbn CG
  go_wp2
  refine wp_loop_rounds 3 ?_
  rw [rounds_succ]
  go_wp2_with (at_builtin; refine wpList_appS rfl (.tmp 31) (.tmp 32) tyLn encLn_ok rfl w.heap.size rfl rfl hown l1 rfl rfl hr1 (by simp; omega) (by simp; omega) hsz ?_; intro A4 c4 w4 hown4 hb4 hs4 hf4; rw [List.nil_append] at hown4; have hr24 := hr2.keep hb4; have h14 := (hf4 ⟨b, 1, none⟩ hb2 (fun g hg => by have := hown.addr; rcases hown.form with ⟨q, _⟩ | ⟨g', q, q2, _⟩; (rw [q] at hg; cases hg); (rw [q] at hg; injection hg with hg; injection hg with hg; subst hg; show b ≠ g'; have := HB.out; omega))).trans h1)
  rw [rounds_succ]
  go_wp2_with (at_builtin; refine wpList_appS rfl (.tmp 31) (.tmp 32) tyLn encLn_ok rfl w.heap.size rfl (by simp) hown4 l2 rfl rfl hr24 (by omega) (by omega) (by omega) ?_; intro A5 c5 w5 hown5 hb5 hs5 hf5)
  rw [rounds_succ]
  go_wp2_with fail
  go_ret
  exact ⟨A5, c5, by simp, hown5, HBN.out.trans (hb4.trans hb5)⟩

set_option maxRecDepth 100000 in
set_option maxHeartbeats 2000000 in
theorem join2_any {b : Nat} {A1 A2 : Option Addr} {c1 c2 c : Nat} {l1 l2 : List Ln} {w : World} (hb : b < w.heap.size) (h0 : w.cell? ⟨b, 0, none⟩ = some (.slice A1 l1.length c1)) (h1 : w.cell? ⟨b, 1, none⟩ = some (.slice A2 l2.length c2))
    (r1 : Rd encLn 2 w w.heap.size A1 l1) (r2 : Rd encLn 2 w w.heap.size A2 l2) (hl1 : l1.length ≤ 1000) (hl2 : l2.length ≤ 1000) :
    Calls Tryz.prog 41 #[.slice (some ⟨b, 0, none⟩) 2 c] w fun e w' => ∃ A9 c9, e = .returned (.slice A9 (l1.length + l2.length) c9) ∧ Own 123 encLn 2 w' w.heap.size A9 c9 (l1 ++ l2) ∧ Below w.heap.size w w' := by
  have C := Lib.hid (concat2_any (c := c) hb h0 h1 r1 r2 hl1 hl2)
  clear r1 r2 h0 h1 hb
  go_enter Tryz.func41, Tryz.ntmps41
  go_wp2_with fail
  refine C.out.mono ?_
  rintro e W2 ⟨A9, c9, rfl, hown, hbn⟩
  go_wp2_with fail
  go_ret
  exact ⟨A9, c9, rfl, hown, hbn⟩
end Go.Proofs.YtcpfiiapfggmpaaGreat
