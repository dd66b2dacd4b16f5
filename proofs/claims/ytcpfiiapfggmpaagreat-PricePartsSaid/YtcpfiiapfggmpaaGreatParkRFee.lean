/- The reference's Days, Fee, Refund, walked. -/
import Derived.Test.YtcpfiiapfggmpaaGreatParkRDays
import Derived.Test.YtcpfiiapfggmpaaGreatJParkRefund
import Derived.Test.YtcpfiiapfggmpaaGreatZoneREnf
namespace Go.Proofs.YtcpfiiapfggmpaaGreat
open Go.RowKit Go.Lib

theorem lD_is {z : Zn} {a b : Int} (hc : checkE z = 0) (hd : daysE a b = 0) : (V z.ss (U z.hs a b) ≤ 1125899906842624 → dayE z a b = 0 ∧ lD z a b = feesL z a b ∧ okD z a b = true) ∧ (¬ V z.ss (U z.hs a b) ≤ 1125899906842624 → dayE z a b = 13 ∧ lD z a b = [] ∧ okD z a b = false) :=
  ⟨fun h => ⟨by rw [dayE_is hc hd, if_neg (by omega)], if_pos h, decide_eq_true h⟩, fun h => ⟨by rw [dayE_is hc hd, if_pos (by omega)], if_neg h, decide_eq_false h⟩⟩

set_option maxRecDepth 100000 in
set_option maxHeartbeats 4000000 in
theorem kdays_any (z : Zn) (a b : Int) {w : World} (h : ZOk w z) (hh : z.hs.length ≤ 100) :
    Calls Tryz.prog 44 #[ZV z, .agg #[.int .i64 a, .int .i64 b]] w fun e w' => DayR z a b w w' e := by
  have CC := Lib.hid (fun (W : World) (hW : Below w.heap.size w W) => rcheck_any z (h.st hW))
  have CE := Lib.hid (fun (W : World) (hW : Below w.heap.size w W) => renf_any z a b (h.st hW) hh)
  by_cases hc : checkE z = 0
  · rw [hc] at CC
    by_cases hd : daysE a b = 0
    · have HE := Lib.hid (fun n hn => enfL_of (hs := z.hs) (a := a) (b := b) (n := n) hn)
      have CA := Lib.hid (fun (A1 : Option Addr) (c1 : Nat) (n1 : List Iv) (X : World) (hX : Below w.heap.size w X) (hrX : Rd encIv 2 X X.heap.size A1 n1) (hn1 : EnfL z.hs a b n1) => rdays28_any z a b c1 (w := X) (h.st hX) hrX hn1 hd hc)
      have hlD := lD_is hc hd
      unfold EnfR at CE
      rw [hd] at CE
      unfold RDayR at CA
      by_cases hv : V z.ss (U z.hs a b) ≤ 1125899906842624
      · obtain ⟨e0, e1, e2⟩ := hlD.1 hv
        rw [e1, e2] at CA
        have HR := Lib.hid (fun (A' : Option Addr) (c' : Nat) (X : World) (hX : Below w.heap.size w X) (hrX : Rd encI 1 X X.heap.size A' (feesL z a b)) => DayR.yes (z := z) (w := w) (w' := X) (a := a) (b := b) (A := A') (c := c') e0 hrX hX)
        clear h hv e0 e1 e2 hlD hd
        generalize DayR z a b = DR at *
        generalize feesL z a b = FL at *
        obtain ⟨nm, hA, hc', hs, sA, sc, ss, gr, fr, dm, ms⟩ := z
        simp only [ZV] at *
        obtain ⟨Y1, hY1⟩ : ∃ Y, w.alloc (.cells #[.string nm, .slice hA hs.length hc', .slice sA ss.length sc, .int .i64 gr, .int .i64 fr, .int .i64 dm, .int .i64 ms] 76) = Y := ⟨_, rfl⟩; obtain ⟨Y2, hY2⟩ : ∃ Y, Y1.alloc (.cells #[.int .i64 a, .int .i64 b] 59) = Y := ⟨_, rfl⟩; have bW : Below w.heap.size w Y2 := (by rw [← hY2, ← hY1]; exact ((Below.refl _ w).al _).al _); have sY1 : Y1.heap.size = w.heap.size + 1 := (by rw [← hY1]; simp); have bZ : Blk Y2 w.heap.size #[.string nm, .slice hA hs.length hc', .slice sA ss.length sc, .int .i64 gr, .int .i64 fr, .int .i64 dm, .int .i64 ms] 76 := (by rw [← hY2, ← hY1]; exact (Blk.new w _ _).alloc _); have bI : Blk Y2 (w.heap.size + 1) #[.int .i64 a, .int .i64 b] 59 := (by rw [← hY2, ← sY1]; exact Blk.new Y1 _ _); have q0 : World.cell? Y2 ⟨w.heap.size, 0, none⟩ = some (.string nm) := bZ.cell 0 rfl; have q1 : World.cell? Y2 ⟨w.heap.size, 1, none⟩ = some (.slice hA hs.length hc') := bZ.cell 1 rfl; have q2 : World.cell? Y2 ⟨w.heap.size, 2, none⟩ = some (.slice sA ss.length sc) := bZ.cell 2 rfl; have q3 : World.cell? Y2 ⟨w.heap.size, 3, none⟩ = some (.int .i64 gr) := bZ.cell 3 rfl; have q4 : World.cell? Y2 ⟨w.heap.size, 4, none⟩ = some (.int .i64 fr) := bZ.cell 4 rfl; have q5 : World.cell? Y2 ⟨w.heap.size, 5, none⟩ = some (.int .i64 dm) := bZ.cell 5 rfl; have q6 : World.cell? Y2 ⟨w.heap.size, 6, none⟩ = some (.int .i64 ms) := bZ.cell 6 rfl; have p0 : World.cell? Y2 ⟨w.heap.size + 1, 0, none⟩ = some (.int .i64 a) := bI.cell 0 rfl; have p1 : World.cell? Y2 ⟨w.heap.size + 1, 1, none⟩ = some (.int .i64 b) := bI.cell 1 rfl
        go_enter Tryz.func44, Tryz.ntmps44
        go_wp2_with fail
        refine (CC.out _ bW).mono ?_
        rintro e wn ⟨rfl, hbn⟩
        have bW : Below w.heap.size w wn := (by first | exact bW.st hbn | exact bW.drew.st hbn); have bZ : Blk wn w.heap.size #[.string nm, .slice hA hs.length hc', .slice sA ss.length sc, .int .i64 gr, .int .i64 fr, .int .i64 dm, .int .i64 ms] 76 := (by first | exact bZ.below hbn bZ.lt | exact bZ.drew.below hbn bZ.lt); have bI : Blk wn (w.heap.size + 1) #[.int .i64 a, .int .i64 b] 59 := (by first | exact bI.below hbn bI.lt | exact bI.drew.below hbn bI.lt); have q0 : World.cell? wn ⟨w.heap.size, 0, none⟩ = some (.string nm) := bZ.cell 0 rfl; have q1 : World.cell? wn ⟨w.heap.size, 1, none⟩ = some (.slice hA hs.length hc') := bZ.cell 1 rfl; have q2 : World.cell? wn ⟨w.heap.size, 2, none⟩ = some (.slice sA ss.length sc) := bZ.cell 2 rfl; have q3 : World.cell? wn ⟨w.heap.size, 3, none⟩ = some (.int .i64 gr) := bZ.cell 3 rfl; have q4 : World.cell? wn ⟨w.heap.size, 4, none⟩ = some (.int .i64 fr) := bZ.cell 4 rfl; have q5 : World.cell? wn ⟨w.heap.size, 5, none⟩ = some (.int .i64 dm) := bZ.cell 5 rfl; have q6 : World.cell? wn ⟨w.heap.size, 6, none⟩ = some (.int .i64 ms) := bZ.cell 6 rfl; have p0 : World.cell? wn ⟨w.heap.size + 1, 0, none⟩ = some (.int .i64 a) := bI.cell 0 rfl; have p1 : World.cell? wn ⟨w.heap.size + 1, 1, none⟩ = some (.int .i64 b) := bI.cell 1 rfl
        go_wp2_with fail
        refine (CE.out _ bW).mono ?_
        rintro e wn ⟨A1, c1, n1, rfl, hn1, -, hrd, hbn⟩
        have HN := HE.out _ (hn1 trivial)
        have bW : Below w.heap.size w wn := (by first | exact bW.st hbn | exact bW.drew.st hbn); have bZ : Blk wn w.heap.size #[.string nm, .slice hA hs.length hc', .slice sA ss.length sc, .int .i64 gr, .int .i64 fr, .int .i64 dm, .int .i64 ms] 76 := (by first | exact bZ.below hbn bZ.lt | exact bZ.drew.below hbn bZ.lt); have bI : Blk wn (w.heap.size + 1) #[.int .i64 a, .int .i64 b] 59 := (by first | exact bI.below hbn bI.lt | exact bI.drew.below hbn bI.lt); have q0 : World.cell? wn ⟨w.heap.size, 0, none⟩ = some (.string nm) := bZ.cell 0 rfl; have q1 : World.cell? wn ⟨w.heap.size, 1, none⟩ = some (.slice hA hs.length hc') := bZ.cell 1 rfl; have q2 : World.cell? wn ⟨w.heap.size, 2, none⟩ = some (.slice sA ss.length sc) := bZ.cell 2 rfl; have q3 : World.cell? wn ⟨w.heap.size, 3, none⟩ = some (.int .i64 gr) := bZ.cell 3 rfl; have q4 : World.cell? wn ⟨w.heap.size, 4, none⟩ = some (.int .i64 fr) := bZ.cell 4 rfl; have q5 : World.cell? wn ⟨w.heap.size, 5, none⟩ = some (.int .i64 dm) := bZ.cell 5 rfl; have q6 : World.cell? wn ⟨w.heap.size, 6, none⟩ = some (.int .i64 ms) := bZ.cell 6 rfl; have p0 : World.cell? wn ⟨w.heap.size + 1, 0, none⟩ = some (.int .i64 a) := bI.cell 0 rfl; have p1 : World.cell? wn ⟨w.heap.size + 1, 1, none⟩ = some (.int .i64 b) := bI.cell 1 rfl
        go_wp2_with fail
        refine (CA.out A1 c1 n1 _ bW hrd HN).mono ?_
        rintro e wn ⟨A', c', rfl, hro, hbn⟩
        have bW2 := bW.st hbn
        go_wp2
        all_goals (first | exact HR.out A' c' _ bW2 hro | (go_ret2; exact HR.out A' c' _ bW2 hro))
      · obtain ⟨e0, e1, e2⟩ := hlD.2 hv
        rw [e1, e2] at CA
        have HR := Lib.hid (fun (X : World) (hX : Below w.heap.size w X) => DayR.no (z := z) (w := w) (a := a) (b := b) (by omega) e0 hX)
        clear h hv e0 e1 e2 hlD hd
        generalize DayR z a b = DR at *
        obtain ⟨nm, hA, hc', hs, sA, sc, ss, gr, fr, dm, ms⟩ := z
        simp only [ZV] at *
        obtain ⟨Y1, hY1⟩ : ∃ Y, w.alloc (.cells #[.string nm, .slice hA hs.length hc', .slice sA ss.length sc, .int .i64 gr, .int .i64 fr, .int .i64 dm, .int .i64 ms] 76) = Y := ⟨_, rfl⟩; obtain ⟨Y2, hY2⟩ : ∃ Y, Y1.alloc (.cells #[.int .i64 a, .int .i64 b] 59) = Y := ⟨_, rfl⟩; have bW : Below w.heap.size w Y2 := (by rw [← hY2, ← hY1]; exact ((Below.refl _ w).al _).al _); have sY1 : Y1.heap.size = w.heap.size + 1 := (by rw [← hY1]; simp); have bZ : Blk Y2 w.heap.size #[.string nm, .slice hA hs.length hc', .slice sA ss.length sc, .int .i64 gr, .int .i64 fr, .int .i64 dm, .int .i64 ms] 76 := (by rw [← hY2, ← hY1]; exact (Blk.new w _ _).alloc _); have bI : Blk Y2 (w.heap.size + 1) #[.int .i64 a, .int .i64 b] 59 := (by rw [← hY2, ← sY1]; exact Blk.new Y1 _ _); have q0 : World.cell? Y2 ⟨w.heap.size, 0, none⟩ = some (.string nm) := bZ.cell 0 rfl; have q1 : World.cell? Y2 ⟨w.heap.size, 1, none⟩ = some (.slice hA hs.length hc') := bZ.cell 1 rfl; have q2 : World.cell? Y2 ⟨w.heap.size, 2, none⟩ = some (.slice sA ss.length sc) := bZ.cell 2 rfl; have q3 : World.cell? Y2 ⟨w.heap.size, 3, none⟩ = some (.int .i64 gr) := bZ.cell 3 rfl; have q4 : World.cell? Y2 ⟨w.heap.size, 4, none⟩ = some (.int .i64 fr) := bZ.cell 4 rfl; have q5 : World.cell? Y2 ⟨w.heap.size, 5, none⟩ = some (.int .i64 dm) := bZ.cell 5 rfl; have q6 : World.cell? Y2 ⟨w.heap.size, 6, none⟩ = some (.int .i64 ms) := bZ.cell 6 rfl; have p0 : World.cell? Y2 ⟨w.heap.size + 1, 0, none⟩ = some (.int .i64 a) := bI.cell 0 rfl; have p1 : World.cell? Y2 ⟨w.heap.size + 1, 1, none⟩ = some (.int .i64 b) := bI.cell 1 rfl
        go_enter Tryz.func44, Tryz.ntmps44
        go_wp2_with fail
        refine (CC.out _ bW).mono ?_
        rintro e wn ⟨rfl, hbn⟩
        have bW : Below w.heap.size w wn := (by first | exact bW.st hbn | exact bW.drew.st hbn); have bZ : Blk wn w.heap.size #[.string nm, .slice hA hs.length hc', .slice sA ss.length sc, .int .i64 gr, .int .i64 fr, .int .i64 dm, .int .i64 ms] 76 := (by first | exact bZ.below hbn bZ.lt | exact bZ.drew.below hbn bZ.lt); have bI : Blk wn (w.heap.size + 1) #[.int .i64 a, .int .i64 b] 59 := (by first | exact bI.below hbn bI.lt | exact bI.drew.below hbn bI.lt); have q0 : World.cell? wn ⟨w.heap.size, 0, none⟩ = some (.string nm) := bZ.cell 0 rfl; have q1 : World.cell? wn ⟨w.heap.size, 1, none⟩ = some (.slice hA hs.length hc') := bZ.cell 1 rfl; have q2 : World.cell? wn ⟨w.heap.size, 2, none⟩ = some (.slice sA ss.length sc) := bZ.cell 2 rfl; have q3 : World.cell? wn ⟨w.heap.size, 3, none⟩ = some (.int .i64 gr) := bZ.cell 3 rfl; have q4 : World.cell? wn ⟨w.heap.size, 4, none⟩ = some (.int .i64 fr) := bZ.cell 4 rfl; have q5 : World.cell? wn ⟨w.heap.size, 5, none⟩ = some (.int .i64 dm) := bZ.cell 5 rfl; have q6 : World.cell? wn ⟨w.heap.size, 6, none⟩ = some (.int .i64 ms) := bZ.cell 6 rfl; have p0 : World.cell? wn ⟨w.heap.size + 1, 0, none⟩ = some (.int .i64 a) := bI.cell 0 rfl; have p1 : World.cell? wn ⟨w.heap.size + 1, 1, none⟩ = some (.int .i64 b) := bI.cell 1 rfl
        go_wp2_with fail
        refine (CE.out _ bW).mono ?_
        rintro e wn ⟨A1, c1, n1, rfl, hn1, -, hrd, hbn⟩
        have HN := HE.out _ (hn1 trivial)
        have bW : Below w.heap.size w wn := (by first | exact bW.st hbn | exact bW.drew.st hbn); have bZ : Blk wn w.heap.size #[.string nm, .slice hA hs.length hc', .slice sA ss.length sc, .int .i64 gr, .int .i64 fr, .int .i64 dm, .int .i64 ms] 76 := (by first | exact bZ.below hbn bZ.lt | exact bZ.drew.below hbn bZ.lt); have bI : Blk wn (w.heap.size + 1) #[.int .i64 a, .int .i64 b] 59 := (by first | exact bI.below hbn bI.lt | exact bI.drew.below hbn bI.lt); have q0 : World.cell? wn ⟨w.heap.size, 0, none⟩ = some (.string nm) := bZ.cell 0 rfl; have q1 : World.cell? wn ⟨w.heap.size, 1, none⟩ = some (.slice hA hs.length hc') := bZ.cell 1 rfl; have q2 : World.cell? wn ⟨w.heap.size, 2, none⟩ = some (.slice sA ss.length sc) := bZ.cell 2 rfl; have q3 : World.cell? wn ⟨w.heap.size, 3, none⟩ = some (.int .i64 gr) := bZ.cell 3 rfl; have q4 : World.cell? wn ⟨w.heap.size, 4, none⟩ = some (.int .i64 fr) := bZ.cell 4 rfl; have q5 : World.cell? wn ⟨w.heap.size, 5, none⟩ = some (.int .i64 dm) := bZ.cell 5 rfl; have q6 : World.cell? wn ⟨w.heap.size, 6, none⟩ = some (.int .i64 ms) := bZ.cell 6 rfl; have p0 : World.cell? wn ⟨w.heap.size + 1, 0, none⟩ = some (.int .i64 a) := bI.cell 0 rfl; have p1 : World.cell? wn ⟨w.heap.size + 1, 1, none⟩ = some (.int .i64 b) := bI.cell 1 rfl
        go_wp2_with fail
        refine (CA.out A1 c1 n1 _ bW hrd HN).mono ?_
        rintro e wn ⟨A', c', rfl, hro, hbn⟩
        have bW2 := bW.st hbn
        go_wp2
        all_goals (first | exact HR.out _ bW2 | (go_ret2; exact HR.out _ bW2))
    · have e0 : dayE z a b = daysE a b := dayE_2 hc hd
      have HR := Lib.hid (fun (X : World) (hX : Below w.heap.size w X) => DayR.no (z := z) (w := w) (a := a) (b := b) (by omega) e0 hX)
      clear h e0
      unfold EnfR at CE
      generalize daysE a b = r at *
      generalize DayR z a b = DR at *
      obtain ⟨nm, hA, hc', hs, sA, sc, ss, gr, fr, dm, ms⟩ := z
      simp only [ZV] at *
      obtain ⟨Y1, hY1⟩ : ∃ Y, w.alloc (.cells #[.string nm, .slice hA hs.length hc', .slice sA ss.length sc, .int .i64 gr, .int .i64 fr, .int .i64 dm, .int .i64 ms] 76) = Y := ⟨_, rfl⟩; obtain ⟨Y2, hY2⟩ : ∃ Y, Y1.alloc (.cells #[.int .i64 a, .int .i64 b] 59) = Y := ⟨_, rfl⟩; have bW : Below w.heap.size w Y2 := (by rw [← hY2, ← hY1]; exact ((Below.refl _ w).al _).al _); have sY1 : Y1.heap.size = w.heap.size + 1 := (by rw [← hY1]; simp); have bZ : Blk Y2 w.heap.size #[.string nm, .slice hA hs.length hc', .slice sA ss.length sc, .int .i64 gr, .int .i64 fr, .int .i64 dm, .int .i64 ms] 76 := (by rw [← hY2, ← hY1]; exact (Blk.new w _ _).alloc _); have bI : Blk Y2 (w.heap.size + 1) #[.int .i64 a, .int .i64 b] 59 := (by rw [← hY2, ← sY1]; exact Blk.new Y1 _ _); have q0 : World.cell? Y2 ⟨w.heap.size, 0, none⟩ = some (.string nm) := bZ.cell 0 rfl; have q1 : World.cell? Y2 ⟨w.heap.size, 1, none⟩ = some (.slice hA hs.length hc') := bZ.cell 1 rfl; have q2 : World.cell? Y2 ⟨w.heap.size, 2, none⟩ = some (.slice sA ss.length sc) := bZ.cell 2 rfl; have q3 : World.cell? Y2 ⟨w.heap.size, 3, none⟩ = some (.int .i64 gr) := bZ.cell 3 rfl; have q4 : World.cell? Y2 ⟨w.heap.size, 4, none⟩ = some (.int .i64 fr) := bZ.cell 4 rfl; have q5 : World.cell? Y2 ⟨w.heap.size, 5, none⟩ = some (.int .i64 dm) := bZ.cell 5 rfl; have q6 : World.cell? Y2 ⟨w.heap.size, 6, none⟩ = some (.int .i64 ms) := bZ.cell 6 rfl; have p0 : World.cell? Y2 ⟨w.heap.size + 1, 0, none⟩ = some (.int .i64 a) := bI.cell 0 rfl; have p1 : World.cell? Y2 ⟨w.heap.size + 1, 1, none⟩ = some (.int .i64 b) := bI.cell 1 rfl
      go_enter Tryz.func44, Tryz.ntmps44
      go_wp2_with fail
      refine (CC.out _ bW).mono ?_
      rintro e wn ⟨rfl, hbn⟩
      have bW : Below w.heap.size w wn := (by first | exact bW.st hbn | exact bW.drew.st hbn); have bZ : Blk wn w.heap.size #[.string nm, .slice hA hs.length hc', .slice sA ss.length sc, .int .i64 gr, .int .i64 fr, .int .i64 dm, .int .i64 ms] 76 := (by first | exact bZ.below hbn bZ.lt | exact bZ.drew.below hbn bZ.lt); have bI : Blk wn (w.heap.size + 1) #[.int .i64 a, .int .i64 b] 59 := (by first | exact bI.below hbn bI.lt | exact bI.drew.below hbn bI.lt); have q0 : World.cell? wn ⟨w.heap.size, 0, none⟩ = some (.string nm) := bZ.cell 0 rfl; have q1 : World.cell? wn ⟨w.heap.size, 1, none⟩ = some (.slice hA hs.length hc') := bZ.cell 1 rfl; have q2 : World.cell? wn ⟨w.heap.size, 2, none⟩ = some (.slice sA ss.length sc) := bZ.cell 2 rfl; have q3 : World.cell? wn ⟨w.heap.size, 3, none⟩ = some (.int .i64 gr) := bZ.cell 3 rfl; have q4 : World.cell? wn ⟨w.heap.size, 4, none⟩ = some (.int .i64 fr) := bZ.cell 4 rfl; have q5 : World.cell? wn ⟨w.heap.size, 5, none⟩ = some (.int .i64 dm) := bZ.cell 5 rfl; have q6 : World.cell? wn ⟨w.heap.size, 6, none⟩ = some (.int .i64 ms) := bZ.cell 6 rfl; have p0 : World.cell? wn ⟨w.heap.size + 1, 0, none⟩ = some (.int .i64 a) := bI.cell 0 rfl; have p1 : World.cell? wn ⟨w.heap.size + 1, 1, none⟩ = some (.int .i64 b) := bI.cell 1 rfl
      go_wp2_with fail
      refine (CE.out _ bW).mono ?_
      rintro e wn ⟨A1, c1, n1, rfl, -, -, -, hbn⟩
      have bW : Below w.heap.size w wn := (by first | exact bW.st hbn | exact bW.drew.st hbn); have bZ : Blk wn w.heap.size #[.string nm, .slice hA hs.length hc', .slice sA ss.length sc, .int .i64 gr, .int .i64 fr, .int .i64 dm, .int .i64 ms] 76 := (by first | exact bZ.below hbn bZ.lt | exact bZ.drew.below hbn bZ.lt); have bI : Blk wn (w.heap.size + 1) #[.int .i64 a, .int .i64 b] 59 := (by first | exact bI.below hbn bI.lt | exact bI.drew.below hbn bI.lt); have q0 : World.cell? wn ⟨w.heap.size, 0, none⟩ = some (.string nm) := bZ.cell 0 rfl; have q1 : World.cell? wn ⟨w.heap.size, 1, none⟩ = some (.slice hA hs.length hc') := bZ.cell 1 rfl; have q2 : World.cell? wn ⟨w.heap.size, 2, none⟩ = some (.slice sA ss.length sc) := bZ.cell 2 rfl; have q3 : World.cell? wn ⟨w.heap.size, 3, none⟩ = some (.int .i64 gr) := bZ.cell 3 rfl; have q4 : World.cell? wn ⟨w.heap.size, 4, none⟩ = some (.int .i64 fr) := bZ.cell 4 rfl; have q5 : World.cell? wn ⟨w.heap.size, 5, none⟩ = some (.int .i64 dm) := bZ.cell 5 rfl; have q6 : World.cell? wn ⟨w.heap.size, 6, none⟩ = some (.int .i64 ms) := bZ.cell 6 rfl; have p0 : World.cell? wn ⟨w.heap.size + 1, 0, none⟩ = some (.int .i64 a) := bI.cell 0 rfl; have p1 : World.cell? wn ⟨w.heap.size + 1, 1, none⟩ = some (.int .i64 b) := bI.cell 1 rfl
      go_wp2
      all_goals (first | exact HR.out _ bW | (go_ret2; exact HR.out _ bW))
  · have e0 : dayE z a b = checkE z := dayE_1 hc
    have HR := Lib.hid (fun (X : World) (hX : Below w.heap.size w X) => DayR.no (z := z) (w := w) (a := a) (b := b) (by omega) e0 hX)
    clear h CE e0
    generalize checkE z = r at *
    generalize DayR z a b = DR at *
    obtain ⟨nm, hA, hc', hs, sA, sc, ss, gr, fr, dm, ms⟩ := z
    simp only [ZV] at *
    obtain ⟨Y1, hY1⟩ : ∃ Y, w.alloc (.cells #[.string nm, .slice hA hs.length hc', .slice sA ss.length sc, .int .i64 gr, .int .i64 fr, .int .i64 dm, .int .i64 ms] 76) = Y := ⟨_, rfl⟩; obtain ⟨Y2, hY2⟩ : ∃ Y, Y1.alloc (.cells #[.int .i64 a, .int .i64 b] 59) = Y := ⟨_, rfl⟩; have bW : Below w.heap.size w Y2 := (by rw [← hY2, ← hY1]; exact ((Below.refl _ w).al _).al _); have sY1 : Y1.heap.size = w.heap.size + 1 := (by rw [← hY1]; simp); have bZ : Blk Y2 w.heap.size #[.string nm, .slice hA hs.length hc', .slice sA ss.length sc, .int .i64 gr, .int .i64 fr, .int .i64 dm, .int .i64 ms] 76 := (by rw [← hY2, ← hY1]; exact (Blk.new w _ _).alloc _); have bI : Blk Y2 (w.heap.size + 1) #[.int .i64 a, .int .i64 b] 59 := (by rw [← hY2, ← sY1]; exact Blk.new Y1 _ _); have q0 : World.cell? Y2 ⟨w.heap.size, 0, none⟩ = some (.string nm) := bZ.cell 0 rfl; have q1 : World.cell? Y2 ⟨w.heap.size, 1, none⟩ = some (.slice hA hs.length hc') := bZ.cell 1 rfl; have q2 : World.cell? Y2 ⟨w.heap.size, 2, none⟩ = some (.slice sA ss.length sc) := bZ.cell 2 rfl; have q3 : World.cell? Y2 ⟨w.heap.size, 3, none⟩ = some (.int .i64 gr) := bZ.cell 3 rfl; have q4 : World.cell? Y2 ⟨w.heap.size, 4, none⟩ = some (.int .i64 fr) := bZ.cell 4 rfl; have q5 : World.cell? Y2 ⟨w.heap.size, 5, none⟩ = some (.int .i64 dm) := bZ.cell 5 rfl; have q6 : World.cell? Y2 ⟨w.heap.size, 6, none⟩ = some (.int .i64 ms) := bZ.cell 6 rfl; have p0 : World.cell? Y2 ⟨w.heap.size + 1, 0, none⟩ = some (.int .i64 a) := bI.cell 0 rfl; have p1 : World.cell? Y2 ⟨w.heap.size + 1, 1, none⟩ = some (.int .i64 b) := bI.cell 1 rfl
    go_enter Tryz.func44, Tryz.ntmps44
    go_wp2_with fail
    refine (CC.out _ bW).mono ?_
    rintro e wn ⟨rfl, hbn⟩
    have bW : Below w.heap.size w wn := (by first | exact bW.st hbn | exact bW.drew.st hbn); have bZ : Blk wn w.heap.size #[.string nm, .slice hA hs.length hc', .slice sA ss.length sc, .int .i64 gr, .int .i64 fr, .int .i64 dm, .int .i64 ms] 76 := (by first | exact bZ.below hbn bZ.lt | exact bZ.drew.below hbn bZ.lt); have bI : Blk wn (w.heap.size + 1) #[.int .i64 a, .int .i64 b] 59 := (by first | exact bI.below hbn bI.lt | exact bI.drew.below hbn bI.lt); have q0 : World.cell? wn ⟨w.heap.size, 0, none⟩ = some (.string nm) := bZ.cell 0 rfl; have q1 : World.cell? wn ⟨w.heap.size, 1, none⟩ = some (.slice hA hs.length hc') := bZ.cell 1 rfl; have q2 : World.cell? wn ⟨w.heap.size, 2, none⟩ = some (.slice sA ss.length sc) := bZ.cell 2 rfl; have q3 : World.cell? wn ⟨w.heap.size, 3, none⟩ = some (.int .i64 gr) := bZ.cell 3 rfl; have q4 : World.cell? wn ⟨w.heap.size, 4, none⟩ = some (.int .i64 fr) := bZ.cell 4 rfl; have q5 : World.cell? wn ⟨w.heap.size, 5, none⟩ = some (.int .i64 dm) := bZ.cell 5 rfl; have q6 : World.cell? wn ⟨w.heap.size, 6, none⟩ = some (.int .i64 ms) := bZ.cell 6 rfl; have p0 : World.cell? wn ⟨w.heap.size + 1, 0, none⟩ = some (.int .i64 a) := bI.cell 0 rfl; have p1 : World.cell? wn ⟨w.heap.size + 1, 1, none⟩ = some (.int .i64 b) := bI.cell 1 rfl
    go_wp2
    all_goals (first | exact HR.out _ bW | (go_ret2; exact HR.out _ bW))

set_option maxRecDepth 100000 in
set_option maxHeartbeats 4000000 in
theorem kfee_any (z : Zn) (a b : Int) {w : World} (h : ZOk w z) (hh : z.hs.length ≤ 100) :
    Calls Tryz.prog 18 #[ZV z, .agg #[.int .i64 a, .int .i64 b]] w fun e w' => e = .returned (.tuple #[.int .i64 (feeN z a b), .int .i64 (feeE z a b)]) ∧ Below w.heap.size w w' := by
  have CD := Lib.hid (fun (W : World) (hW : Below w.heap.size w W) => kdays_any z a b (h.st hW) hh)
  unfold DayR at CD
  by_cases hd : dayE z a b = 0
  · obtain ⟨f1, f2⟩ := feesL_fits hd
    rw [dayL_yes hd, hd] at CD
    have CS := Lib.hid (fun (A : Option Addr) (c : Nat) (X : World) (hr : Rd encI 1 X X.heap.size A (feesL z a b)) => rsum_any (w := X) c hr f1 (fun x hx => by have := f2 x hx; omega))
    have hS : (feesL z a b).sum = feeS z a b := rfl
    rw [hS] at CS
    by_cases h2 : feeS z a b ≤ 1125899906842624
    · obtain ⟨e1, e2⟩ := feeE_0 hd h2
      rw [e1, e2]
      clear f1 f2 hS e1 e2 hd h hh
      generalize feeS z a b = r at *
      generalize feesL z a b = L at *
      obtain ⟨nm, hA, hc', hs, sA, sc, ss, gr, fr, dm, ms⟩ := z
      simp only [ZV] at *
      obtain ⟨Y1, hY1⟩ : ∃ Y, w.alloc (.cells #[.string nm, .slice hA hs.length hc', .slice sA ss.length sc, .int .i64 gr, .int .i64 fr, .int .i64 dm, .int .i64 ms] 76) = Y := ⟨_, rfl⟩; obtain ⟨Y2, hY2⟩ : ∃ Y, Y1.alloc (.cells #[.int .i64 a, .int .i64 b] 59) = Y := ⟨_, rfl⟩; have bW : Below w.heap.size w Y2 := (by rw [← hY2, ← hY1]; exact ((Below.refl _ w).al _).al _); have sY1 : Y1.heap.size = w.heap.size + 1 := (by rw [← hY1]; simp); have bZ : Blk Y2 w.heap.size #[.string nm, .slice hA hs.length hc', .slice sA ss.length sc, .int .i64 gr, .int .i64 fr, .int .i64 dm, .int .i64 ms] 76 := (by rw [← hY2, ← hY1]; exact (Blk.new w _ _).alloc _); have bI : Blk Y2 (w.heap.size + 1) #[.int .i64 a, .int .i64 b] 59 := (by rw [← hY2, ← sY1]; exact Blk.new Y1 _ _); have q0 : World.cell? Y2 ⟨w.heap.size, 0, none⟩ = some (.string nm) := bZ.cell 0 rfl; have q1 : World.cell? Y2 ⟨w.heap.size, 1, none⟩ = some (.slice hA hs.length hc') := bZ.cell 1 rfl; have q2 : World.cell? Y2 ⟨w.heap.size, 2, none⟩ = some (.slice sA ss.length sc) := bZ.cell 2 rfl; have q3 : World.cell? Y2 ⟨w.heap.size, 3, none⟩ = some (.int .i64 gr) := bZ.cell 3 rfl; have q4 : World.cell? Y2 ⟨w.heap.size, 4, none⟩ = some (.int .i64 fr) := bZ.cell 4 rfl; have q5 : World.cell? Y2 ⟨w.heap.size, 5, none⟩ = some (.int .i64 dm) := bZ.cell 5 rfl; have q6 : World.cell? Y2 ⟨w.heap.size, 6, none⟩ = some (.int .i64 ms) := bZ.cell 6 rfl; have p0 : World.cell? Y2 ⟨w.heap.size + 1, 0, none⟩ = some (.int .i64 a) := bI.cell 0 rfl; have p1 : World.cell? Y2 ⟨w.heap.size + 1, 1, none⟩ = some (.int .i64 b) := bI.cell 1 rfl
      go_enter Tryz.func18, Tryz.ntmps18
      go_wp2_with fail
      refine (CD.out _ bW).mono ?_
      rintro e wn ⟨A1, c1, rfl, hrd, hbn⟩
      have bW : Below w.heap.size w wn := (by first | exact bW.st hbn | exact bW.drew.st hbn); have bZ : Blk wn w.heap.size #[.string nm, .slice hA hs.length hc', .slice sA ss.length sc, .int .i64 gr, .int .i64 fr, .int .i64 dm, .int .i64 ms] 76 := (by first | exact bZ.below hbn bZ.lt | exact bZ.drew.below hbn bZ.lt); have bI : Blk wn (w.heap.size + 1) #[.int .i64 a, .int .i64 b] 59 := (by first | exact bI.below hbn bI.lt | exact bI.drew.below hbn bI.lt); have q0 : World.cell? wn ⟨w.heap.size, 0, none⟩ = some (.string nm) := bZ.cell 0 rfl; have q1 : World.cell? wn ⟨w.heap.size, 1, none⟩ = some (.slice hA hs.length hc') := bZ.cell 1 rfl; have q2 : World.cell? wn ⟨w.heap.size, 2, none⟩ = some (.slice sA ss.length sc) := bZ.cell 2 rfl; have q3 : World.cell? wn ⟨w.heap.size, 3, none⟩ = some (.int .i64 gr) := bZ.cell 3 rfl; have q4 : World.cell? wn ⟨w.heap.size, 4, none⟩ = some (.int .i64 fr) := bZ.cell 4 rfl; have q5 : World.cell? wn ⟨w.heap.size, 5, none⟩ = some (.int .i64 dm) := bZ.cell 5 rfl; have q6 : World.cell? wn ⟨w.heap.size, 6, none⟩ = some (.int .i64 ms) := bZ.cell 6 rfl; have p0 : World.cell? wn ⟨w.heap.size + 1, 0, none⟩ = some (.int .i64 a) := bI.cell 0 rfl; have p1 : World.cell? wn ⟨w.heap.size + 1, 1, none⟩ = some (.int .i64 b) := bI.cell 1 rfl
      go_wp2_with fail
      refine (CS.out A1 c1 _ hrd).mono ?_
      rintro e wn ⟨rfl, hbn⟩
      have bW : Below w.heap.size w wn := (by first | exact bW.st hbn | exact bW.drew.st hbn); have bZ : Blk wn w.heap.size #[.string nm, .slice hA hs.length hc', .slice sA ss.length sc, .int .i64 gr, .int .i64 fr, .int .i64 dm, .int .i64 ms] 76 := (by first | exact bZ.below hbn bZ.lt | exact bZ.drew.below hbn bZ.lt); have bI : Blk wn (w.heap.size + 1) #[.int .i64 a, .int .i64 b] 59 := (by first | exact bI.below hbn bI.lt | exact bI.drew.below hbn bI.lt); have q0 : World.cell? wn ⟨w.heap.size, 0, none⟩ = some (.string nm) := bZ.cell 0 rfl; have q1 : World.cell? wn ⟨w.heap.size, 1, none⟩ = some (.slice hA hs.length hc') := bZ.cell 1 rfl; have q2 : World.cell? wn ⟨w.heap.size, 2, none⟩ = some (.slice sA ss.length sc) := bZ.cell 2 rfl; have q3 : World.cell? wn ⟨w.heap.size, 3, none⟩ = some (.int .i64 gr) := bZ.cell 3 rfl; have q4 : World.cell? wn ⟨w.heap.size, 4, none⟩ = some (.int .i64 fr) := bZ.cell 4 rfl; have q5 : World.cell? wn ⟨w.heap.size, 5, none⟩ = some (.int .i64 dm) := bZ.cell 5 rfl; have q6 : World.cell? wn ⟨w.heap.size, 6, none⟩ = some (.int .i64 ms) := bZ.cell 6 rfl; have p0 : World.cell? wn ⟨w.heap.size + 1, 0, none⟩ = some (.int .i64 a) := bI.cell 0 rfl; have p1 : World.cell? wn ⟨w.heap.size + 1, 1, none⟩ = some (.int .i64 b) := bI.cell 1 rfl
      go_wp2
      all_goals (go_ret2; exact ⟨rfl, bW⟩)
    · obtain ⟨e1, e2⟩ := feeE_13 hd (by omega)
      rw [e1, e2]
      have h3 : 1125899906842624 < feeS z a b := by omega
      clear f1 f2 hS e1 e2 hd h hh h2
      generalize feeS z a b = r at *
      generalize feesL z a b = L at *
      obtain ⟨nm, hA, hc', hs, sA, sc, ss, gr, fr, dm, ms⟩ := z
      simp only [ZV] at *
      obtain ⟨Y1, hY1⟩ : ∃ Y, w.alloc (.cells #[.string nm, .slice hA hs.length hc', .slice sA ss.length sc, .int .i64 gr, .int .i64 fr, .int .i64 dm, .int .i64 ms] 76) = Y := ⟨_, rfl⟩; obtain ⟨Y2, hY2⟩ : ∃ Y, Y1.alloc (.cells #[.int .i64 a, .int .i64 b] 59) = Y := ⟨_, rfl⟩; have bW : Below w.heap.size w Y2 := (by rw [← hY2, ← hY1]; exact ((Below.refl _ w).al _).al _); have sY1 : Y1.heap.size = w.heap.size + 1 := (by rw [← hY1]; simp); have bZ : Blk Y2 w.heap.size #[.string nm, .slice hA hs.length hc', .slice sA ss.length sc, .int .i64 gr, .int .i64 fr, .int .i64 dm, .int .i64 ms] 76 := (by rw [← hY2, ← hY1]; exact (Blk.new w _ _).alloc _); have bI : Blk Y2 (w.heap.size + 1) #[.int .i64 a, .int .i64 b] 59 := (by rw [← hY2, ← sY1]; exact Blk.new Y1 _ _); have q0 : World.cell? Y2 ⟨w.heap.size, 0, none⟩ = some (.string nm) := bZ.cell 0 rfl; have q1 : World.cell? Y2 ⟨w.heap.size, 1, none⟩ = some (.slice hA hs.length hc') := bZ.cell 1 rfl; have q2 : World.cell? Y2 ⟨w.heap.size, 2, none⟩ = some (.slice sA ss.length sc) := bZ.cell 2 rfl; have q3 : World.cell? Y2 ⟨w.heap.size, 3, none⟩ = some (.int .i64 gr) := bZ.cell 3 rfl; have q4 : World.cell? Y2 ⟨w.heap.size, 4, none⟩ = some (.int .i64 fr) := bZ.cell 4 rfl; have q5 : World.cell? Y2 ⟨w.heap.size, 5, none⟩ = some (.int .i64 dm) := bZ.cell 5 rfl; have q6 : World.cell? Y2 ⟨w.heap.size, 6, none⟩ = some (.int .i64 ms) := bZ.cell 6 rfl; have p0 : World.cell? Y2 ⟨w.heap.size + 1, 0, none⟩ = some (.int .i64 a) := bI.cell 0 rfl; have p1 : World.cell? Y2 ⟨w.heap.size + 1, 1, none⟩ = some (.int .i64 b) := bI.cell 1 rfl
      go_enter Tryz.func18, Tryz.ntmps18
      go_wp2_with fail
      refine (CD.out _ bW).mono ?_
      rintro e wn ⟨A1, c1, rfl, hrd, hbn⟩
      have bW : Below w.heap.size w wn := (by first | exact bW.st hbn | exact bW.drew.st hbn); have bZ : Blk wn w.heap.size #[.string nm, .slice hA hs.length hc', .slice sA ss.length sc, .int .i64 gr, .int .i64 fr, .int .i64 dm, .int .i64 ms] 76 := (by first | exact bZ.below hbn bZ.lt | exact bZ.drew.below hbn bZ.lt); have bI : Blk wn (w.heap.size + 1) #[.int .i64 a, .int .i64 b] 59 := (by first | exact bI.below hbn bI.lt | exact bI.drew.below hbn bI.lt); have q0 : World.cell? wn ⟨w.heap.size, 0, none⟩ = some (.string nm) := bZ.cell 0 rfl; have q1 : World.cell? wn ⟨w.heap.size, 1, none⟩ = some (.slice hA hs.length hc') := bZ.cell 1 rfl; have q2 : World.cell? wn ⟨w.heap.size, 2, none⟩ = some (.slice sA ss.length sc) := bZ.cell 2 rfl; have q3 : World.cell? wn ⟨w.heap.size, 3, none⟩ = some (.int .i64 gr) := bZ.cell 3 rfl; have q4 : World.cell? wn ⟨w.heap.size, 4, none⟩ = some (.int .i64 fr) := bZ.cell 4 rfl; have q5 : World.cell? wn ⟨w.heap.size, 5, none⟩ = some (.int .i64 dm) := bZ.cell 5 rfl; have q6 : World.cell? wn ⟨w.heap.size, 6, none⟩ = some (.int .i64 ms) := bZ.cell 6 rfl; have p0 : World.cell? wn ⟨w.heap.size + 1, 0, none⟩ = some (.int .i64 a) := bI.cell 0 rfl; have p1 : World.cell? wn ⟨w.heap.size + 1, 1, none⟩ = some (.int .i64 b) := bI.cell 1 rfl
      go_wp2_with fail
      refine (CS.out A1 c1 _ hrd).mono ?_
      rintro e wn ⟨rfl, hbn⟩
      have bW : Below w.heap.size w wn := (by first | exact bW.st hbn | exact bW.drew.st hbn); have bZ : Blk wn w.heap.size #[.string nm, .slice hA hs.length hc', .slice sA ss.length sc, .int .i64 gr, .int .i64 fr, .int .i64 dm, .int .i64 ms] 76 := (by first | exact bZ.below hbn bZ.lt | exact bZ.drew.below hbn bZ.lt); have bI : Blk wn (w.heap.size + 1) #[.int .i64 a, .int .i64 b] 59 := (by first | exact bI.below hbn bI.lt | exact bI.drew.below hbn bI.lt); have q0 : World.cell? wn ⟨w.heap.size, 0, none⟩ = some (.string nm) := bZ.cell 0 rfl; have q1 : World.cell? wn ⟨w.heap.size, 1, none⟩ = some (.slice hA hs.length hc') := bZ.cell 1 rfl; have q2 : World.cell? wn ⟨w.heap.size, 2, none⟩ = some (.slice sA ss.length sc) := bZ.cell 2 rfl; have q3 : World.cell? wn ⟨w.heap.size, 3, none⟩ = some (.int .i64 gr) := bZ.cell 3 rfl; have q4 : World.cell? wn ⟨w.heap.size, 4, none⟩ = some (.int .i64 fr) := bZ.cell 4 rfl; have q5 : World.cell? wn ⟨w.heap.size, 5, none⟩ = some (.int .i64 dm) := bZ.cell 5 rfl; have q6 : World.cell? wn ⟨w.heap.size, 6, none⟩ = some (.int .i64 ms) := bZ.cell 6 rfl; have p0 : World.cell? wn ⟨w.heap.size + 1, 0, none⟩ = some (.int .i64 a) := bI.cell 0 rfl; have p1 : World.cell? wn ⟨w.heap.size + 1, 1, none⟩ = some (.int .i64 b) := bI.cell 1 rfl
      go_wp2
      all_goals (go_ret2; exact ⟨rfl, bW⟩)
  · obtain ⟨e1, e2⟩ := feeE_1 hd
    rw [e1, e2]
    clear e1 e2 h hh
    generalize dayE z a b = r at *
    generalize dayL z a b = L at *
    obtain ⟨nm, hA, hc', hs, sA, sc, ss, gr, fr, dm, ms⟩ := z
    simp only [ZV] at *
    obtain ⟨Y1, hY1⟩ : ∃ Y, w.alloc (.cells #[.string nm, .slice hA hs.length hc', .slice sA ss.length sc, .int .i64 gr, .int .i64 fr, .int .i64 dm, .int .i64 ms] 76) = Y := ⟨_, rfl⟩; obtain ⟨Y2, hY2⟩ : ∃ Y, Y1.alloc (.cells #[.int .i64 a, .int .i64 b] 59) = Y := ⟨_, rfl⟩; have bW : Below w.heap.size w Y2 := (by rw [← hY2, ← hY1]; exact ((Below.refl _ w).al _).al _); have sY1 : Y1.heap.size = w.heap.size + 1 := (by rw [← hY1]; simp); have bZ : Blk Y2 w.heap.size #[.string nm, .slice hA hs.length hc', .slice sA ss.length sc, .int .i64 gr, .int .i64 fr, .int .i64 dm, .int .i64 ms] 76 := (by rw [← hY2, ← hY1]; exact (Blk.new w _ _).alloc _); have bI : Blk Y2 (w.heap.size + 1) #[.int .i64 a, .int .i64 b] 59 := (by rw [← hY2, ← sY1]; exact Blk.new Y1 _ _); have q0 : World.cell? Y2 ⟨w.heap.size, 0, none⟩ = some (.string nm) := bZ.cell 0 rfl; have q1 : World.cell? Y2 ⟨w.heap.size, 1, none⟩ = some (.slice hA hs.length hc') := bZ.cell 1 rfl; have q2 : World.cell? Y2 ⟨w.heap.size, 2, none⟩ = some (.slice sA ss.length sc) := bZ.cell 2 rfl; have q3 : World.cell? Y2 ⟨w.heap.size, 3, none⟩ = some (.int .i64 gr) := bZ.cell 3 rfl; have q4 : World.cell? Y2 ⟨w.heap.size, 4, none⟩ = some (.int .i64 fr) := bZ.cell 4 rfl; have q5 : World.cell? Y2 ⟨w.heap.size, 5, none⟩ = some (.int .i64 dm) := bZ.cell 5 rfl; have q6 : World.cell? Y2 ⟨w.heap.size, 6, none⟩ = some (.int .i64 ms) := bZ.cell 6 rfl; have p0 : World.cell? Y2 ⟨w.heap.size + 1, 0, none⟩ = some (.int .i64 a) := bI.cell 0 rfl; have p1 : World.cell? Y2 ⟨w.heap.size + 1, 1, none⟩ = some (.int .i64 b) := bI.cell 1 rfl
    go_enter Tryz.func18, Tryz.ntmps18
    go_wp2_with fail
    refine (CD.out _ bW).mono ?_
    rintro e wn ⟨A1, c1, rfl, hrd, hbn⟩
    have bW : Below w.heap.size w wn := (by first | exact bW.st hbn | exact bW.drew.st hbn); have bZ : Blk wn w.heap.size #[.string nm, .slice hA hs.length hc', .slice sA ss.length sc, .int .i64 gr, .int .i64 fr, .int .i64 dm, .int .i64 ms] 76 := (by first | exact bZ.below hbn bZ.lt | exact bZ.drew.below hbn bZ.lt); have bI : Blk wn (w.heap.size + 1) #[.int .i64 a, .int .i64 b] 59 := (by first | exact bI.below hbn bI.lt | exact bI.drew.below hbn bI.lt); have q0 : World.cell? wn ⟨w.heap.size, 0, none⟩ = some (.string nm) := bZ.cell 0 rfl; have q1 : World.cell? wn ⟨w.heap.size, 1, none⟩ = some (.slice hA hs.length hc') := bZ.cell 1 rfl; have q2 : World.cell? wn ⟨w.heap.size, 2, none⟩ = some (.slice sA ss.length sc) := bZ.cell 2 rfl; have q3 : World.cell? wn ⟨w.heap.size, 3, none⟩ = some (.int .i64 gr) := bZ.cell 3 rfl; have q4 : World.cell? wn ⟨w.heap.size, 4, none⟩ = some (.int .i64 fr) := bZ.cell 4 rfl; have q5 : World.cell? wn ⟨w.heap.size, 5, none⟩ = some (.int .i64 dm) := bZ.cell 5 rfl; have q6 : World.cell? wn ⟨w.heap.size, 6, none⟩ = some (.int .i64 ms) := bZ.cell 6 rfl; have p0 : World.cell? wn ⟨w.heap.size + 1, 0, none⟩ = some (.int .i64 a) := bI.cell 0 rfl; have p1 : World.cell? wn ⟨w.heap.size + 1, 1, none⟩ = some (.int .i64 b) := bI.cell 1 rfl
    go_wp2
    all_goals (go_ret2; exact ⟨rfl, bW⟩)

end Go.Proofs.YtcpfiiapfggmpaaGreat
