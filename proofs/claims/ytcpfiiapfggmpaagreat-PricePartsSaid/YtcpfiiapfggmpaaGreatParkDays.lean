/- parkfee.Days, walked. -/
import Derived.Test.YtcpfiiapfggmpaaGreatJParkUntil
namespace Go.Proofs.YtcpfiiapfggmpaaGreat
open Go.RowKit Go.Lib

theorem Rd.drew {α : Type} {enc : α → List Value} {k : Nat} {A : Option Addr} {l : List α} {X : World} (h : Rd enc k X X.heap.size A l) : Rd enc k X.drew X.drew.heap.size A l := h
/-- what Days answers -/
def DayR (z : Zn) (a b : Int) (w w' : World) (e : Ending) : Prop :=
  ∃ A c, e = .returned (.tuple #[.slice A (dayL z a b).length c, .int .i64 (dayE z a b)]) ∧ Rd encI 1 w' w'.heap.size A (dayL z a b) ∧ Below w.heap.size w w'
theorem dayL_no {z : Zn} {a b : Int} (h : dayE z a b ≠ 0) : dayL z a b = [] := if_neg h
theorem dayL_yes {z : Zn} {a b : Int} (h : dayE z a b = 0) : dayL z a b = feesL z a b := if_pos h
theorem enfL_of {hs : List Wn} {a b : Int} {n : List Iv} (h : NF n ∧ ∀ t, Mem n t ↔ Sh hs (a, b) t) : EnfL hs a b n := ⟨h.1, fun t => by rw [h.2]; rfl⟩
theorem DayR.no {z : Zn} {a b : Int} {w w' : World} (h : dayE z a b ≠ 0) {r : Int} (hr : dayE z a b = r) (hb : Below w.heap.size w w') : DayR z a b w w' (.returned (.tuple #[.slice none 0 0, .int .i64 r])) := by
  subst hr
  refine ⟨none, 0, ?_, ?_, hb⟩
  · rw [dayL_no h]; rfl
  · rw [dayL_no h]; exact Rd.nil

theorem DayR.yes {z : Zn} {a b : Int} {w w' : World} {A : Option Addr} {c : Nat} (h : dayE z a b = 0) (hr : Rd encI 1 w' w'.heap.size A (feesL z a b)) (hb : Below w.heap.size w w') : DayR z a b w w' (.returned (.tuple #[.slice A (feesL z a b).length c, .int .i64 0])) := by
  refine ⟨A, c, ?_, ?_, hb⟩
  · rw [dayL_yes h, h]
  · rw [dayL_yes h]; exact hr

set_option maxRecDepth 100000 in
set_option maxHeartbeats 4000000 in
theorem pdays_any (z : Zn) (a b : Int) {w : World} (h : ZOk w z) (hh : z.hs.length ≤ 1000) :
    Calls Tryz.prog 84 #[ZV z, .agg #[.int .i64 a, .int .i64 b]] w fun e w' => DayR z a b w w' e := by
  have CC := Lib.hid (fun (W : World) (hW : Below w.heap.size w W) => zcheck_any z (h.st hW))
  have CE := Lib.hid (fun (W : World) (hW : Below w.heap.size w W) => zenf_any z a b (h.st hW) (by omega))
  by_cases hc : checkE z = 0
  · rw [hc] at CC
    by_cases hd : daysE a b = 0
    · have hr := daysE_rng hd
      have hr0 := hr.1
      have hr1 := hr.2.1
      have hr2 := hr.2.2.1
      have hU0 := U_nonneg z.hs a b
      have hU1 := U_le z.hs a (b := b) (by omega)
      have CS := Lib.hid (fun (W : World) (hW : Below w.heap.size w W) => psteps_any z (U z.hs a b) (h.st hW))
      have CL := Lib.hid (fun (A3 : Option Addr) (c3 : Nat) (n3 : List Iv) (X : World) (h3 : Rd encIv 2 X X.heap.size A3 n3) (hn3 : NF n3) => length_any (w := X) c3 h3 (by have := hn3.length_max; omega))
      by_cases hv : V z.ss (U z.hs a b) ≤ 1125899906842624
      · have e0 : dayE z a b = 0 := by rw [dayE_is hc hd, if_neg (by omega)]
        have HR := Lib.hid (fun (A' : Option Addr) (c' : Nat) (X : World) (hX : Below w.heap.size w X) (hrX : Rd encI 1 X X.heap.size A' (feesL z a b)) => DayR.yes (z := z) (w := w) (w' := X) (a := a) (b := b) (A := A') (c := c') e0 hrX hX)
        obtain ⟨e1, e2⟩ := stepsP_0 hc (s := U z.hs a b) ⟨hU0, by omega⟩ hv
        rw [e1, e2] at CS
        have HLen := Lib.hid (fun n (hn : EnfL z.hs a b n) => hn.len (by omega))
        have CA := Lib.hid (fun (A1 : Option Addr) (c1 : Nat) (n1 : List Iv) (X : World) (hX : Below w.heap.size w X) (hrX : Rd encIv 2 X X.heap.size A1 n1) (hn1 : EnfL z.hs a b n1) => each_any z A1 c1 n1 a b (w := X) (h.st hX) hrX hn1 hd hc hv)
        unfold EnfR at CE
        rw [hd] at CE
        have HE := Lib.hid (fun n hn => enfL_of (hs := z.hs) (a := a) (b := b) (n := n) hn)
        clear h hv e0 e1 e2 hr hd
        generalize U z.hs a b = u at *
        generalize V z.ss u = v at *
        generalize DayR z a b = DR at *
        generalize feesL z a b = FL at *
        obtain ⟨nm, hA, hc', hs, sA, sc, ss, gr, fr, dm, ms⟩ := z
        simp only [ZV, SV] at *
        obtain ⟨Y1, hY1⟩ : ∃ Y, w.alloc (.cells #[.string nm, .slice hA hs.length hc', .slice sA ss.length sc, .int .i64 gr, .int .i64 fr, .int .i64 dm, .int .i64 ms] 76) = Y := ⟨_, rfl⟩; obtain ⟨Y2, hY2⟩ : ∃ Y, Y1.alloc (.cells #[.int .i64 a, .int .i64 b] 59) = Y := ⟨_, rfl⟩; have bW : Below w.heap.size w Y2 := (by rw [← hY2, ← hY1]; exact ((Below.refl _ w).al _).al _); have sY1 : Y1.heap.size = w.heap.size + 1 := (by rw [← hY1]; simp); have bZ : Blk Y2 w.heap.size #[.string nm, .slice hA hs.length hc', .slice sA ss.length sc, .int .i64 gr, .int .i64 fr, .int .i64 dm, .int .i64 ms] 76 := (by rw [← hY2, ← hY1]; exact (Blk.new w _ _).alloc _); have bI : Blk Y2 (w.heap.size + 1) #[.int .i64 a, .int .i64 b] 59 := (by rw [← hY2, ← sY1]; exact Blk.new Y1 _ _); have q0 : World.cell? Y2 ⟨w.heap.size, 0, none⟩ = some (.string nm) := bZ.cell 0 rfl; have q1 : World.cell? Y2 ⟨w.heap.size, 1, none⟩ = some (.slice hA hs.length hc') := bZ.cell 1 rfl; have q2 : World.cell? Y2 ⟨w.heap.size, 2, none⟩ = some (.slice sA ss.length sc) := bZ.cell 2 rfl; have q3 : World.cell? Y2 ⟨w.heap.size, 3, none⟩ = some (.int .i64 gr) := bZ.cell 3 rfl; have q4 : World.cell? Y2 ⟨w.heap.size, 4, none⟩ = some (.int .i64 fr) := bZ.cell 4 rfl; have q5 : World.cell? Y2 ⟨w.heap.size, 5, none⟩ = some (.int .i64 dm) := bZ.cell 5 rfl; have q6 : World.cell? Y2 ⟨w.heap.size, 6, none⟩ = some (.int .i64 ms) := bZ.cell 6 rfl; have p0 : World.cell? Y2 ⟨w.heap.size + 1, 0, none⟩ = some (.int .i64 a) := bI.cell 0 rfl; have p1 : World.cell? Y2 ⟨w.heap.size + 1, 1, none⟩ = some (.int .i64 b) := bI.cell 1 rfl
        go_enter Tryz.func84, Tryz.ntmps84
        go_wp2_with fail
        refine (CC.out _ bW).mono ?_
        rintro e wn ⟨rfl, hbn⟩
        have bW : Below w.heap.size w wn := (by first | exact bW.st hbn | exact bW.drew.st hbn); have bZ : Blk wn w.heap.size #[.string nm, .slice hA hs.length hc', .slice sA ss.length sc, .int .i64 gr, .int .i64 fr, .int .i64 dm, .int .i64 ms] 76 := (by first | exact bZ.below hbn bZ.lt | exact bZ.drew.below hbn bZ.lt); have bI : Blk wn (w.heap.size + 1) #[.int .i64 a, .int .i64 b] 59 := (by first | exact bI.below hbn bI.lt | exact bI.drew.below hbn bI.lt); have q0 : World.cell? wn ⟨w.heap.size, 0, none⟩ = some (.string nm) := bZ.cell 0 rfl; have q1 : World.cell? wn ⟨w.heap.size, 1, none⟩ = some (.slice hA hs.length hc') := bZ.cell 1 rfl; have q2 : World.cell? wn ⟨w.heap.size, 2, none⟩ = some (.slice sA ss.length sc) := bZ.cell 2 rfl; have q3 : World.cell? wn ⟨w.heap.size, 3, none⟩ = some (.int .i64 gr) := bZ.cell 3 rfl; have q4 : World.cell? wn ⟨w.heap.size, 4, none⟩ = some (.int .i64 fr) := bZ.cell 4 rfl; have q5 : World.cell? wn ⟨w.heap.size, 5, none⟩ = some (.int .i64 dm) := bZ.cell 5 rfl; have q6 : World.cell? wn ⟨w.heap.size, 6, none⟩ = some (.int .i64 ms) := bZ.cell 6 rfl; have p0 : World.cell? wn ⟨w.heap.size + 1, 0, none⟩ = some (.int .i64 a) := bI.cell 0 rfl; have p1 : World.cell? wn ⟨w.heap.size + 1, 1, none⟩ = some (.int .i64 b) := bI.cell 1 rfl
        go_wp2_with fail
        refine (CE.out _ bW).mono ?_
        rintro e wn ⟨A1, c1, n1, rfl, hn1, -, hrd, hbn⟩
        have HN := HE.out _ (hn1 trivial)
        have hul := HLen.out _ HN
        have hNF : NF n1 := HN.1
        have bW : Below w.heap.size w wn := (by first | exact bW.st hbn | exact bW.drew.st hbn); have bZ : Blk wn w.heap.size #[.string nm, .slice hA hs.length hc', .slice sA ss.length sc, .int .i64 gr, .int .i64 fr, .int .i64 dm, .int .i64 ms] 76 := (by first | exact bZ.below hbn bZ.lt | exact bZ.drew.below hbn bZ.lt); have bI : Blk wn (w.heap.size + 1) #[.int .i64 a, .int .i64 b] 59 := (by first | exact bI.below hbn bI.lt | exact bI.drew.below hbn bI.lt); have q0 : World.cell? wn ⟨w.heap.size, 0, none⟩ = some (.string nm) := bZ.cell 0 rfl; have q1 : World.cell? wn ⟨w.heap.size, 1, none⟩ = some (.slice hA hs.length hc') := bZ.cell 1 rfl; have q2 : World.cell? wn ⟨w.heap.size, 2, none⟩ = some (.slice sA ss.length sc) := bZ.cell 2 rfl; have q3 : World.cell? wn ⟨w.heap.size, 3, none⟩ = some (.int .i64 gr) := bZ.cell 3 rfl; have q4 : World.cell? wn ⟨w.heap.size, 4, none⟩ = some (.int .i64 fr) := bZ.cell 4 rfl; have q5 : World.cell? wn ⟨w.heap.size, 5, none⟩ = some (.int .i64 dm) := bZ.cell 5 rfl; have q6 : World.cell? wn ⟨w.heap.size, 6, none⟩ = some (.int .i64 ms) := bZ.cell 6 rfl; have p0 : World.cell? wn ⟨w.heap.size + 1, 0, none⟩ = some (.int .i64 a) := bI.cell 0 rfl; have p1 : World.cell? wn ⟨w.heap.size + 1, 1, none⟩ = some (.int .i64 b) := bI.cell 1 rfl
        have hrdD : Rd encIv 2 wn.drew wn.drew.heap.size A1 n1 := hrd
        go_wp2_with fail
        go_region_held3 (fun w' => (w'.cell? ⟨w.heap.size, 0, none⟩ = some (.string nm) ∧ w'.cell? ⟨w.heap.size, 1, none⟩ = some (.slice hA hs.length hc') ∧ w'.cell? ⟨w.heap.size, 2, none⟩ = some (.slice sA ss.length sc) ∧ w'.cell? ⟨w.heap.size, 3, none⟩ = some (.int .i64 gr) ∧ w'.cell? ⟨w.heap.size, 4, none⟩ = some (.int .i64 fr) ∧ w'.cell? ⟨w.heap.size, 5, none⟩ = some (.int .i64 dm) ∧ w'.cell? ⟨w.heap.size, 6, none⟩ = some (.int .i64 ms)) ∧ w'.cell? ⟨w.heap.size + 1, 0, none⟩ = some (.int .i64 a) ∧ w'.cell? ⟨w.heap.size + 1, 1, none⟩ = some (.int .i64 b)) (go_keep) (first | (go_at_call 118; (first | (with_reducible refine (CL.out A1 c1 n1 wn.drew hrdD hNF).mono ?_) | (with_reducible refine (CL.out A1 c1 n1 wn hrd hNF).mono ?_)); rintro e wn ⟨n4, rfl, hn4, hm4, hbn⟩; rw [hn4.unique hNF hm4, hul]; have hrd := (show Rd encIv 2 wn wn.heap.size A1 n1 from by first | exact hrd.st hbn | exact hrd.drew.st hbn); have bW : Below w.heap.size w wn := (by first | exact bW.st hbn | exact bW.drew.st hbn); have bZ : Blk wn w.heap.size #[.string nm, .slice hA hs.length hc', .slice sA ss.length sc, .int .i64 gr, .int .i64 fr, .int .i64 dm, .int .i64 ms] 76 := (by first | exact bZ.below hbn bZ.lt | exact bZ.drew.below hbn bZ.lt); have bI : Blk wn (w.heap.size + 1) #[.int .i64 a, .int .i64 b] 59 := (by first | exact bI.below hbn bI.lt | exact bI.drew.below hbn bI.lt); have q0 : World.cell? wn ⟨w.heap.size, 0, none⟩ = some (.string nm) := bZ.cell 0 rfl; have q1 : World.cell? wn ⟨w.heap.size, 1, none⟩ = some (.slice hA hs.length hc') := bZ.cell 1 rfl; have q2 : World.cell? wn ⟨w.heap.size, 2, none⟩ = some (.slice sA ss.length sc) := bZ.cell 2 rfl; have q3 : World.cell? wn ⟨w.heap.size, 3, none⟩ = some (.int .i64 gr) := bZ.cell 3 rfl; have q4 : World.cell? wn ⟨w.heap.size, 4, none⟩ = some (.int .i64 fr) := bZ.cell 4 rfl; have q5 : World.cell? wn ⟨w.heap.size, 5, none⟩ = some (.int .i64 dm) := bZ.cell 5 rfl; have q6 : World.cell? wn ⟨w.heap.size, 6, none⟩ = some (.int .i64 ms) := bZ.cell 6 rfl; have p0 : World.cell? wn ⟨w.heap.size + 1, 0, none⟩ = some (.int .i64 a) := bI.cell 0 rfl; have p1 : World.cell? wn ⟨w.heap.size + 1, 1, none⟩ = some (.int .i64 b) := bI.cell 1 rfl) | (go_at_call 117; (with_reducible refine (CS.out _ (by first | exact bW | exact bW.drew)).mono ?_); rintro e wn ⟨rfl, hbn⟩; have hrd := (show Rd encIv 2 wn wn.heap.size A1 n1 from by first | exact hrd.st hbn | exact hrd.drew.st hbn); have bW : Below w.heap.size w wn := (by first | exact bW.st hbn | exact bW.drew.st hbn); have bZ : Blk wn w.heap.size #[.string nm, .slice hA hs.length hc', .slice sA ss.length sc, .int .i64 gr, .int .i64 fr, .int .i64 dm, .int .i64 ms] 76 := (by first | exact bZ.below hbn bZ.lt | exact bZ.drew.below hbn bZ.lt); have bI : Blk wn (w.heap.size + 1) #[.int .i64 a, .int .i64 b] 59 := (by first | exact bI.below hbn bI.lt | exact bI.drew.below hbn bI.lt); have q0 : World.cell? wn ⟨w.heap.size, 0, none⟩ = some (.string nm) := bZ.cell 0 rfl; have q1 : World.cell? wn ⟨w.heap.size, 1, none⟩ = some (.slice hA hs.length hc') := bZ.cell 1 rfl; have q2 : World.cell? wn ⟨w.heap.size, 2, none⟩ = some (.slice sA ss.length sc) := bZ.cell 2 rfl; have q3 : World.cell? wn ⟨w.heap.size, 3, none⟩ = some (.int .i64 gr) := bZ.cell 3 rfl; have q4 : World.cell? wn ⟨w.heap.size, 4, none⟩ = some (.int .i64 fr) := bZ.cell 4 rfl; have q5 : World.cell? wn ⟨w.heap.size, 5, none⟩ = some (.int .i64 dm) := bZ.cell 5 rfl; have q6 : World.cell? wn ⟨w.heap.size, 6, none⟩ = some (.int .i64 ms) := bZ.cell 6 rfl; have p0 : World.cell? wn ⟨w.heap.size + 1, 0, none⟩ = some (.int .i64 a) := bI.cell 0 rfl; have p1 : World.cell? wn ⟨w.heap.size + 1, 1, none⟩ = some (.int .i64 b) := bI.cell 1 rfl))
        all_goals
          go_wp2_with fail
          refine (CA.out A1 c1 n1 _ bW hrd HN).mono ?_
          rintro e wn ⟨A', c', rfl, ho, hbn⟩
          have bW2 := bW.st hbn
          have hro := ho.rd encI_ok
          go_wp2
          all_goals (first | exact HR.out A' c' _ bW2 hro | (go_ret2; exact HR.out A' c' _ bW2 hro))
      · have e13 : dayE z a b = 13 := by rw [dayE_is hc hd, if_pos (by omega)]
        have HR := Lib.hid (fun (X : World) (hX : Below w.heap.size w X) => DayR.no (z := z) (w := w) (a := a) (b := b) (by omega) e13 hX)
        obtain ⟨e1, e2⟩ := stepsP_13 hc (s := U z.hs a b) ⟨hU0, by omega⟩ (by omega)
        rw [e1, e2] at CS
        have HLen := Lib.hid (fun n (hn : EnfL z.hs a b n) => hn.len (by omega))
        unfold EnfR at CE
        rw [hd] at CE
        have HE := Lib.hid (fun n hn => enfL_of (hs := z.hs) (a := a) (b := b) (n := n) hn)
        clear h hv e13 e1 e2
        generalize U z.hs a b = u at *
        generalize DayR z a b = DR at *
        obtain ⟨nm, hA, hc', hs, sA, sc, ss, gr, fr, dm, ms⟩ := z
        simp only [ZV] at *
        obtain ⟨Y1, hY1⟩ : ∃ Y, w.alloc (.cells #[.string nm, .slice hA hs.length hc', .slice sA ss.length sc, .int .i64 gr, .int .i64 fr, .int .i64 dm, .int .i64 ms] 76) = Y := ⟨_, rfl⟩; obtain ⟨Y2, hY2⟩ : ∃ Y, Y1.alloc (.cells #[.int .i64 a, .int .i64 b] 59) = Y := ⟨_, rfl⟩; have bW : Below w.heap.size w Y2 := (by rw [← hY2, ← hY1]; exact ((Below.refl _ w).al _).al _); have sY1 : Y1.heap.size = w.heap.size + 1 := (by rw [← hY1]; simp); have bZ : Blk Y2 w.heap.size #[.string nm, .slice hA hs.length hc', .slice sA ss.length sc, .int .i64 gr, .int .i64 fr, .int .i64 dm, .int .i64 ms] 76 := (by rw [← hY2, ← hY1]; exact (Blk.new w _ _).alloc _); have bI : Blk Y2 (w.heap.size + 1) #[.int .i64 a, .int .i64 b] 59 := (by rw [← hY2, ← sY1]; exact Blk.new Y1 _ _); have q0 : World.cell? Y2 ⟨w.heap.size, 0, none⟩ = some (.string nm) := bZ.cell 0 rfl; have q1 : World.cell? Y2 ⟨w.heap.size, 1, none⟩ = some (.slice hA hs.length hc') := bZ.cell 1 rfl; have q2 : World.cell? Y2 ⟨w.heap.size, 2, none⟩ = some (.slice sA ss.length sc) := bZ.cell 2 rfl; have q3 : World.cell? Y2 ⟨w.heap.size, 3, none⟩ = some (.int .i64 gr) := bZ.cell 3 rfl; have q4 : World.cell? Y2 ⟨w.heap.size, 4, none⟩ = some (.int .i64 fr) := bZ.cell 4 rfl; have q5 : World.cell? Y2 ⟨w.heap.size, 5, none⟩ = some (.int .i64 dm) := bZ.cell 5 rfl; have q6 : World.cell? Y2 ⟨w.heap.size, 6, none⟩ = some (.int .i64 ms) := bZ.cell 6 rfl; have p0 : World.cell? Y2 ⟨w.heap.size + 1, 0, none⟩ = some (.int .i64 a) := bI.cell 0 rfl; have p1 : World.cell? Y2 ⟨w.heap.size + 1, 1, none⟩ = some (.int .i64 b) := bI.cell 1 rfl
        go_enter Tryz.func84, Tryz.ntmps84
        go_wp2_with fail
        refine (CC.out _ bW).mono ?_
        rintro e wn ⟨rfl, hbn⟩
        have bW : Below w.heap.size w wn := (by first | exact bW.st hbn | exact bW.drew.st hbn); have bZ : Blk wn w.heap.size #[.string nm, .slice hA hs.length hc', .slice sA ss.length sc, .int .i64 gr, .int .i64 fr, .int .i64 dm, .int .i64 ms] 76 := (by first | exact bZ.below hbn bZ.lt | exact bZ.drew.below hbn bZ.lt); have bI : Blk wn (w.heap.size + 1) #[.int .i64 a, .int .i64 b] 59 := (by first | exact bI.below hbn bI.lt | exact bI.drew.below hbn bI.lt); have q0 : World.cell? wn ⟨w.heap.size, 0, none⟩ = some (.string nm) := bZ.cell 0 rfl; have q1 : World.cell? wn ⟨w.heap.size, 1, none⟩ = some (.slice hA hs.length hc') := bZ.cell 1 rfl; have q2 : World.cell? wn ⟨w.heap.size, 2, none⟩ = some (.slice sA ss.length sc) := bZ.cell 2 rfl; have q3 : World.cell? wn ⟨w.heap.size, 3, none⟩ = some (.int .i64 gr) := bZ.cell 3 rfl; have q4 : World.cell? wn ⟨w.heap.size, 4, none⟩ = some (.int .i64 fr) := bZ.cell 4 rfl; have q5 : World.cell? wn ⟨w.heap.size, 5, none⟩ = some (.int .i64 dm) := bZ.cell 5 rfl; have q6 : World.cell? wn ⟨w.heap.size, 6, none⟩ = some (.int .i64 ms) := bZ.cell 6 rfl; have p0 : World.cell? wn ⟨w.heap.size + 1, 0, none⟩ = some (.int .i64 a) := bI.cell 0 rfl; have p1 : World.cell? wn ⟨w.heap.size + 1, 1, none⟩ = some (.int .i64 b) := bI.cell 1 rfl
        go_wp2_with fail
        refine (CE.out _ bW).mono ?_
        rintro e wn ⟨A1, c1, n1, rfl, hn1, -, hrd, hbn⟩
        have HN := HE.out _ (hn1 trivial)
        have hul := HLen.out _ HN
        have hNF : NF n1 := HN.1
        have bW : Below w.heap.size w wn := (by first | exact bW.st hbn | exact bW.drew.st hbn); have bZ : Blk wn w.heap.size #[.string nm, .slice hA hs.length hc', .slice sA ss.length sc, .int .i64 gr, .int .i64 fr, .int .i64 dm, .int .i64 ms] 76 := (by first | exact bZ.below hbn bZ.lt | exact bZ.drew.below hbn bZ.lt); have bI : Blk wn (w.heap.size + 1) #[.int .i64 a, .int .i64 b] 59 := (by first | exact bI.below hbn bI.lt | exact bI.drew.below hbn bI.lt); have q0 : World.cell? wn ⟨w.heap.size, 0, none⟩ = some (.string nm) := bZ.cell 0 rfl; have q1 : World.cell? wn ⟨w.heap.size, 1, none⟩ = some (.slice hA hs.length hc') := bZ.cell 1 rfl; have q2 : World.cell? wn ⟨w.heap.size, 2, none⟩ = some (.slice sA ss.length sc) := bZ.cell 2 rfl; have q3 : World.cell? wn ⟨w.heap.size, 3, none⟩ = some (.int .i64 gr) := bZ.cell 3 rfl; have q4 : World.cell? wn ⟨w.heap.size, 4, none⟩ = some (.int .i64 fr) := bZ.cell 4 rfl; have q5 : World.cell? wn ⟨w.heap.size, 5, none⟩ = some (.int .i64 dm) := bZ.cell 5 rfl; have q6 : World.cell? wn ⟨w.heap.size, 6, none⟩ = some (.int .i64 ms) := bZ.cell 6 rfl; have p0 : World.cell? wn ⟨w.heap.size + 1, 0, none⟩ = some (.int .i64 a) := bI.cell 0 rfl; have p1 : World.cell? wn ⟨w.heap.size + 1, 1, none⟩ = some (.int .i64 b) := bI.cell 1 rfl
        have hrdD : Rd encIv 2 wn.drew wn.drew.heap.size A1 n1 := hrd
        go_wp2_with fail
        go_region_held3 (fun w' => (w'.cell? ⟨w.heap.size, 0, none⟩ = some (.string nm) ∧ w'.cell? ⟨w.heap.size, 1, none⟩ = some (.slice hA hs.length hc') ∧ w'.cell? ⟨w.heap.size, 2, none⟩ = some (.slice sA ss.length sc) ∧ w'.cell? ⟨w.heap.size, 3, none⟩ = some (.int .i64 gr) ∧ w'.cell? ⟨w.heap.size, 4, none⟩ = some (.int .i64 fr) ∧ w'.cell? ⟨w.heap.size, 5, none⟩ = some (.int .i64 dm) ∧ w'.cell? ⟨w.heap.size, 6, none⟩ = some (.int .i64 ms)) ∧ w'.cell? ⟨w.heap.size + 1, 0, none⟩ = some (.int .i64 a) ∧ w'.cell? ⟨w.heap.size + 1, 1, none⟩ = some (.int .i64 b)) (go_keep) (first | (go_at_call 118; (first | (with_reducible refine (CL.out A1 c1 n1 wn.drew hrdD hNF).mono ?_) | (with_reducible refine (CL.out A1 c1 n1 wn hrd hNF).mono ?_)); rintro e wn ⟨n4, rfl, hn4, hm4, hbn⟩; rw [hn4.unique hNF hm4, hul]; have bW : Below w.heap.size w wn := (by first | exact bW.st hbn | exact bW.drew.st hbn); have bZ : Blk wn w.heap.size #[.string nm, .slice hA hs.length hc', .slice sA ss.length sc, .int .i64 gr, .int .i64 fr, .int .i64 dm, .int .i64 ms] 76 := (by first | exact bZ.below hbn bZ.lt | exact bZ.drew.below hbn bZ.lt); have bI : Blk wn (w.heap.size + 1) #[.int .i64 a, .int .i64 b] 59 := (by first | exact bI.below hbn bI.lt | exact bI.drew.below hbn bI.lt); have q0 : World.cell? wn ⟨w.heap.size, 0, none⟩ = some (.string nm) := bZ.cell 0 rfl; have q1 : World.cell? wn ⟨w.heap.size, 1, none⟩ = some (.slice hA hs.length hc') := bZ.cell 1 rfl; have q2 : World.cell? wn ⟨w.heap.size, 2, none⟩ = some (.slice sA ss.length sc) := bZ.cell 2 rfl; have q3 : World.cell? wn ⟨w.heap.size, 3, none⟩ = some (.int .i64 gr) := bZ.cell 3 rfl; have q4 : World.cell? wn ⟨w.heap.size, 4, none⟩ = some (.int .i64 fr) := bZ.cell 4 rfl; have q5 : World.cell? wn ⟨w.heap.size, 5, none⟩ = some (.int .i64 dm) := bZ.cell 5 rfl; have q6 : World.cell? wn ⟨w.heap.size, 6, none⟩ = some (.int .i64 ms) := bZ.cell 6 rfl; have p0 : World.cell? wn ⟨w.heap.size + 1, 0, none⟩ = some (.int .i64 a) := bI.cell 0 rfl; have p1 : World.cell? wn ⟨w.heap.size + 1, 1, none⟩ = some (.int .i64 b) := bI.cell 1 rfl) | (go_at_call 117; (with_reducible refine (CS.out _ (by first | exact bW | exact bW.drew)).mono ?_); rintro e wn ⟨rfl, hbn⟩; have bW : Below w.heap.size w wn := (by first | exact bW.st hbn | exact bW.drew.st hbn); have bZ : Blk wn w.heap.size #[.string nm, .slice hA hs.length hc', .slice sA ss.length sc, .int .i64 gr, .int .i64 fr, .int .i64 dm, .int .i64 ms] 76 := (by first | exact bZ.below hbn bZ.lt | exact bZ.drew.below hbn bZ.lt); have bI : Blk wn (w.heap.size + 1) #[.int .i64 a, .int .i64 b] 59 := (by first | exact bI.below hbn bI.lt | exact bI.drew.below hbn bI.lt); have q0 : World.cell? wn ⟨w.heap.size, 0, none⟩ = some (.string nm) := bZ.cell 0 rfl; have q1 : World.cell? wn ⟨w.heap.size, 1, none⟩ = some (.slice hA hs.length hc') := bZ.cell 1 rfl; have q2 : World.cell? wn ⟨w.heap.size, 2, none⟩ = some (.slice sA ss.length sc) := bZ.cell 2 rfl; have q3 : World.cell? wn ⟨w.heap.size, 3, none⟩ = some (.int .i64 gr) := bZ.cell 3 rfl; have q4 : World.cell? wn ⟨w.heap.size, 4, none⟩ = some (.int .i64 fr) := bZ.cell 4 rfl; have q5 : World.cell? wn ⟨w.heap.size, 5, none⟩ = some (.int .i64 dm) := bZ.cell 5 rfl; have q6 : World.cell? wn ⟨w.heap.size, 6, none⟩ = some (.int .i64 ms) := bZ.cell 6 rfl; have p0 : World.cell? wn ⟨w.heap.size + 1, 0, none⟩ = some (.int .i64 a) := bI.cell 0 rfl; have p1 : World.cell? wn ⟨w.heap.size + 1, 1, none⟩ = some (.int .i64 b) := bI.cell 1 rfl))
        all_goals
          go_wp2
          all_goals (first | exact HR.out _ bW | exact HR.out _ bW.drew | (go_ret2; exact HR.out _ bW))
    · have e0 : dayE z a b = daysE a b := dayE_2 hc hd
      have HR := Lib.hid (fun (X : World) (hX : Below w.heap.size w X) => DayR.no (z := z) (w := w) (a := a) (b := b) (by omega) e0 hX)
      clear h e0
      unfold EnfR at CE
      generalize daysE a b = r at *
      generalize DayR z a b = DR at *
      obtain ⟨nm, hA, hc', hs, sA, sc, ss, gr, fr, dm, ms⟩ := z
      simp only [ZV] at *
      obtain ⟨Y1, hY1⟩ : ∃ Y, w.alloc (.cells #[.string nm, .slice hA hs.length hc', .slice sA ss.length sc, .int .i64 gr, .int .i64 fr, .int .i64 dm, .int .i64 ms] 76) = Y := ⟨_, rfl⟩; obtain ⟨Y2, hY2⟩ : ∃ Y, Y1.alloc (.cells #[.int .i64 a, .int .i64 b] 59) = Y := ⟨_, rfl⟩; have bW : Below w.heap.size w Y2 := (by rw [← hY2, ← hY1]; exact ((Below.refl _ w).al _).al _); have sY1 : Y1.heap.size = w.heap.size + 1 := (by rw [← hY1]; simp); have bZ : Blk Y2 w.heap.size #[.string nm, .slice hA hs.length hc', .slice sA ss.length sc, .int .i64 gr, .int .i64 fr, .int .i64 dm, .int .i64 ms] 76 := (by rw [← hY2, ← hY1]; exact (Blk.new w _ _).alloc _); have bI : Blk Y2 (w.heap.size + 1) #[.int .i64 a, .int .i64 b] 59 := (by rw [← hY2, ← sY1]; exact Blk.new Y1 _ _); have q0 : World.cell? Y2 ⟨w.heap.size, 0, none⟩ = some (.string nm) := bZ.cell 0 rfl; have q1 : World.cell? Y2 ⟨w.heap.size, 1, none⟩ = some (.slice hA hs.length hc') := bZ.cell 1 rfl; have q2 : World.cell? Y2 ⟨w.heap.size, 2, none⟩ = some (.slice sA ss.length sc) := bZ.cell 2 rfl; have q3 : World.cell? Y2 ⟨w.heap.size, 3, none⟩ = some (.int .i64 gr) := bZ.cell 3 rfl; have q4 : World.cell? Y2 ⟨w.heap.size, 4, none⟩ = some (.int .i64 fr) := bZ.cell 4 rfl; have q5 : World.cell? Y2 ⟨w.heap.size, 5, none⟩ = some (.int .i64 dm) := bZ.cell 5 rfl; have q6 : World.cell? Y2 ⟨w.heap.size, 6, none⟩ = some (.int .i64 ms) := bZ.cell 6 rfl; have p0 : World.cell? Y2 ⟨w.heap.size + 1, 0, none⟩ = some (.int .i64 a) := bI.cell 0 rfl; have p1 : World.cell? Y2 ⟨w.heap.size + 1, 1, none⟩ = some (.int .i64 b) := bI.cell 1 rfl
      go_enter Tryz.func84, Tryz.ntmps84
      go_wp2_with fail
      refine (CC.out _ bW).mono ?_
      rintro e wn ⟨rfl, hbn⟩
      have bW : Below w.heap.size w wn := (by first | exact bW.st hbn | exact bW.drew.st hbn); have bZ : Blk wn w.heap.size #[.string nm, .slice hA hs.length hc', .slice sA ss.length sc, .int .i64 gr, .int .i64 fr, .int .i64 dm, .int .i64 ms] 76 := (by first | exact bZ.below hbn bZ.lt | exact bZ.drew.below hbn bZ.lt); have bI : Blk wn (w.heap.size + 1) #[.int .i64 a, .int .i64 b] 59 := (by first | exact bI.below hbn bI.lt | exact bI.drew.below hbn bI.lt); have q0 : World.cell? wn ⟨w.heap.size, 0, none⟩ = some (.string nm) := bZ.cell 0 rfl; have q1 : World.cell? wn ⟨w.heap.size, 1, none⟩ = some (.slice hA hs.length hc') := bZ.cell 1 rfl; have q2 : World.cell? wn ⟨w.heap.size, 2, none⟩ = some (.slice sA ss.length sc) := bZ.cell 2 rfl; have q3 : World.cell? wn ⟨w.heap.size, 3, none⟩ = some (.int .i64 gr) := bZ.cell 3 rfl; have q4 : World.cell? wn ⟨w.heap.size, 4, none⟩ = some (.int .i64 fr) := bZ.cell 4 rfl; have q5 : World.cell? wn ⟨w.heap.size, 5, none⟩ = some (.int .i64 dm) := bZ.cell 5 rfl; have q6 : World.cell? wn ⟨w.heap.size, 6, none⟩ = some (.int .i64 ms) := bZ.cell 6 rfl; have p0 : World.cell? wn ⟨w.heap.size + 1, 0, none⟩ = some (.int .i64 a) := bI.cell 0 rfl; have p1 : World.cell? wn ⟨w.heap.size + 1, 1, none⟩ = some (.int .i64 b) := bI.cell 1 rfl
      go_wp2_with fail
      refine (CE.out _ bW).mono ?_
      rintro e wn ⟨A1, c1, n1, rfl, -, -, -, hbn⟩
      have bW : Below w.heap.size w wn := (by first | exact bW.st hbn | exact bW.drew.st hbn); have bZ : Blk wn w.heap.size #[.string nm, .slice hA hs.length hc', .slice sA ss.length sc, .int .i64 gr, .int .i64 fr, .int .i64 dm, .int .i64 ms] 76 := (by first | exact bZ.below hbn bZ.lt | exact bZ.drew.below hbn bZ.lt); have bI : Blk wn (w.heap.size + 1) #[.int .i64 a, .int .i64 b] 59 := (by first | exact bI.below hbn bI.lt | exact bI.drew.below hbn bI.lt); have q0 : World.cell? wn ⟨w.heap.size, 0, none⟩ = some (.string nm) := bZ.cell 0 rfl; have q1 : World.cell? wn ⟨w.heap.size, 1, none⟩ = some (.slice hA hs.length hc') := bZ.cell 1 rfl; have q2 : World.cell? wn ⟨w.heap.size, 2, none⟩ = some (.slice sA ss.length sc) := bZ.cell 2 rfl; have q3 : World.cell? wn ⟨w.heap.size, 3, none⟩ = some (.int .i64 gr) := bZ.cell 3 rfl; have q4 : World.cell? wn ⟨w.heap.size, 4, none⟩ = some (.int .i64 fr) := bZ.cell 4 rfl; have q5 : World.cell? wn ⟨w.heap.size, 5, none⟩ = some (.int .i64 dm) := bZ.cell 5 rfl; have q6 : World.cell? wn ⟨w.heap.size, 6, none⟩ = some (.int .i64 ms) := bZ.cell 6 rfl; have p0 : World.cell? wn ⟨w.heap.size + 1, 0, none⟩ = some (.int .i64 a) := bI.cell 0 rfl; have p1 : World.cell? wn ⟨w.heap.size + 1, 1, none⟩ = some (.int .i64 b) := bI.cell 1 rfl
      go_wp2
      all_goals (first | exact HR.out _ bW | (go_ret2; exact HR.out _ bW))
  · have e0 : dayE z a b = checkE z := dayE_1 hc
    have HR := Lib.hid (fun (X : World) (hX : Below w.heap.size w X) => DayR.no (z := z) (w := w) (a := a) (b := b) (by omega) e0 hX)
    clear h CE e0
    generalize checkE z = r at *
    generalize DayR z a b = DR at *
    obtain ⟨nm, hA, hc', hs, sA, sc, ss, gr, fr, dm, ms⟩ := z
    simp only [ZV] at *
    obtain ⟨Y1, hY1⟩ : ∃ Y, w.alloc (.cells #[.string nm, .slice hA hs.length hc', .slice sA ss.length sc, .int .i64 gr, .int .i64 fr, .int .i64 dm, .int .i64 ms] 76) = Y := ⟨_, rfl⟩; obtain ⟨Y2, hY2⟩ : ∃ Y, Y1.alloc (.cells #[.int .i64 a, .int .i64 b] 59) = Y := ⟨_, rfl⟩; have bW : Below w.heap.size w Y2 := (by rw [← hY2, ← hY1]; exact ((Below.refl _ w).al _).al _); have sY1 : Y1.heap.size = w.heap.size + 1 := (by rw [← hY1]; simp); have bZ : Blk Y2 w.heap.size #[.string nm, .slice hA hs.length hc', .slice sA ss.length sc, .int .i64 gr, .int .i64 fr, .int .i64 dm, .int .i64 ms] 76 := (by rw [← hY2, ← hY1]; exact (Blk.new w _ _).alloc _); have bI : Blk Y2 (w.heap.size + 1) #[.int .i64 a, .int .i64 b] 59 := (by rw [← hY2, ← sY1]; exact Blk.new Y1 _ _); have q0 : World.cell? Y2 ⟨w.heap.size, 0, none⟩ = some (.string nm) := bZ.cell 0 rfl; have q1 : World.cell? Y2 ⟨w.heap.size, 1, none⟩ = some (.slice hA hs.length hc') := bZ.cell 1 rfl; have q2 : World.cell? Y2 ⟨w.heap.size, 2, none⟩ = some (.slice sA ss.length sc) := bZ.cell 2 rfl; have q3 : World.cell? Y2 ⟨w.heap.size, 3, none⟩ = some (.int .i64 gr) := bZ.cell 3 rfl; have q4 : World.cell? Y2 ⟨w.heap.size, 4, none⟩ = some (.int .i64 fr) := bZ.cell 4 rfl; have q5 : World.cell? Y2 ⟨w.heap.size, 5, none⟩ = some (.int .i64 dm) := bZ.cell 5 rfl; have q6 : World.cell? Y2 ⟨w.heap.size, 6, none⟩ = some (.int .i64 ms) := bZ.cell 6 rfl; have p0 : World.cell? Y2 ⟨w.heap.size + 1, 0, none⟩ = some (.int .i64 a) := bI.cell 0 rfl; have p1 : World.cell? Y2 ⟨w.heap.size + 1, 1, none⟩ = some (.int .i64 b) := bI.cell 1 rfl
    go_enter Tryz.func84, Tryz.ntmps84
    go_wp2_with fail
    refine (CC.out _ bW).mono ?_
    rintro e wn ⟨rfl, hbn⟩
    have bW : Below w.heap.size w wn := (by first | exact bW.st hbn | exact bW.drew.st hbn); have bZ : Blk wn w.heap.size #[.string nm, .slice hA hs.length hc', .slice sA ss.length sc, .int .i64 gr, .int .i64 fr, .int .i64 dm, .int .i64 ms] 76 := (by first | exact bZ.below hbn bZ.lt | exact bZ.drew.below hbn bZ.lt); have bI : Blk wn (w.heap.size + 1) #[.int .i64 a, .int .i64 b] 59 := (by first | exact bI.below hbn bI.lt | exact bI.drew.below hbn bI.lt); have q0 : World.cell? wn ⟨w.heap.size, 0, none⟩ = some (.string nm) := bZ.cell 0 rfl; have q1 : World.cell? wn ⟨w.heap.size, 1, none⟩ = some (.slice hA hs.length hc') := bZ.cell 1 rfl; have q2 : World.cell? wn ⟨w.heap.size, 2, none⟩ = some (.slice sA ss.length sc) := bZ.cell 2 rfl; have q3 : World.cell? wn ⟨w.heap.size, 3, none⟩ = some (.int .i64 gr) := bZ.cell 3 rfl; have q4 : World.cell? wn ⟨w.heap.size, 4, none⟩ = some (.int .i64 fr) := bZ.cell 4 rfl; have q5 : World.cell? wn ⟨w.heap.size, 5, none⟩ = some (.int .i64 dm) := bZ.cell 5 rfl; have q6 : World.cell? wn ⟨w.heap.size, 6, none⟩ = some (.int .i64 ms) := bZ.cell 6 rfl; have p0 : World.cell? wn ⟨w.heap.size + 1, 0, none⟩ = some (.int .i64 a) := bI.cell 0 rfl; have p1 : World.cell? wn ⟨w.heap.size + 1, 1, none⟩ = some (.int .i64 b) := bI.cell 1 rfl
    go_wp2
    all_goals (first | exact HR.out _ bW | (go_ret2; exact HR.out _ bW))
end Go.Proofs.YtcpfiiapfggmpaaGreat
