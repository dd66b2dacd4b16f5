/- The laws ZoneOpens, ZoneEnforces, walked. -/
import Derived.Test.YtppnkepjipglgaaZoneAwake
import Derived.Deep.RegionHeld3
import Derived.Deep.DrawnRows
import Derived.BigRegion
import Derived.IntWalk
namespace Go.Proofs.Ytppnkepjipglgaa
open Go.RowKit Go.Lib

set_option maxRecDepth 100000 in
set_option maxHeartbeats 8000000 in
theorem zoneOpens_walk (z : Zn) {t : Int} {w : World} (h : ZOk w z) :
    Calls Try.prog 5 #[ZV z, .int .i64 t] w fun e w' => e = .returned (.bool true) ∧ Below w.heap.size w w' := by
  have CG := fun W => great_any z W
  have hsm := @greatB_no z
  have CN := fun (hs : small z) (W : World) (hW : Below w.heap.size w W) => znext_any z (t := t) (h.st hW) (by have := hs.1; omega)
  have CM := fun (hs : small z) (W : World) (hW : Below w.heap.size w W) => rnext_any z (t := t) (h.st hW) (by have := hs.1; omega)
  have CO := fun (hs : small z) (W : World) (hW : Below w.heap.size w W) => zopen_any z (t := t) (h.st hW) (by have := hs.1; omega)
  have CP := fun (hs : small z) (W : World) (hW : Below w.heap.size w W) => rOpen_any z (t := t) (h.st hW) (by have := hs.1; omega)
  obtain ⟨nm, hA, hc, hs, sA, sc, ss, gr, fr, dm, ms⟩ := z
  simp only [ZV] at *
  clear h
  generalize openB hs t = r at *
  have bW : Below w.heap.size w (w.alloc (.cells #[.string nm, .slice hA hs.length hc, .slice sA ss.length sc, .int .i64 gr, .int .i64 fr, .int .i64 dm, .int .i64 ms] 25)) := (Below.refl _ w).al _
  have bZ := Blk.new w #[.string nm, .slice hA hs.length hc, .slice sA ss.length sc, .int .i64 gr, .int .i64 fr, .int .i64 dm, .int .i64 ms] 25
  cases hg : greatB (⟨nm, hA, hc, hs, sA, sc, ss, gr, fr, dm, ms⟩ : Zn)
  · rw [hg] at CG
    have HSM := hsm hg
    have CN := CN HSM
    have CM := CM HSM
    have CO := CO HSM
    have CP := CP HSM
    clear hsm
    go_enter Try.func5, Try.ntmps5
    go_wp2_with fail
    refine (CG _).mono ?_
    rintro e w2 ⟨rfl, hbn⟩
    have bW : Below w.heap.size w w2 := (by first | exact bW.st hbn | exact bW.drew.st hbn); have bZ : Blk w2 w.heap.size #[.string nm, .slice hA hs.length hc, .slice sA ss.length sc, .int .i64 gr, .int .i64 fr, .int .i64 dm, .int .i64 ms] 25 := (by first | exact bZ.below hbn bZ.lt | exact bZ.drew.below hbn bZ.lt); have q0 : World.cell? w2 ⟨w.heap.size, 0, none⟩ = some (.string nm) := bZ.cell 0 rfl; have q1 : World.cell? w2 ⟨w.heap.size, 1, none⟩ = some (.slice hA hs.length hc) := bZ.cell 1 rfl; have q2 : World.cell? w2 ⟨w.heap.size, 2, none⟩ = some (.slice sA ss.length sc) := bZ.cell 2 rfl; have q3 : World.cell? w2 ⟨w.heap.size, 3, none⟩ = some (.int .i64 gr) := bZ.cell 3 rfl; have q4 : World.cell? w2 ⟨w.heap.size, 4, none⟩ = some (.int .i64 fr) := bZ.cell 4 rfl; have q5 : World.cell? w2 ⟨w.heap.size, 5, none⟩ = some (.int .i64 dm) := bZ.cell 5 rfl; have q6 : World.cell? w2 ⟨w.heap.size, 6, none⟩ = some (.int .i64 ms) := bZ.cell 6 rfl
    go_wp2_with fail
    refine (CN _ bW).mono ?_
    rintro e w3 ⟨n, ok, rfl, hP, -, hbn⟩
    have bW : Below w.heap.size w w3 := (by first | exact bW.st hbn | exact bW.drew.st hbn); have bZ : Blk w3 w.heap.size #[.string nm, .slice hA hs.length hc, .slice sA ss.length sc, .int .i64 gr, .int .i64 fr, .int .i64 dm, .int .i64 ms] 25 := (by first | exact bZ.below hbn bZ.lt | exact bZ.drew.below hbn bZ.lt); have q0 : World.cell? w3 ⟨w.heap.size, 0, none⟩ = some (.string nm) := bZ.cell 0 rfl; have q1 : World.cell? w3 ⟨w.heap.size, 1, none⟩ = some (.slice hA hs.length hc) := bZ.cell 1 rfl; have q2 : World.cell? w3 ⟨w.heap.size, 2, none⟩ = some (.slice sA ss.length sc) := bZ.cell 2 rfl; have q3 : World.cell? w3 ⟨w.heap.size, 3, none⟩ = some (.int .i64 gr) := bZ.cell 3 rfl; have q4 : World.cell? w3 ⟨w.heap.size, 4, none⟩ = some (.int .i64 fr) := bZ.cell 4 rfl; have q5 : World.cell? w3 ⟨w.heap.size, 5, none⟩ = some (.int .i64 dm) := bZ.cell 5 rfl; have q6 : World.cell? w3 ⟨w.heap.size, 6, none⟩ = some (.int .i64 ms) := bZ.cell 6 rfl
    go_wp2_with fail
    refine (CM _ bW).mono ?_
    rintro e w4 ⟨n', ok', rfl, hP', -, hbn⟩
    have bW : Below w.heap.size w w4 := (by first | exact bW.st hbn | exact bW.drew.st hbn); have bZ : Blk w4 w.heap.size #[.string nm, .slice hA hs.length hc, .slice sA ss.length sc, .int .i64 gr, .int .i64 fr, .int .i64 dm, .int .i64 ms] 25 := (by first | exact bZ.below hbn bZ.lt | exact bZ.drew.below hbn bZ.lt); have q0 : World.cell? w4 ⟨w.heap.size, 0, none⟩ = some (.string nm) := bZ.cell 0 rfl; have q1 : World.cell? w4 ⟨w.heap.size, 1, none⟩ = some (.slice hA hs.length hc) := bZ.cell 1 rfl; have q2 : World.cell? w4 ⟨w.heap.size, 2, none⟩ = some (.slice sA ss.length sc) := bZ.cell 2 rfl; have q3 : World.cell? w4 ⟨w.heap.size, 3, none⟩ = some (.int .i64 gr) := bZ.cell 3 rfl; have q4 : World.cell? w4 ⟨w.heap.size, 4, none⟩ = some (.int .i64 fr) := bZ.cell 4 rfl; have q5 : World.cell? w4 ⟨w.heap.size, 5, none⟩ = some (.int .i64 dm) := bZ.cell 5 rfl; have q6 : World.cell? w4 ⟨w.heap.size, 6, none⟩ = some (.int .i64 ms) := bZ.cell 6 rfl
    obtain ⟨rfl, rfl⟩ := hP.unique hP'
    clear hP hP'
    go_wp2_with fail
    go_region_held3 (fun w' => w'.cell? ⟨w.heap.size, 0, none⟩ = some (.string nm) ∧ w'.cell? ⟨w.heap.size, 1, none⟩ = some (.slice hA hs.length hc) ∧ w'.cell? ⟨w.heap.size, 2, none⟩ = some (.slice sA ss.length sc) ∧ w'.cell? ⟨w.heap.size, 3, none⟩ = some (.int .i64 gr) ∧ w'.cell? ⟨w.heap.size, 4, none⟩ = some (.int .i64 fr) ∧ w'.cell? ⟨w.heap.size, 5, none⟩ = some (.int .i64 dm) ∧ w'.cell? ⟨w.heap.size, 6, none⟩ = some (.int .i64 ms)) (go_keep) (first | (go_at_call 21; (refine (CO _ (by first | exact bW | exact bW.drew)).mono ?_); rintro e wn ⟨rfl, hbn⟩; have bW : Below w.heap.size w wn := (by first | exact bW.st hbn | exact bW.drew.st hbn); have bZ : Blk wn w.heap.size #[.string nm, .slice hA hs.length hc, .slice sA ss.length sc, .int .i64 gr, .int .i64 fr, .int .i64 dm, .int .i64 ms] 25 := (by first | exact bZ.below hbn bZ.lt | exact bZ.drew.below hbn bZ.lt); have q0 : World.cell? wn ⟨w.heap.size, 0, none⟩ = some (.string nm) := bZ.cell 0 rfl; have q1 : World.cell? wn ⟨w.heap.size, 1, none⟩ = some (.slice hA hs.length hc) := bZ.cell 1 rfl; have q2 : World.cell? wn ⟨w.heap.size, 2, none⟩ = some (.slice sA ss.length sc) := bZ.cell 2 rfl; have q3 : World.cell? wn ⟨w.heap.size, 3, none⟩ = some (.int .i64 gr) := bZ.cell 3 rfl; have q4 : World.cell? wn ⟨w.heap.size, 4, none⟩ = some (.int .i64 fr) := bZ.cell 4 rfl; have q5 : World.cell? wn ⟨w.heap.size, 5, none⟩ = some (.int .i64 dm) := bZ.cell 5 rfl; have q6 : World.cell? wn ⟨w.heap.size, 6, none⟩ = some (.int .i64 ms) := bZ.cell 6 rfl) | (go_at_call 22; (refine (CP _ (by first | exact bW | exact bW.drew)).mono ?_); rintro e wn ⟨rfl, hbn⟩; have bW : Below w.heap.size w wn := (by first | exact bW.st hbn | exact bW.drew.st hbn); have bZ : Blk wn w.heap.size #[.string nm, .slice hA hs.length hc, .slice sA ss.length sc, .int .i64 gr, .int .i64 fr, .int .i64 dm, .int .i64 ms] 25 := (by first | exact bZ.below hbn bZ.lt | exact bZ.drew.below hbn bZ.lt); have q0 : World.cell? wn ⟨w.heap.size, 0, none⟩ = some (.string nm) := bZ.cell 0 rfl; have q1 : World.cell? wn ⟨w.heap.size, 1, none⟩ = some (.slice hA hs.length hc) := bZ.cell 1 rfl; have q2 : World.cell? wn ⟨w.heap.size, 2, none⟩ = some (.slice sA ss.length sc) := bZ.cell 2 rfl; have q3 : World.cell? wn ⟨w.heap.size, 3, none⟩ = some (.int .i64 gr) := bZ.cell 3 rfl; have q4 : World.cell? wn ⟨w.heap.size, 4, none⟩ = some (.int .i64 fr) := bZ.cell 4 rfl; have q5 : World.cell? wn ⟨w.heap.size, 5, none⟩ = some (.int .i64 dm) := bZ.cell 5 rfl; have q6 : World.cell? wn ⟨w.heap.size, 6, none⟩ = some (.int .i64 ms) := bZ.cell 6 rfl) | (go_at_call 11; (refine (awake_any _).mono ?_); rintro e wn ⟨rfl, hbn⟩; have bW : Below w.heap.size w wn := (by first | exact bW.st hbn | exact bW.drew.st hbn); have bZ : Blk wn w.heap.size #[.string nm, .slice hA hs.length hc, .slice sA ss.length sc, .int .i64 gr, .int .i64 fr, .int .i64 dm, .int .i64 ms] 25 := (by first | exact bZ.below hbn bZ.lt | exact bZ.drew.below hbn bZ.lt); have q0 : World.cell? wn ⟨w.heap.size, 0, none⟩ = some (.string nm) := bZ.cell 0 rfl; have q1 : World.cell? wn ⟨w.heap.size, 1, none⟩ = some (.slice hA hs.length hc) := bZ.cell 1 rfl; have q2 : World.cell? wn ⟨w.heap.size, 2, none⟩ = some (.slice sA ss.length sc) := bZ.cell 2 rfl; have q3 : World.cell? wn ⟨w.heap.size, 3, none⟩ = some (.int .i64 gr) := bZ.cell 3 rfl; have q4 : World.cell? wn ⟨w.heap.size, 4, none⟩ = some (.int .i64 fr) := bZ.cell 4 rfl; have q5 : World.cell? wn ⟨w.heap.size, 5, none⟩ = some (.int .i64 dm) := bZ.cell 5 rfl; have q6 : World.cell? wn ⟨w.heap.size, 6, none⟩ = some (.int .i64 ms) := bZ.cell 6 rfl))
    all_goals
      go_wp2
      go_ret
      first | exact ⟨rfl, bW⟩ | exact ⟨rfl, bW.drew⟩
  · rw [hg] at CG
    go_enter Try.func5, Try.ntmps5
    go_wp2_with fail
    refine (CG _).mono ?_
    rintro e w2 ⟨rfl, hbn⟩
    have bW : Below w.heap.size w w2 := (by first | exact bW.st hbn | exact bW.drew.st hbn); have bZ : Blk w2 w.heap.size #[.string nm, .slice hA hs.length hc, .slice sA ss.length sc, .int .i64 gr, .int .i64 fr, .int .i64 dm, .int .i64 ms] 25 := (by first | exact bZ.below hbn bZ.lt | exact bZ.drew.below hbn bZ.lt); have q0 : World.cell? w2 ⟨w.heap.size, 0, none⟩ = some (.string nm) := bZ.cell 0 rfl; have q1 : World.cell? w2 ⟨w.heap.size, 1, none⟩ = some (.slice hA hs.length hc) := bZ.cell 1 rfl; have q2 : World.cell? w2 ⟨w.heap.size, 2, none⟩ = some (.slice sA ss.length sc) := bZ.cell 2 rfl; have q3 : World.cell? w2 ⟨w.heap.size, 3, none⟩ = some (.int .i64 gr) := bZ.cell 3 rfl; have q4 : World.cell? w2 ⟨w.heap.size, 4, none⟩ = some (.int .i64 fr) := bZ.cell 4 rfl; have q5 : World.cell? w2 ⟨w.heap.size, 5, none⟩ = some (.int .i64 dm) := bZ.cell 5 rfl; have q6 : World.cell? w2 ⟨w.heap.size, 6, none⟩ = some (.int .i64 ms) := bZ.cell 6 rfl
    go_wp2_with fail
    refine (awake_any w2).mono ?_
    rintro e w3 ⟨rfl, hbn⟩
    go_wp2_with fail
    go_ret
    exact ⟨rfl, bW.st hbn⟩

theorem EnfR.same {hs : List Wn} {f u : Int} {n1 n2 : List Iv} (h1 : daysE f u = 0 → NF n1 ∧ ∀ t, Mem n1 t ↔ Sh hs (f, u) t) (k1 : daysE f u ≠ 0 → n1 = []) (h2 : daysE f u = 0 → NF n2 ∧ ∀ t, Mem n2 t ↔ Sh hs (f, u) t) (k2 : daysE f u ≠ 0 → n2 = []) : n1 = n2 := by
  by_cases h : daysE f u = 0
  · exact (h1 h).1.unique (h2 h).1 fun t => ((h1 h).2 t).trans ((h2 h).2 t).symm
  · rw [k1 h, k2 h]
theorem EnfR.len {hs : List Wn} {f u : Int} {n : List Iv} (h1 : daysE f u = 0 → NF n ∧ ∀ t, Mem n t ↔ Sh hs (f, u) t) (k1 : daysE f u ≠ 0 → n = []) : n.length ≤ 68719476736 := by
  by_cases h : daysE f u = 0
  · exact (h1 h).1.length_max
  · rw [k1 h]; simp

set_option maxRecDepth 100000 in
set_option maxHeartbeats 8000000 in
theorem zoneEnforces_walk (z : Zn) (f u : Int) {w : World} (h : ZOk w z) :
    Calls Try.prog 6 #[ZV z, .agg #[.int .i64 f, .int .i64 u]] w fun e w' => e = .returned (.bool true) ∧ Below w.heap.size w w' := by
  have CG := fun W => great_any z W
  have hsm := @greatB_no z
  have CE := fun (hs : small z) (W : World) (hW : Below w.heap.size w W) => zenf_any z f u (h.st hW) (by have := hs.1; omega)
  have CF := fun (hs : small z) (W : World) (hW : Below w.heap.size w W) => renf_any z f u (h.st hW) (by have := hs.1; omega)
  obtain ⟨nm, hA, hc, hs, sA, sc, ss, gr, fr, dm, ms⟩ := z
  simp only [ZV] at *
  clear h
  have bW : Below w.heap.size w ((w.alloc (.cells #[.string nm, .slice hA hs.length hc, .slice sA ss.length sc, .int .i64 gr, .int .i64 fr, .int .i64 dm, .int .i64 ms] 25)).alloc (.cells #[.int .i64 f, .int .i64 u] 42)) := ((Below.refl _ w).al _).al _
  have bZ := (Blk.new w #[.string nm, .slice hA hs.length hc, .slice sA ss.length sc, .int .i64 gr, .int .i64 fr, .int .i64 dm, .int .i64 ms] 25).alloc (.cells #[.int .i64 f, .int .i64 u] 42)
  have bI := Blk.new (w.alloc (.cells #[.string nm, .slice hA hs.length hc, .slice sA ss.length sc, .int .i64 gr, .int .i64 fr, .int .i64 dm, .int .i64 ms] 25)) #[.int .i64 f, .int .i64 u] 42
  rw [World.size_alloc] at bI
  cases hg : greatB (⟨nm, hA, hc, hs, sA, sc, ss, gr, fr, dm, ms⟩ : Zn)
  · rw [hg] at CG
    have HSM := hsm hg
    have CE := CE HSM
    have CF := CF HSM
    clear hsm
    -- the part behind the test, for every way to it
    by_cases hlong : validB f u = true ∧ 1728000 < u - f ∧ u - f ≤ 31708800
    · obtain ⟨hv, hl1, hl2⟩ := hlong
      have HV := Lib.hid hv
      have hq := (validB_iff f u).1 hv
      unfold vld at hq
      obtain ⟨v1, v2, v3⟩ := hq
      simp only at v1 v2 v3
      clear hv CE CF
      go_enter Try.func6, Try.ntmps6
      go_wp2_with fail
      refine (CG _).mono ?_
      rintro e w2 ⟨rfl, hbn⟩
      have bI := bI.below hbn bI.lt
      have i0 : w2.cell? ⟨w.heap.size + 1, 0, none⟩ = some (.int .i64 f) := bI.cell 0 rfl
      have i1 : w2.cell? ⟨w.heap.size + 1, 1, none⟩ = some (.int .i64 u) := bI.cell 1 rfl
      have bW : Below w.heap.size w w2 := (by first | exact bW.st hbn | exact bW.drew.st hbn); have bZ : Blk w2 w.heap.size #[.string nm, .slice hA hs.length hc, .slice sA ss.length sc, .int .i64 gr, .int .i64 fr, .int .i64 dm, .int .i64 ms] 25 := (by first | exact bZ.below hbn bZ.lt | exact bZ.drew.below hbn bZ.lt); have q0 : World.cell? w2 ⟨w.heap.size, 0, none⟩ = some (.string nm) := bZ.cell 0 rfl; have q1 : World.cell? w2 ⟨w.heap.size, 1, none⟩ = some (.slice hA hs.length hc) := bZ.cell 1 rfl; have q2 : World.cell? w2 ⟨w.heap.size, 2, none⟩ = some (.slice sA ss.length sc) := bZ.cell 2 rfl; have q3 : World.cell? w2 ⟨w.heap.size, 3, none⟩ = some (.int .i64 gr) := bZ.cell 3 rfl; have q4 : World.cell? w2 ⟨w.heap.size, 4, none⟩ = some (.int .i64 fr) := bZ.cell 4 rfl; have q5 : World.cell? w2 ⟨w.heap.size, 5, none⟩ = some (.int .i64 dm) := bZ.cell 5 rfl; have q6 : World.cell? w2 ⟨w.heap.size, 6, none⟩ = some (.int .i64 ms) := bZ.cell 6 rfl
      have ltI := bI.lt
      go_wp2_with (first | (go_at_call 23; (refine (rIsSpan_any _ _ _).mono ?_); rw [HV.out]; rintro e w3 ⟨rfl, rfl⟩) | (go_at_call 11; (refine (awake_any _).mono ?_); rintro e w4 ⟨rfl, hb4⟩))
      all_goals (go_ret; exact ⟨rfl, (bW.al _).st (by assumption)⟩)
    · have hways : validB f u = false ∨ (validB f u = true ∧ (0 ≤ f ∧ f < u ∧ u ≤ 68719476736) ∧ u - f ≤ 1728000) ∨ (validB f u = true ∧ (0 ≤ f ∧ f < u ∧ u ≤ 68719476736) ∧ 1728000 < u - f ∧ 31708800 < u - f) := by
        cases hv : validB f u
        · exact .inl rfl
        · have hq := (validB_iff f u).1 hv
          unfold vld at hq
          simp only at hq
          by_cases h1 : 1728000 < u - f
          · exact .inr (.inr ⟨rfl, hq, h1, by
              have : ¬ u - f ≤ 31708800 := fun h2 => hlong ⟨hv, h1, h2⟩
              omega⟩)
          · exact .inr (.inl ⟨rfl, hq, by omega⟩)
      clear hlong
      go_enter Try.func6, Try.ntmps6
      go_wp2_with fail
      refine (CG _).mono ?_
      rintro e w2 ⟨rfl, hbn⟩
      have bI := bI.below hbn bI.lt
      have i0 : w2.cell? ⟨w.heap.size + 1, 0, none⟩ = some (.int .i64 f) := bI.cell 0 rfl
      have i1 : w2.cell? ⟨w.heap.size + 1, 1, none⟩ = some (.int .i64 u) := bI.cell 1 rfl
      have bW : Below w.heap.size w w2 := (by first | exact bW.st hbn | exact bW.drew.st hbn); have bZ : Blk w2 w.heap.size #[.string nm, .slice hA hs.length hc, .slice sA ss.length sc, .int .i64 gr, .int .i64 fr, .int .i64 dm, .int .i64 ms] 25 := (by first | exact bZ.below hbn bZ.lt | exact bZ.drew.below hbn bZ.lt); have q0 : World.cell? w2 ⟨w.heap.size, 0, none⟩ = some (.string nm) := bZ.cell 0 rfl; have q1 : World.cell? w2 ⟨w.heap.size, 1, none⟩ = some (.slice hA hs.length hc) := bZ.cell 1 rfl; have q2 : World.cell? w2 ⟨w.heap.size, 2, none⟩ = some (.slice sA ss.length sc) := bZ.cell 2 rfl; have q3 : World.cell? w2 ⟨w.heap.size, 3, none⟩ = some (.int .i64 gr) := bZ.cell 3 rfl; have q4 : World.cell? w2 ⟨w.heap.size, 4, none⟩ = some (.int .i64 fr) := bZ.cell 4 rfl; have q5 : World.cell? w2 ⟨w.heap.size, 5, none⟩ = some (.int .i64 dm) := bZ.cell 5 rfl; have q6 : World.cell? w2 ⟨w.heap.size, 6, none⟩ = some (.int .i64 ms) := bZ.cell 6 rfl
      have bZ := bZ.alloc (.cells #[.int .i64 f, .int .i64 u] 42)
      have bI := bI.alloc (.cells #[.int .i64 f, .int .i64 u] 42)
      have ltZ : w.heap.size < w2.heap.size := Nat.lt_of_lt_of_le (by simp; omega) hbn.size
      have ltI : w.heap.size + 1 < w2.heap.size := Nat.lt_of_lt_of_le (by simp) hbn.size
      have bW := bW.al (.cells #[.int .i64 f, .int .i64 u] 42)
      rcases hways with hv | ⟨hv, ⟨v1, v2, v3⟩, v4⟩ | ⟨hv, ⟨v1, v2, v3⟩, v4, v5⟩
      all_goals
        have HV := Lib.hid hv
        clear hv
        go_wp2_with (go_at_call 23; (refine (rIsSpan_any _ _ _).mono ?_); rw [HV.out]; rintro e w3 ⟨rfl, rfl⟩)
        refine (CE _ bW).mono ?_
        rintro e w4 ⟨A4, c4, n4, rfl, h4, k4, r4, hbn⟩
        have bI := bI.below hbn bI.lt
        have i0 : w4.cell? ⟨w.heap.size + 1, 0, none⟩ = some (.int .i64 f) := bI.cell 0 rfl
        have i1 : w4.cell? ⟨w.heap.size + 1, 1, none⟩ = some (.int .i64 u) := bI.cell 1 rfl
        have bW : Below w.heap.size w w4 := (by first | exact bW.st hbn | exact bW.drew.st hbn); have bZ : Blk w4 w.heap.size #[.string nm, .slice hA hs.length hc, .slice sA ss.length sc, .int .i64 gr, .int .i64 fr, .int .i64 dm, .int .i64 ms] 25 := (by first | exact bZ.below hbn bZ.lt | exact bZ.drew.below hbn bZ.lt); have q0 : World.cell? w4 ⟨w.heap.size, 0, none⟩ = some (.string nm) := bZ.cell 0 rfl; have q1 : World.cell? w4 ⟨w.heap.size, 1, none⟩ = some (.slice hA hs.length hc) := bZ.cell 1 rfl; have q2 : World.cell? w4 ⟨w.heap.size, 2, none⟩ = some (.slice sA ss.length sc) := bZ.cell 2 rfl; have q3 : World.cell? w4 ⟨w.heap.size, 3, none⟩ = some (.int .i64 gr) := bZ.cell 3 rfl; have q4 : World.cell? w4 ⟨w.heap.size, 4, none⟩ = some (.int .i64 fr) := bZ.cell 4 rfl; have q5 : World.cell? w4 ⟨w.heap.size, 5, none⟩ = some (.int .i64 dm) := bZ.cell 5 rfl; have q6 : World.cell? w4 ⟨w.heap.size, 6, none⟩ = some (.int .i64 ms) := bZ.cell 6 rfl
        have H4 := Lib.hid h4
        have K4 := Lib.hid k4
        clear h4 k4
        go_wp2_with fail
        refine (CF _ bW).mono ?_
        rintro e w5 ⟨A5, c5, n5, rfl, h5, k5, r5, hbn⟩
        have r4 := r4.st hbn
        obtain rfl : n4 = n5 := EnfR.same H4.out K4.out h5 k5
        have hn := EnfR.len h5 k5
        have bW := bW.st hbn
        clear h5 k5 H4 K4
        go_wp2_with fail
        refine (sameSpans_true c4 c5 r4 r5 (by omega)).mono ?_
        rintro e w6 ⟨rfl, hbn⟩
        have bW := bW.st hbn
        go_wp2_with (go_at_call 11; (refine (awake_any _).mono ?_); rintro e w7 ⟨rfl, hb7⟩)
        all_goals (go_ret; exact ⟨rfl, bW.st (by assumption)⟩)
  · rw [hg] at CG
    go_enter Try.func6, Try.ntmps6
    go_wp2_with fail
    refine (CG _).mono ?_
    rintro e w2 ⟨rfl, hbn⟩
    have bW : Below w.heap.size w w2 := (by first | exact bW.st hbn | exact bW.drew.st hbn); have bZ : Blk w2 w.heap.size #[.string nm, .slice hA hs.length hc, .slice sA ss.length sc, .int .i64 gr, .int .i64 fr, .int .i64 dm, .int .i64 ms] 25 := (by first | exact bZ.below hbn bZ.lt | exact bZ.drew.below hbn bZ.lt); have q0 : World.cell? w2 ⟨w.heap.size, 0, none⟩ = some (.string nm) := bZ.cell 0 rfl; have q1 : World.cell? w2 ⟨w.heap.size, 1, none⟩ = some (.slice hA hs.length hc) := bZ.cell 1 rfl; have q2 : World.cell? w2 ⟨w.heap.size, 2, none⟩ = some (.slice sA ss.length sc) := bZ.cell 2 rfl; have q3 : World.cell? w2 ⟨w.heap.size, 3, none⟩ = some (.int .i64 gr) := bZ.cell 3 rfl; have q4 : World.cell? w2 ⟨w.heap.size, 4, none⟩ = some (.int .i64 fr) := bZ.cell 4 rfl; have q5 : World.cell? w2 ⟨w.heap.size, 5, none⟩ = some (.int .i64 dm) := bZ.cell 5 rfl; have q6 : World.cell? w2 ⟨w.heap.size, 6, none⟩ = some (.int .i64 ms) := bZ.cell 6 rfl
    go_wp2_with fail
    refine (awake_any w2).mono ?_
    rintro e w3 ⟨rfl, hbn⟩
    go_wp2_with fail
    go_ret
    exact ⟨rfl, bW.st hbn⟩
end Go.Proofs.Ytppnkepjipglgaa
