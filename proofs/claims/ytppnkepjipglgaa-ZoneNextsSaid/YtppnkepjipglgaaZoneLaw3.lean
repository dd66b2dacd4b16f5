/- The law ZoneNexts, walked. -/
import Derived.Test.YtppnkepjipglgaaZoneAwake
namespace Go.Proofs.Ytppnkepjipglgaa
open Go.RowKit Go.Lib

theorem checkE_all {z : Zn} (h : checkE z = 0) : ∀ x ∈ z.hs, vw x = true := by
  have : z.hs.all vw = true := by
    cases hv : z.hs.all vw
    · unfold checkE at h
      split at h
      · cases h
      · split at h
        · cases h
        · first | omega | (rw [if_pos hv] at h; omega)
    · rfl
  exact List.all_eq_true.1 this

set_option maxRecDepth 100000 in
set_option maxHeartbeats 8000000 in
theorem zoneNexts_walk (z : Zn) {t x : Int} {w : World} (h : ZOk w z) :
    Calls Try.prog 9 #[ZV z, .int .i64 t, .int .i64 x] w fun e w' => e = .returned (.bool true) ∧ Below w.heap.size w w' := by
  have CG := fun W => great_any z W
  have hsm := @greatB_no z
  have CN := fun (hs : small z) (W : World) (hW : Below w.heap.size w W) => znext_any z (t := t) (h.st hW) (by have := hs.1; omega)
  have CO := fun (hs : small z) (y : Int) (W : World) (hW : Below w.heap.size w W) => zopen_any z (t := y) (h.st hW) (by have := hs.1; omega)
  have CZ := fun (W : World) (hW : Below w.heap.size w W) => zcheck_any z (h.st hW)
  have hall := @checkE_all z
  obtain ⟨nm, hA, hc, hs, sA, sc, ss, gr, fr, dm, ms⟩ := z
  simp only [ZV] at *
  clear h
  generalize checkE _ = cE at *
  have bW : Below w.heap.size w (w.alloc (.cells #[.string nm, .slice hA hs.length hc, .slice sA ss.length sc, .int .i64 gr, .int .i64 fr, .int .i64 dm, .int .i64 ms] 25)) := (Below.refl _ w).al _
  have bZ := Blk.new w #[.string nm, .slice hA hs.length hc, .slice sA ss.length sc, .int .i64 gr, .int .i64 fr, .int .i64 dm, .int .i64 ms] 25
  cases hg : greatB (⟨nm, hA, hc, hs, sA, sc, ss, gr, fr, dm, ms⟩ : Zn)
  · rw [hg] at CG
    have HSM := hsm hg
    have CN := CN HSM
    have CO := CO HSM
    clear hsm
    by_cases ht : 0 ≤ t ∧ t < 68719476736
    · obtain ⟨t0, t1⟩ := ht
      go_enter Try.func9, Try.ntmps9
      go_wp2_with fail
      refine (CG _).mono ?_
      rintro e w2 ⟨rfl, hbn⟩
      have bW : Below w.heap.size w w2 := (by first | exact bW.st hbn | exact bW.drew.st hbn); have bZ : Blk w2 w.heap.size #[.string nm, .slice hA hs.length hc, .slice sA ss.length sc, .int .i64 gr, .int .i64 fr, .int .i64 dm, .int .i64 ms] 25 := (by first | exact bZ.below hbn bZ.lt | exact bZ.drew.below hbn bZ.lt); have q0 : World.cell? w2 ⟨w.heap.size, 0, none⟩ = some (.string nm) := bZ.cell 0 rfl; have q1 : World.cell? w2 ⟨w.heap.size, 1, none⟩ = some (.slice hA hs.length hc) := bZ.cell 1 rfl; have q2 : World.cell? w2 ⟨w.heap.size, 2, none⟩ = some (.slice sA ss.length sc) := bZ.cell 2 rfl; have q3 : World.cell? w2 ⟨w.heap.size, 3, none⟩ = some (.int .i64 gr) := bZ.cell 3 rfl; have q4 : World.cell? w2 ⟨w.heap.size, 4, none⟩ = some (.int .i64 fr) := bZ.cell 4 rfl; have q5 : World.cell? w2 ⟨w.heap.size, 5, none⟩ = some (.int .i64 dm) := bZ.cell 5 rfl; have q6 : World.cell? w2 ⟨w.heap.size, 6, none⟩ = some (.int .i64 ms) := bZ.cell 6 rfl
      go_wp2_with fail
      refine (CN _ bW).mono ?_
      rintro e w3 ⟨n, ok, rfl, hP, hnr, hbn⟩
      have bW : Below w.heap.size w w3 := (by first | exact bW.st hbn | exact bW.drew.st hbn); have bZ : Blk w3 w.heap.size #[.string nm, .slice hA hs.length hc, .slice sA ss.length sc, .int .i64 gr, .int .i64 fr, .int .i64 dm, .int .i64 ms] 25 := (by first | exact bZ.below hbn bZ.lt | exact bZ.drew.below hbn bZ.lt); have q0 : World.cell? w3 ⟨w.heap.size, 0, none⟩ = some (.string nm) := bZ.cell 0 rfl; have q1 : World.cell? w3 ⟨w.heap.size, 1, none⟩ = some (.slice hA hs.length hc) := bZ.cell 1 rfl; have q2 : World.cell? w3 ⟨w.heap.size, 2, none⟩ = some (.slice sA ss.length sc) := bZ.cell 2 rfl; have q3 : World.cell? w3 ⟨w.heap.size, 3, none⟩ = some (.int .i64 gr) := bZ.cell 3 rfl; have q4 : World.cell? w3 ⟨w.heap.size, 4, none⟩ = some (.int .i64 fr) := bZ.cell 4 rfl; have q5 : World.cell? w3 ⟨w.heap.size, 5, none⟩ = some (.int .i64 dm) := bZ.cell 5 rfl; have q6 : World.cell? w3 ⟨w.heap.size, 6, none⟩ = some (.int .i64 ms) := bZ.cell 6 rfl
      have hP2 := hP.2 ⟨t0, t1⟩
      cases ok
      · obtain ⟨rfl, hno⟩ := hP2.2 rfl
        have hcn : cE = 0 → 68718785536 ≤ t := fun q => by
          rcases (by omega : 68718785536 ≤ t ∨ t < 68719476736 - 8 * 86400) with k | k
          · exact k
          · exact absurd hP (NextP.some t0 k (hall q))
        clear hP hP2
        by_cases hx : t ≤ x
        · have HX := Lib.hid (not_open (hno x hx))
          have HNO := Lib.hid hno
          clear hno
          by_cases hq : cE = 0
          · have hq2 := hcn hq
            subst hq
            clear hcn
            go_wp2_with (first | (go_at_call 21; (refine (CO x _ bW).mono ?_); rw [HX.out]; rintro e wn ⟨rfl, hbn⟩; have bW : Below w.heap.size w wn := (by first | exact bW.st hbn | exact bW.drew.st hbn); have bZ : Blk wn w.heap.size #[.string nm, .slice hA hs.length hc, .slice sA ss.length sc, .int .i64 gr, .int .i64 fr, .int .i64 dm, .int .i64 ms] 25 := (by first | exact bZ.below hbn bZ.lt | exact bZ.drew.below hbn bZ.lt); have q0 : World.cell? wn ⟨w.heap.size, 0, none⟩ = some (.string nm) := bZ.cell 0 rfl; have q1 : World.cell? wn ⟨w.heap.size, 1, none⟩ = some (.slice hA hs.length hc) := bZ.cell 1 rfl; have q2 : World.cell? wn ⟨w.heap.size, 2, none⟩ = some (.slice sA ss.length sc) := bZ.cell 2 rfl; have q3 : World.cell? wn ⟨w.heap.size, 3, none⟩ = some (.int .i64 gr) := bZ.cell 3 rfl; have q4 : World.cell? wn ⟨w.heap.size, 4, none⟩ = some (.int .i64 fr) := bZ.cell 4 rfl; have q5 : World.cell? wn ⟨w.heap.size, 5, none⟩ = some (.int .i64 dm) := bZ.cell 5 rfl; have q6 : World.cell? wn ⟨w.heap.size, 6, none⟩ = some (.int .i64 ms) := bZ.cell 6 rfl) | (go_at_call 12; (refine (CZ _ bW).mono ?_); rintro e wn ⟨rfl, hbn⟩; have bW : Below w.heap.size w wn := (by first | exact bW.st hbn | exact bW.drew.st hbn); have bZ : Blk wn w.heap.size #[.string nm, .slice hA hs.length hc, .slice sA ss.length sc, .int .i64 gr, .int .i64 fr, .int .i64 dm, .int .i64 ms] 25 := (by first | exact bZ.below hbn bZ.lt | exact bZ.drew.below hbn bZ.lt); have q0 : World.cell? wn ⟨w.heap.size, 0, none⟩ = some (.string nm) := bZ.cell 0 rfl; have q1 : World.cell? wn ⟨w.heap.size, 1, none⟩ = some (.slice hA hs.length hc) := bZ.cell 1 rfl; have q2 : World.cell? wn ⟨w.heap.size, 2, none⟩ = some (.slice sA ss.length sc) := bZ.cell 2 rfl; have q3 : World.cell? wn ⟨w.heap.size, 3, none⟩ = some (.int .i64 gr) := bZ.cell 3 rfl; have q4 : World.cell? wn ⟨w.heap.size, 4, none⟩ = some (.int .i64 fr) := bZ.cell 4 rfl; have q5 : World.cell? wn ⟨w.heap.size, 5, none⟩ = some (.int .i64 dm) := bZ.cell 5 rfl; have q6 : World.cell? wn ⟨w.heap.size, 6, none⟩ = some (.int .i64 ms) := bZ.cell 6 rfl) | (go_at_call 11; (refine (awake_any _).mono ?_); rintro e wn ⟨rfl, hbn⟩; have bW := bW.st hbn))
            all_goals (go_ret; first | exact ⟨rfl, bW⟩ | exact ⟨ret_bool (by simp; omega), bW⟩)
          · have hq2 : (cE == 0) = false := by simp [hq]
            clear hcn hq
            go_wp2_with (first | (go_at_call 21; (refine (CO x _ bW).mono ?_); rw [HX.out]; rintro e wn ⟨rfl, hbn⟩; have bW : Below w.heap.size w wn := (by first | exact bW.st hbn | exact bW.drew.st hbn); have bZ : Blk wn w.heap.size #[.string nm, .slice hA hs.length hc, .slice sA ss.length sc, .int .i64 gr, .int .i64 fr, .int .i64 dm, .int .i64 ms] 25 := (by first | exact bZ.below hbn bZ.lt | exact bZ.drew.below hbn bZ.lt); have q0 : World.cell? wn ⟨w.heap.size, 0, none⟩ = some (.string nm) := bZ.cell 0 rfl; have q1 : World.cell? wn ⟨w.heap.size, 1, none⟩ = some (.slice hA hs.length hc) := bZ.cell 1 rfl; have q2 : World.cell? wn ⟨w.heap.size, 2, none⟩ = some (.slice sA ss.length sc) := bZ.cell 2 rfl; have q3 : World.cell? wn ⟨w.heap.size, 3, none⟩ = some (.int .i64 gr) := bZ.cell 3 rfl; have q4 : World.cell? wn ⟨w.heap.size, 4, none⟩ = some (.int .i64 fr) := bZ.cell 4 rfl; have q5 : World.cell? wn ⟨w.heap.size, 5, none⟩ = some (.int .i64 dm) := bZ.cell 5 rfl; have q6 : World.cell? wn ⟨w.heap.size, 6, none⟩ = some (.int .i64 ms) := bZ.cell 6 rfl) | (go_at_call 12; (refine (CZ _ bW).mono ?_); rintro e wn ⟨rfl, hbn⟩; have bW : Below w.heap.size w wn := (by first | exact bW.st hbn | exact bW.drew.st hbn); have bZ : Blk wn w.heap.size #[.string nm, .slice hA hs.length hc, .slice sA ss.length sc, .int .i64 gr, .int .i64 fr, .int .i64 dm, .int .i64 ms] 25 := (by first | exact bZ.below hbn bZ.lt | exact bZ.drew.below hbn bZ.lt); have q0 : World.cell? wn ⟨w.heap.size, 0, none⟩ = some (.string nm) := bZ.cell 0 rfl; have q1 : World.cell? wn ⟨w.heap.size, 1, none⟩ = some (.slice hA hs.length hc) := bZ.cell 1 rfl; have q2 : World.cell? wn ⟨w.heap.size, 2, none⟩ = some (.slice sA ss.length sc) := bZ.cell 2 rfl; have q3 : World.cell? wn ⟨w.heap.size, 3, none⟩ = some (.int .i64 gr) := bZ.cell 3 rfl; have q4 : World.cell? wn ⟨w.heap.size, 4, none⟩ = some (.int .i64 fr) := bZ.cell 4 rfl; have q5 : World.cell? wn ⟨w.heap.size, 5, none⟩ = some (.int .i64 dm) := bZ.cell 5 rfl; have q6 : World.cell? wn ⟨w.heap.size, 6, none⟩ = some (.int .i64 ms) := bZ.cell 6 rfl) | (go_at_call 11; (refine (awake_any _).mono ?_); rintro e wn ⟨rfl, hbn⟩; have bW := bW.st hbn))
            all_goals (go_ret; first | exact ⟨rfl, bW⟩ | exact ⟨ret_bool (by simp; omega), bW⟩)
        · have HNO := Lib.hid hno
          clear hno
          by_cases hq : cE = 0
          · have hq2 := hcn hq
            subst hq
            clear hcn
            go_wp2_with (first | (go_at_call 12; (refine (CZ _ bW).mono ?_); rintro e wn ⟨rfl, hbn⟩; have bW : Below w.heap.size w wn := (by first | exact bW.st hbn | exact bW.drew.st hbn); have bZ : Blk wn w.heap.size #[.string nm, .slice hA hs.length hc, .slice sA ss.length sc, .int .i64 gr, .int .i64 fr, .int .i64 dm, .int .i64 ms] 25 := (by first | exact bZ.below hbn bZ.lt | exact bZ.drew.below hbn bZ.lt); have q0 : World.cell? wn ⟨w.heap.size, 0, none⟩ = some (.string nm) := bZ.cell 0 rfl; have q1 : World.cell? wn ⟨w.heap.size, 1, none⟩ = some (.slice hA hs.length hc) := bZ.cell 1 rfl; have q2 : World.cell? wn ⟨w.heap.size, 2, none⟩ = some (.slice sA ss.length sc) := bZ.cell 2 rfl; have q3 : World.cell? wn ⟨w.heap.size, 3, none⟩ = some (.int .i64 gr) := bZ.cell 3 rfl; have q4 : World.cell? wn ⟨w.heap.size, 4, none⟩ = some (.int .i64 fr) := bZ.cell 4 rfl; have q5 : World.cell? wn ⟨w.heap.size, 5, none⟩ = some (.int .i64 dm) := bZ.cell 5 rfl; have q6 : World.cell? wn ⟨w.heap.size, 6, none⟩ = some (.int .i64 ms) := bZ.cell 6 rfl) | (go_at_call 11; (refine (awake_any _).mono ?_); rintro e wn ⟨rfl, hbn⟩; have bW := bW.st hbn))
            all_goals (go_ret; first | exact ⟨rfl, bW⟩ | exact ⟨ret_bool (by simp; omega), bW⟩)
          · have hq2 : (cE == 0) = false := by simp [hq]
            clear hcn hq
            go_wp2_with (first | (go_at_call 12; (refine (CZ _ bW).mono ?_); rintro e wn ⟨rfl, hbn⟩; have bW : Below w.heap.size w wn := (by first | exact bW.st hbn | exact bW.drew.st hbn); have bZ : Blk wn w.heap.size #[.string nm, .slice hA hs.length hc, .slice sA ss.length sc, .int .i64 gr, .int .i64 fr, .int .i64 dm, .int .i64 ms] 25 := (by first | exact bZ.below hbn bZ.lt | exact bZ.drew.below hbn bZ.lt); have q0 : World.cell? wn ⟨w.heap.size, 0, none⟩ = some (.string nm) := bZ.cell 0 rfl; have q1 : World.cell? wn ⟨w.heap.size, 1, none⟩ = some (.slice hA hs.length hc) := bZ.cell 1 rfl; have q2 : World.cell? wn ⟨w.heap.size, 2, none⟩ = some (.slice sA ss.length sc) := bZ.cell 2 rfl; have q3 : World.cell? wn ⟨w.heap.size, 3, none⟩ = some (.int .i64 gr) := bZ.cell 3 rfl; have q4 : World.cell? wn ⟨w.heap.size, 4, none⟩ = some (.int .i64 fr) := bZ.cell 4 rfl; have q5 : World.cell? wn ⟨w.heap.size, 5, none⟩ = some (.int .i64 dm) := bZ.cell 5 rfl; have q6 : World.cell? wn ⟨w.heap.size, 6, none⟩ = some (.int .i64 ms) := bZ.cell 6 rfl) | (go_at_call 11; (refine (awake_any _).mono ?_); rintro e wn ⟨rfl, hbn⟩; have bW := bW.st hbn))
            all_goals (go_ret; first | exact ⟨rfl, bW⟩ | exact ⟨ret_bool (by simp; omega), bW⟩)
      · obtain ⟨hop, htn, hno⟩ := hP2.1 rfl
        have hweek := hP.week ⟨t0, t1⟩
        have HN := Lib.hid ((openB_iff hs n).2 hop)
        have HNO := Lib.hid hno
        have n1 := hop.1.1
        have n2 := hop.1.2
        clear hP hP2 hop hno hnr
        by_cases hx : t ≤ x ∧ x < n
        · obtain ⟨hx1, hx2⟩ := hx
          have HX := Lib.hid (not_open (HNO.out x hx1 hx2))
          go_wp2_with (first | (go_at_call 21; (first | (with_reducible refine (CO n _ bW).mono ?_) | (with_reducible refine (CO x _ bW).mono ?_)); (first | rw [HN.out] | rw [HX.out]); rintro e wn ⟨rfl, hbn⟩; have bW : Below w.heap.size w wn := (by first | exact bW.st hbn | exact bW.drew.st hbn); have bZ : Blk wn w.heap.size #[.string nm, .slice hA hs.length hc, .slice sA ss.length sc, .int .i64 gr, .int .i64 fr, .int .i64 dm, .int .i64 ms] 25 := (by first | exact bZ.below hbn bZ.lt | exact bZ.drew.below hbn bZ.lt); have q0 : World.cell? wn ⟨w.heap.size, 0, none⟩ = some (.string nm) := bZ.cell 0 rfl; have q1 : World.cell? wn ⟨w.heap.size, 1, none⟩ = some (.slice hA hs.length hc) := bZ.cell 1 rfl; have q2 : World.cell? wn ⟨w.heap.size, 2, none⟩ = some (.slice sA ss.length sc) := bZ.cell 2 rfl; have q3 : World.cell? wn ⟨w.heap.size, 3, none⟩ = some (.int .i64 gr) := bZ.cell 3 rfl; have q4 : World.cell? wn ⟨w.heap.size, 4, none⟩ = some (.int .i64 fr) := bZ.cell 4 rfl; have q5 : World.cell? wn ⟨w.heap.size, 5, none⟩ = some (.int .i64 dm) := bZ.cell 5 rfl; have q6 : World.cell? wn ⟨w.heap.size, 6, none⟩ = some (.int .i64 ms) := bZ.cell 6 rfl) | (go_at_call 12; (refine (CZ _ bW).mono ?_); rintro e wn ⟨rfl, hbn⟩; have bW : Below w.heap.size w wn := (by first | exact bW.st hbn | exact bW.drew.st hbn); have bZ : Blk wn w.heap.size #[.string nm, .slice hA hs.length hc, .slice sA ss.length sc, .int .i64 gr, .int .i64 fr, .int .i64 dm, .int .i64 ms] 25 := (by first | exact bZ.below hbn bZ.lt | exact bZ.drew.below hbn bZ.lt); have q0 : World.cell? wn ⟨w.heap.size, 0, none⟩ = some (.string nm) := bZ.cell 0 rfl; have q1 : World.cell? wn ⟨w.heap.size, 1, none⟩ = some (.slice hA hs.length hc) := bZ.cell 1 rfl; have q2 : World.cell? wn ⟨w.heap.size, 2, none⟩ = some (.slice sA ss.length sc) := bZ.cell 2 rfl; have q3 : World.cell? wn ⟨w.heap.size, 3, none⟩ = some (.int .i64 gr) := bZ.cell 3 rfl; have q4 : World.cell? wn ⟨w.heap.size, 4, none⟩ = some (.int .i64 fr) := bZ.cell 4 rfl; have q5 : World.cell? wn ⟨w.heap.size, 5, none⟩ = some (.int .i64 dm) := bZ.cell 5 rfl; have q6 : World.cell? wn ⟨w.heap.size, 6, none⟩ = some (.int .i64 ms) := bZ.cell 6 rfl) | (go_at_call 11; (refine (awake_any _).mono ?_); rintro e wn ⟨rfl, hbn⟩; have bW := bW.st hbn))
          all_goals (go_ret; first | exact ⟨rfl, bW⟩ | exact ⟨ret_bool (by simp; omega), bW⟩)
        · have hx2 : t ≤ x → n ≤ x := fun q => by omega
          have HX2 := Lib.hid hx2
          clear hx hx2
          rcases (by have := HX2.out; omega : x < t ∨ (t ≤ x ∧ n ≤ x)) with hx | ⟨hx, hx'⟩
          all_goals
            go_wp2_with (first | (go_at_call 21; (refine (CO n _ bW).mono ?_); rw [HN.out]; rintro e wn ⟨rfl, hbn⟩; have bW : Below w.heap.size w wn := (by first | exact bW.st hbn | exact bW.drew.st hbn); have bZ : Blk wn w.heap.size #[.string nm, .slice hA hs.length hc, .slice sA ss.length sc, .int .i64 gr, .int .i64 fr, .int .i64 dm, .int .i64 ms] 25 := (by first | exact bZ.below hbn bZ.lt | exact bZ.drew.below hbn bZ.lt); have q0 : World.cell? wn ⟨w.heap.size, 0, none⟩ = some (.string nm) := bZ.cell 0 rfl; have q1 : World.cell? wn ⟨w.heap.size, 1, none⟩ = some (.slice hA hs.length hc) := bZ.cell 1 rfl; have q2 : World.cell? wn ⟨w.heap.size, 2, none⟩ = some (.slice sA ss.length sc) := bZ.cell 2 rfl; have q3 : World.cell? wn ⟨w.heap.size, 3, none⟩ = some (.int .i64 gr) := bZ.cell 3 rfl; have q4 : World.cell? wn ⟨w.heap.size, 4, none⟩ = some (.int .i64 fr) := bZ.cell 4 rfl; have q5 : World.cell? wn ⟨w.heap.size, 5, none⟩ = some (.int .i64 dm) := bZ.cell 5 rfl; have q6 : World.cell? wn ⟨w.heap.size, 6, none⟩ = some (.int .i64 ms) := bZ.cell 6 rfl) | (go_at_call 12; (refine (CZ _ bW).mono ?_); rintro e wn ⟨rfl, hbn⟩; have bW : Below w.heap.size w wn := (by first | exact bW.st hbn | exact bW.drew.st hbn); have bZ : Blk wn w.heap.size #[.string nm, .slice hA hs.length hc, .slice sA ss.length sc, .int .i64 gr, .int .i64 fr, .int .i64 dm, .int .i64 ms] 25 := (by first | exact bZ.below hbn bZ.lt | exact bZ.drew.below hbn bZ.lt); have q0 : World.cell? wn ⟨w.heap.size, 0, none⟩ = some (.string nm) := bZ.cell 0 rfl; have q1 : World.cell? wn ⟨w.heap.size, 1, none⟩ = some (.slice hA hs.length hc) := bZ.cell 1 rfl; have q2 : World.cell? wn ⟨w.heap.size, 2, none⟩ = some (.slice sA ss.length sc) := bZ.cell 2 rfl; have q3 : World.cell? wn ⟨w.heap.size, 3, none⟩ = some (.int .i64 gr) := bZ.cell 3 rfl; have q4 : World.cell? wn ⟨w.heap.size, 4, none⟩ = some (.int .i64 fr) := bZ.cell 4 rfl; have q5 : World.cell? wn ⟨w.heap.size, 5, none⟩ = some (.int .i64 dm) := bZ.cell 5 rfl; have q6 : World.cell? wn ⟨w.heap.size, 6, none⟩ = some (.int .i64 ms) := bZ.cell 6 rfl) | (go_at_call 11; (refine (awake_any _).mono ?_); rintro e wn ⟨rfl, hbn⟩; have bW := bW.st hbn))
            all_goals (go_ret; first | exact ⟨rfl, bW⟩ | exact ⟨ret_bool (by simp; omega), bW⟩)
    · have hways : t < 0 ∨ (0 ≤ t ∧ 68719476736 ≤ t) := by omega
      clear ht
      go_enter Try.func9, Try.ntmps9
      go_wp2_with fail
      refine (CG _).mono ?_
      rintro e w2 ⟨rfl, hbn⟩
      have bW : Below w.heap.size w w2 := (by first | exact bW.st hbn | exact bW.drew.st hbn); have bZ : Blk w2 w.heap.size #[.string nm, .slice hA hs.length hc, .slice sA ss.length sc, .int .i64 gr, .int .i64 fr, .int .i64 dm, .int .i64 ms] 25 := (by first | exact bZ.below hbn bZ.lt | exact bZ.drew.below hbn bZ.lt); have q0 : World.cell? w2 ⟨w.heap.size, 0, none⟩ = some (.string nm) := bZ.cell 0 rfl; have q1 : World.cell? w2 ⟨w.heap.size, 1, none⟩ = some (.slice hA hs.length hc) := bZ.cell 1 rfl; have q2 : World.cell? w2 ⟨w.heap.size, 2, none⟩ = some (.slice sA ss.length sc) := bZ.cell 2 rfl; have q3 : World.cell? w2 ⟨w.heap.size, 3, none⟩ = some (.int .i64 gr) := bZ.cell 3 rfl; have q4 : World.cell? w2 ⟨w.heap.size, 4, none⟩ = some (.int .i64 fr) := bZ.cell 4 rfl; have q5 : World.cell? w2 ⟨w.heap.size, 5, none⟩ = some (.int .i64 dm) := bZ.cell 5 rfl; have q6 : World.cell? w2 ⟨w.heap.size, 6, none⟩ = some (.int .i64 ms) := bZ.cell 6 rfl
      rcases hways with ht | ⟨ht, ht'⟩
      all_goals
        go_wp2_with fail
        refine (awake_any w2).mono ?_
        rintro e w3 ⟨rfl, hbn⟩
        go_wp2_with fail
        go_ret
        exact ⟨rfl, bW.st hbn⟩
  · rw [hg] at CG
    go_enter Try.func9, Try.ntmps9
    go_wp2_with fail
    refine (CG _).mono ?_
    rintro e w2 ⟨rfl, hbn⟩
    have bW : Below w.heap.size w w2 := (by first | exact bW.st hbn | exact bW.drew.st hbn); have bZ : Blk w2 w.heap.size #[.string nm, .slice hA hs.length hc, .slice sA ss.length sc, .int .i64 gr, .int .i64 fr, .int .i64 dm, .int .i64 ms] 25 := (by first | exact bZ.below hbn bZ.lt | exact bZ.drew.below hbn bZ.lt); have q0 : World.cell? w2 ⟨w.heap.size, 0, none⟩ = some (.string nm) := bZ.cell 0 rfl; have q1 : World.cell? w2 ⟨w.heap.size, 1, none⟩ = some (.slice hA hs.length hc) := bZ.cell 1 rfl; have q2 : World.cell? w2 ⟨w.heap.size, 2, none⟩ = some (.slice sA ss.length sc) := bZ.cell 2 rfl; have q3 : World.cell? w2 ⟨w.heap.size, 3, none⟩ = some (.int .i64 gr) := bZ.cell 3 rfl; have q4 : World.cell? w2 ⟨w.heap.size, 4, none⟩ = some (.int .i64 fr) := bZ.cell 4 rfl; have q5 : World.cell? w2 ⟨w.heap.size, 5, none⟩ = some (.int .i64 dm) := bZ.cell 5 rfl; have q6 : World.cell? w2 ⟨w.heap.size, 6, none⟩ = some (.int .i64 ms) := bZ.cell 6 rfl
    go_wp2_with fail
    refine (awake_any w2).mono ?_
    rintro e w3 ⟨rfl, hbn⟩
    go_wp2_with fail
    go_ret
    exact ⟨rfl, bW.st hbn⟩
end Go.Proofs.Ytppnkepjipglgaa
