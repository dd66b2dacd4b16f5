/- The laws ZoneJoins, ZoneOpenTimes, walked. -/
import Derived.Test.YtppnkepjipglgaaZoneAwake
import Derived.Deep.RegionHeld3
import Derived.Deep.DrawnRows
import Derived.BigRegion
import Derived.IntWalk
namespace Go.Proofs.Ytppnkepjipglgaa
open Go.RowKit Go.Lib

theorem sh_len {hs : List Wn} {f t u : Int} {n1 n2 n3 : List Iv} (h1 : NF n1) (h2 : NF n2) (h3 : NF n3) (m1 : ∀ x, Mem n1 x ↔ Sh hs (f, t) x) (m2 : ∀ x, Mem n2 x ↔ Sh hs (t, u) x) (m3 : ∀ x, Mem n3 x ↔ Sh hs (f, u) x) (hft : f < t) (htu : t < u) : len n1 + len n2 = len n3 := by
  obtain ⟨M, hM⟩ : ∃ M : Nat, (M : Int) = 68719476736 := ⟨68719476736, rfl⟩
  rw [len_secs M hM h1, len_secs M hM h2, len_secs M hM h3]
  have hu : ∀ x, Mem n3 x ↔ Mem n1 x ∨ Mem n2 x := fun x => by
    rw [m1, m2, m3]
    unfold Sh
    simp only
    constructor
    · rintro ⟨a, b, c⟩
      rcases (by omega : x < t ∨ t ≤ x) with k | k
      · exact .inl ⟨a, k, c⟩
      · exact .inr ⟨k, b, c⟩
    · rintro (⟨a, b, c⟩ | ⟨a, b, c⟩)
      · exact ⟨a, by omega, c⟩
      · exact ⟨by omega, b, c⟩
  have hm : ∀ x, Mem ([] : List Iv) x ↔ Mem n1 x ∧ Mem n2 x := fun x => by
    rw [m1, m2]
    unfold Sh
    simp only [Mem.nil, false_iff]
    rintro ⟨⟨_, a, _⟩, b, _⟩
    omega
  have := secs_add M hu hm
  rw [secs_empty M (a := []) (fun x => Mem.nil x)] at this
  omega
theorem daysE_short {f u : Int} (h0 : 0 ≤ f) (h1 : f < u) (h2 : u ≤ 68719476736) (h3 : u - f ≤ 2592000) : daysE f u = 0 := daysE_0 ⟨h0, h1, h2⟩ (by omega)
theorem zenf_ok (z : Zn) (f u : Int) {w : World} (h : ZOk w z) (hl : z.hs.length ≤ 60) (h0 : 0 ≤ f) (h1 : f < u) (h2 : u ≤ 68719476736) (h3 : u - f ≤ 2592000) :
    Calls Try.prog 24 #[ZV z, .agg #[.int .i64 f, .int .i64 u]] w fun e w' => ∃ A c n, e = .returned (.tuple #[.slice A n.length c, .int .i64 0]) ∧ NF n ∧ (∀ t, Mem n t ↔ Sh z.hs (f, u) t) ∧ Rd encIv 2 w' w'.heap.size A n ∧ Below w.heap.size w w' := by
  refine (zenf_any z f u h (by omega)).mono ?_
  have hd := daysE_short h0 h1 h2 h3
  rintro e w' ⟨A, c, n, he, hn, -, hr, hb⟩
  rw [hd] at he hn
  exact ⟨A, c, n, he, (hn rfl).1, (hn rfl).2, hr, hb⟩

set_option maxRecDepth 100000 in
set_option maxHeartbeats 8000000 in
theorem zoneJoins_walk (z : Zn) (f u t : Int) {w : World} (h : ZOk w z) :
    Calls Try.prog 8 #[ZV z, .agg #[.int .i64 f, .int .i64 u], .int .i64 t] w fun e w' => e = .returned (.bool true) ∧ Below w.heap.size w w' := by
  have CG := fun W => great_any z W
  have hsm := @greatB_no z
  have CE := fun (hs : small z) (f u : Int) (h0 : 0 ≤ f) (h1 : f < u) (h2 : u ≤ 68719476736) (h3 : u - f ≤ 2592000) (W : World) (hW : Below w.heap.size w W) => zenf_ok z f u (h.st hW) hs.1 h0 h1 h2 h3
  obtain ⟨nm, hA, hc, hs, sA, sc, ss, gr, fr, dm, ms⟩ := z
  simp only [ZV] at *
  clear h
  have bW : Below w.heap.size w ((w.alloc (.cells #[.string nm, .slice hA hs.length hc, .slice sA ss.length sc, .int .i64 gr, .int .i64 fr, .int .i64 dm, .int .i64 ms] 25)).alloc (.cells #[.int .i64 f, .int .i64 u] 42)) := ((Below.refl _ w).al _).al _
  have bZ := (Blk.new w #[.string nm, .slice hA hs.length hc, .slice sA ss.length sc, .int .i64 gr, .int .i64 fr, .int .i64 dm, .int .i64 ms] 25).alloc (.cells #[.int .i64 f, .int .i64 u] 42)
  have bI := Blk.new (w.alloc (.cells #[.string nm, .slice hA hs.length hc, .slice sA ss.length sc, .int .i64 gr, .int .i64 fr, .int .i64 dm, .int .i64 ms] 25)) #[.int .i64 f, .int .i64 u] 42
  rw [World.size_alloc] at bI
  cases hg : greatB (⟨nm, hA, hc, hs, sA, sc, ss, gr, fr, dm, ms⟩ : Zn)
  · rw [hg] at CG
    have HSM := hsm hg
    have CE := CE HSM
    clear hsm
    by_cases hc : 0 ≤ f ∧ f < u ∧ u ≤ 68719476736 ∧ u - f ≤ 2592000 ∧ f < t ∧ t < u
    · obtain ⟨k1, k2, k3, k4, k5, k6⟩ := hc
      go_enter Try.func8, Try.ntmps8
      go_wp2_with fail
      refine (CG _).mono ?_
      rintro e w2 ⟨rfl, hbn⟩
      have bI : Blk w2 (w.heap.size + 1) #[.int .i64 f, .int .i64 u] 42 := (by first | exact bI.below hbn bI.lt | exact bI.drew.below hbn bI.lt); have i0 : World.cell? w2 ⟨w.heap.size + 1, 0, none⟩ = some (.int .i64 f) := bI.cell 0 rfl; have i1 : World.cell? w2 ⟨w.heap.size + 1, 1, none⟩ = some (.int .i64 u) := bI.cell 1 rfl
      have bW : Below w.heap.size w w2 := (by first | exact bW.st hbn | exact bW.drew.st hbn); have bZ : Blk w2 w.heap.size #[.string nm, .slice hA hs.length hc, .slice sA ss.length sc, .int .i64 gr, .int .i64 fr, .int .i64 dm, .int .i64 ms] 25 := (by first | exact bZ.below hbn bZ.lt | exact bZ.drew.below hbn bZ.lt); have q0 : World.cell? w2 ⟨w.heap.size, 0, none⟩ = some (.string nm) := bZ.cell 0 rfl; have q1 : World.cell? w2 ⟨w.heap.size, 1, none⟩ = some (.slice hA hs.length hc) := bZ.cell 1 rfl; have q2 : World.cell? w2 ⟨w.heap.size, 2, none⟩ = some (.slice sA ss.length sc) := bZ.cell 2 rfl; have q3 : World.cell? w2 ⟨w.heap.size, 3, none⟩ = some (.int .i64 gr) := bZ.cell 3 rfl; have q4 : World.cell? w2 ⟨w.heap.size, 4, none⟩ = some (.int .i64 fr) := bZ.cell 4 rfl; have q5 : World.cell? w2 ⟨w.heap.size, 5, none⟩ = some (.int .i64 dm) := bZ.cell 5 rfl; have q6 : World.cell? w2 ⟨w.heap.size, 6, none⟩ = some (.int .i64 ms) := bZ.cell 6 rfl
      go_wp2_with fail
      refine (CE f t k1 k5 (by omega) (by omega) _ bW).mono ?_
      rintro e w3 ⟨A3, c3, n3, rfl, hn3, hm3, r3, hbn⟩
      have bI : Blk w3 (w.heap.size + 1) #[.int .i64 f, .int .i64 u] 42 := (by first | exact bI.below hbn bI.lt | exact bI.drew.below hbn bI.lt); have i0 : World.cell? w3 ⟨w.heap.size + 1, 0, none⟩ = some (.int .i64 f) := bI.cell 0 rfl; have i1 : World.cell? w3 ⟨w.heap.size + 1, 1, none⟩ = some (.int .i64 u) := bI.cell 1 rfl
      have bW : Below w.heap.size w w3 := (by first | exact bW.st hbn | exact bW.drew.st hbn); have bZ : Blk w3 w.heap.size #[.string nm, .slice hA hs.length hc, .slice sA ss.length sc, .int .i64 gr, .int .i64 fr, .int .i64 dm, .int .i64 ms] 25 := (by first | exact bZ.below hbn bZ.lt | exact bZ.drew.below hbn bZ.lt); have q0 : World.cell? w3 ⟨w.heap.size, 0, none⟩ = some (.string nm) := bZ.cell 0 rfl; have q1 : World.cell? w3 ⟨w.heap.size, 1, none⟩ = some (.slice hA hs.length hc) := bZ.cell 1 rfl; have q2 : World.cell? w3 ⟨w.heap.size, 2, none⟩ = some (.slice sA ss.length sc) := bZ.cell 2 rfl; have q3 : World.cell? w3 ⟨w.heap.size, 3, none⟩ = some (.int .i64 gr) := bZ.cell 3 rfl; have q4 : World.cell? w3 ⟨w.heap.size, 4, none⟩ = some (.int .i64 fr) := bZ.cell 4 rfl; have q5 : World.cell? w3 ⟨w.heap.size, 5, none⟩ = some (.int .i64 dm) := bZ.cell 5 rfl; have q6 : World.cell? w3 ⟨w.heap.size, 6, none⟩ = some (.int .i64 ms) := bZ.cell 6 rfl
      have Hm3 := Lib.hid hm3
      clear hm3
      go_wp2_with fail
      refine (CE t u (by omega) k6 k3 (by omega) _ bW).mono ?_
      rintro e w4 ⟨A4, c4, n4, rfl, hn4, hm4, r4, hbn⟩
      have bI : Blk w4 (w.heap.size + 1) #[.int .i64 f, .int .i64 u] 42 := (by first | exact bI.below hbn bI.lt | exact bI.drew.below hbn bI.lt); have i0 : World.cell? w4 ⟨w.heap.size + 1, 0, none⟩ = some (.int .i64 f) := bI.cell 0 rfl; have i1 : World.cell? w4 ⟨w.heap.size + 1, 1, none⟩ = some (.int .i64 u) := bI.cell 1 rfl
      have bW : Below w.heap.size w w4 := (by first | exact bW.st hbn | exact bW.drew.st hbn); have bZ : Blk w4 w.heap.size #[.string nm, .slice hA hs.length hc, .slice sA ss.length sc, .int .i64 gr, .int .i64 fr, .int .i64 dm, .int .i64 ms] 25 := (by first | exact bZ.below hbn bZ.lt | exact bZ.drew.below hbn bZ.lt); have q0 : World.cell? w4 ⟨w.heap.size, 0, none⟩ = some (.string nm) := bZ.cell 0 rfl; have q1 : World.cell? w4 ⟨w.heap.size, 1, none⟩ = some (.slice hA hs.length hc) := bZ.cell 1 rfl; have q2 : World.cell? w4 ⟨w.heap.size, 2, none⟩ = some (.slice sA ss.length sc) := bZ.cell 2 rfl; have q3 : World.cell? w4 ⟨w.heap.size, 3, none⟩ = some (.int .i64 gr) := bZ.cell 3 rfl; have q4 : World.cell? w4 ⟨w.heap.size, 4, none⟩ = some (.int .i64 fr) := bZ.cell 4 rfl; have q5 : World.cell? w4 ⟨w.heap.size, 5, none⟩ = some (.int .i64 dm) := bZ.cell 5 rfl; have q6 : World.cell? w4 ⟨w.heap.size, 6, none⟩ = some (.int .i64 ms) := bZ.cell 6 rfl
      have r3 := r3.st hbn
      have Hm4 := Lib.hid hm4
      clear hm4
      go_wp2_with fail
      refine (CE f u k1 k2 k3 k4 _ bW).mono ?_
      rintro e w5 ⟨A5, c5, n5, rfl, hn5, hm5, r5, hbn⟩
      have r3 := r3.st hbn
      have r4 := r4.st hbn
      have bW := bW.st hbn
      have hlen := sh_len hn3 hn4 hn5 Hm3.out Hm4.out hm5 k5 k6
      have HL := Lib.hid hlen
      have l3 := len_bounds hn3
      have l4 := len_bounds hn4
      have T3 := Lib.hid (fun W (hW : Below w5.heap.size w5 W) => total_any c3 (r3.st hW) hn3)
      have T4 := Lib.hid (fun W (hW : Below w5.heap.size w5 W) => total_any c4 (r4.st hW) hn4)
      have T5 := Lib.hid (fun W (hW : Below w5.heap.size w5 W) => total_any c5 (r5.st hW) hn5)
      clear hm5 Hm3 Hm4 hlen r3 r4 r5 hbn
      obtain ⟨l30, l31⟩ := l3
      obtain ⟨l40, l41⟩ := l4
      generalize len n3 = m3 at *
      generalize len n4 = m4 at *
      generalize len n5 = m5 at *
      have heq := HL.out
      subst heq
      go_wp2_with fail
      refine (T3.out _ (Below.refl _ _)).mono ?_
      rintro e w6 ⟨rfl, h6⟩
      go_wp2_with fail
      refine (T4.out _ h6).mono ?_
      rintro e w7 ⟨rfl, h7⟩
      have h7' := h6.st h7
      go_wp2_with fail
      refine (T5.out _ h7').mono ?_
      rintro e w8 ⟨rfl, h8⟩
      have h8' := bW.st (h7'.st h8)
      go_wp2_with (go_at_call 11; (refine (awake_any _).mono ?_); rintro e w9 ⟨rfl, h9⟩)
      all_goals (go_ret; exact ⟨rfl, h8'.st (by assumption)⟩)
    · have hways : f < 0 ∨ (0 ≤ f ∧ u ≤ f) ∨ (0 ≤ f ∧ f < u ∧ 68719476736 < u) ∨ (0 ≤ f ∧ f < u ∧ u ≤ 68719476736 ∧ 2592000 < u - f) ∨ (0 ≤ f ∧ f < u ∧ u ≤ 68719476736 ∧ u - f ≤ 2592000 ∧ t ≤ f) ∨ (0 ≤ f ∧ f < u ∧ u ≤ 68719476736 ∧ u - f ≤ 2592000 ∧ f < t ∧ u ≤ t) := by omega
      clear hc
      go_enter Try.func8, Try.ntmps8
      go_wp2_with fail
      refine (CG _).mono ?_
      rintro e w2 ⟨rfl, hbn⟩
      have bI : Blk w2 (w.heap.size + 1) #[.int .i64 f, .int .i64 u] 42 := (by first | exact bI.below hbn bI.lt | exact bI.drew.below hbn bI.lt); have i0 : World.cell? w2 ⟨w.heap.size + 1, 0, none⟩ = some (.int .i64 f) := bI.cell 0 rfl; have i1 : World.cell? w2 ⟨w.heap.size + 1, 1, none⟩ = some (.int .i64 u) := bI.cell 1 rfl
      have bW : Below w.heap.size w w2 := (by first | exact bW.st hbn | exact bW.drew.st hbn); have bZ : Blk w2 w.heap.size #[.string nm, .slice hA hs.length hc, .slice sA ss.length sc, .int .i64 gr, .int .i64 fr, .int .i64 dm, .int .i64 ms] 25 := (by first | exact bZ.below hbn bZ.lt | exact bZ.drew.below hbn bZ.lt); have q0 : World.cell? w2 ⟨w.heap.size, 0, none⟩ = some (.string nm) := bZ.cell 0 rfl; have q1 : World.cell? w2 ⟨w.heap.size, 1, none⟩ = some (.slice hA hs.length hc) := bZ.cell 1 rfl; have q2 : World.cell? w2 ⟨w.heap.size, 2, none⟩ = some (.slice sA ss.length sc) := bZ.cell 2 rfl; have q3 : World.cell? w2 ⟨w.heap.size, 3, none⟩ = some (.int .i64 gr) := bZ.cell 3 rfl; have q4 : World.cell? w2 ⟨w.heap.size, 4, none⟩ = some (.int .i64 fr) := bZ.cell 4 rfl; have q5 : World.cell? w2 ⟨w.heap.size, 5, none⟩ = some (.int .i64 dm) := bZ.cell 5 rfl; have q6 : World.cell? w2 ⟨w.heap.size, 6, none⟩ = some (.int .i64 ms) := bZ.cell 6 rfl
      rcases hways with k1 | ⟨k1, k2⟩ | ⟨k1, k2, k3⟩ | ⟨k1, k2, k3, k4⟩ | ⟨k1, k2, k3, k4, k5⟩ | ⟨k1, k2, k3, k4, k5, k6⟩
      all_goals
        go_wp2_with fail
        refine (awake_any w2).mono ?_
        rintro e w3 ⟨rfl, hbn⟩
        go_wp2_with fail
        go_ret
        exact ⟨rfl, bW.st hbn⟩
  · rw [hg] at CG
    go_enter Try.func8, Try.ntmps8
    go_wp2_with fail
    refine (CG _).mono ?_
    rintro e w2 ⟨rfl, hbn⟩
    have bW : Below w.heap.size w w2 := (by first | exact bW.st hbn | exact bW.drew.st hbn); have bZ : Blk w2 w.heap.size #[.string nm, .slice hA hs.length hc, .slice sA ss.length sc, .int .i64 gr, .int .i64 fr, .int .i64 dm, .int .i64 ms] 25 := (by first | exact bZ.below hbn bZ.lt | exact bZ.drew.below hbn bZ.lt); have q0 : World.cell? w2 ⟨w.heap.size, 0, none⟩ = some (.string nm) := bZ.cell 0 rfl; have q1 : World.cell? w2 ⟨w.heap.size, 1, none⟩ = some (.slice hA hs.length hc) := bZ.cell 1 rfl; have q2 : World.cell? w2 ⟨w.heap.size, 2, none⟩ = some (.slice sA ss.length sc) := bZ.cell 2 rfl; have q3 : World.cell? w2 ⟨w.heap.size, 3, none⟩ = some (.int .i64 gr) := bZ.cell 3 rfl; have q4 : World.cell? w2 ⟨w.heap.size, 4, none⟩ = some (.int .i64 fr) := bZ.cell 4 rfl; have q5 : World.cell? w2 ⟨w.heap.size, 5, none⟩ = some (.int .i64 dm) := bZ.cell 5 rfl; have q6 : World.cell? w2 ⟨w.heap.size, 6, none⟩ = some (.int .i64 ms) := bZ.cell 6 rfl
    go_wp2_with fail
    refine (awake_any w2).mono ?_
    rintro e w3 ⟨rfl, hbn⟩
    go_wp2_with fail
    go_ret
    exact ⟨rfl, bW.st hbn⟩
end Go.Proofs.Ytppnkepjipglgaa
