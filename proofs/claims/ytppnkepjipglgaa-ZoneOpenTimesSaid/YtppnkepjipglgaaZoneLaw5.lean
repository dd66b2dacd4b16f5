/- The law ZoneOpenTimes, walked. -/
import Derived.Test.YtppnkepjipglgaaZoneLaw4
namespace Go.Proofs.Ytppnkepjipglgaa
open Go.RowKit Go.Lib

theorem nf_at {hs : List Wn} {f u : Int} {n : List Iv} (hn : NF n) (hm : ∀ t, Mem n t ↔ Sh hs (f, u) t) {k : Nat} {x y : Int} (hx : n[k]? = some (x, y)) : f ≤ x ∧ x < y ∧ y ≤ u := by
  have hmem := List.mem_of_getElem? hx
  have hv := hn.1 _ hmem
  have hv' := hv
  unfold vld at hv'
  simp only at hv'
  have h1 := ((hm x).1 ⟨_, hmem, hv, by simp only; omega, by simp only; omega⟩).1
  have h2 := ((hm (y - 1)).1 ⟨_, hmem, hv, by simp only; omega, by simp only; omega⟩).2.1
  simp only at h1 h2
  omega
theorem nf_next {n : List Iv} (hn : NF n) {k : Nat} {x y x' y' : Int} (hk : k ≠ 0) (hx : n[k]? = some (x, y)) (hx' : n[k - 1]? = some (x', y')) : y' < x := by
  have h := hn.2
  rw [List.pairwise_iff_getElem] at h
  obtain ⟨a1, a2⟩ := List.getElem?_eq_some_iff.1 hx
  obtain ⟨b1, b2⟩ := List.getElem?_eq_some_iff.1 hx'
  have := h (k - 1) k b1 a1 (by omega)
  rw [a2, b2] at this
  exact this
theorem inL_open {hs : List Wn} {f u t : Int} {n : List Iv} (hn : NF n) (hm : ∀ t, Mem n t ↔ Sh hs (f, u) t) (h0 : 0 ≤ f) (h2 : u ≤ 68719476736) (h3 : f ≤ t) (h4 : t < u) : openB hs t = inL n t := by
  rw [Bool.eq_iff_iff, openB_iff, inL_nf hn, hm]
  unfold openP Sh
  simp only
  constructor
  · rintro ⟨_, a⟩; exact ⟨h3, h4, a⟩
  · rintro ⟨_, _, a⟩; exact ⟨by omega, a⟩

set_option maxRecDepth 100000 in
set_option maxHeartbeats 8000000 in
theorem zoneOpenTimes_walk (z : Zn) (f u t : Int) {w : World} (h : ZOk w z) :
    Calls Try.prog 7 #[ZV z, .agg #[.int .i64 f, .int .i64 u], .int .i64 t] w fun e w' => e = .returned (.bool true) ∧ Below w.heap.size w w' := by
  have CG := fun W => great_any z W
  have hsm := @greatB_no z
  have CE := fun (hs : small z) (f u : Int) (h0 : 0 ≤ f) (h1 : f < u) (h2 : u ≤ 68719476736) (h3 : u - f ≤ 2592000) (W : World) (hW : Below w.heap.size w W) => zenf_ok z f u (h.st hW) hs.1 h0 h1 h2 h3
  have CO := fun (hs : small z) (W : World) (hW : Below w.heap.size w W) => zopen_any z (t := t) (h.st hW) (by have := hs.1; omega)
  obtain ⟨nm, hA, hc, hs, sA, sc, ss, gr, fr, dm, ms⟩ := z
  simp only [ZV] at *
  clear h
  have bW : Below w.heap.size w ((w.alloc (.cells #[.string nm, .slice hA hs.length hc, .slice sA ss.length sc, .int .i64 gr, .int .i64 fr, .int .i64 dm, .int .i64 ms] 25)).alloc (.cells #[.int .i64 f, .int .i64 u] 42)) := ((Below.refl _ w).al _).al _
  have bZ := (Blk.new w #[.string nm, .slice hA hs.length hc, .slice sA ss.length sc, .int .i64 gr, .int .i64 fr, .int .i64 dm, .int .i64 ms] 25).alloc (.cells #[.int .i64 f, .int .i64 u] 42)
  have bI := Blk.new (w.alloc (.cells #[.string nm, .slice hA hs.length hc, .slice sA ss.length sc, .int .i64 gr, .int .i64 fr, .int .i64 dm, .int .i64 ms] 25)) #[.int .i64 f, .int .i64 u] 42
  rw [World.size_alloc] at bI
  cases hg : greatB (⟨nm, hA, hc, hs, sA, sc, ss, gr, fr, dm, ms⟩ : Zn)
  · rw [hg] at CG
    have HSM := hsm hg
    have CE := CE HSM
    have CO := CO HSM
    clear hsm
    by_cases hc : 0 ≤ f ∧ f < u ∧ u ≤ 68719476736 ∧ u - f ≤ 2592000 ∧ f ≤ t ∧ t < u
    · obtain ⟨k1, k2, k3, k4, k5, k6⟩ := hc
      go_enter Try.func7, Try.ntmps7
      go_wp2_with fail
      refine (CG _).mono ?_
      rintro e w2 ⟨rfl, hbn⟩
      have bI : Blk w2 (w.heap.size + 1) #[.int .i64 f, .int .i64 u] 42 := (by first | exact bI.below hbn bI.lt | exact bI.drew.below hbn bI.lt); have i0 : World.cell? w2 ⟨w.heap.size + 1, 0, none⟩ = some (.int .i64 f) := bI.cell 0 rfl; have i1 : World.cell? w2 ⟨w.heap.size + 1, 1, none⟩ = some (.int .i64 u) := bI.cell 1 rfl
      have bW : Below w.heap.size w w2 := (by first | exact bW.st hbn | exact bW.drew.st hbn); have bZ : Blk w2 w.heap.size #[.string nm, .slice hA hs.length hc, .slice sA ss.length sc, .int .i64 gr, .int .i64 fr, .int .i64 dm, .int .i64 ms] 25 := (by first | exact bZ.below hbn bZ.lt | exact bZ.drew.below hbn bZ.lt); have q0 : World.cell? w2 ⟨w.heap.size, 0, none⟩ = some (.string nm) := bZ.cell 0 rfl; have q1 : World.cell? w2 ⟨w.heap.size, 1, none⟩ = some (.slice hA hs.length hc) := bZ.cell 1 rfl; have q2 : World.cell? w2 ⟨w.heap.size, 2, none⟩ = some (.slice sA ss.length sc) := bZ.cell 2 rfl; have q3 : World.cell? w2 ⟨w.heap.size, 3, none⟩ = some (.int .i64 gr) := bZ.cell 3 rfl; have q4 : World.cell? w2 ⟨w.heap.size, 4, none⟩ = some (.int .i64 fr) := bZ.cell 4 rfl; have q5 : World.cell? w2 ⟨w.heap.size, 5, none⟩ = some (.int .i64 dm) := bZ.cell 5 rfl; have q6 : World.cell? w2 ⟨w.heap.size, 6, none⟩ = some (.int .i64 ms) := bZ.cell 6 rfl
      go_wp2_with fail
      refine (CE f u k1 k2 k3 k4 _ bW).mono ?_
      rintro e w3 ⟨A3, c3, n3, rfl, hn3, hm3, r3, hbn⟩
      have bI : Blk w3 (w.heap.size + 1) #[.int .i64 f, .int .i64 u] 42 := (by first | exact bI.below hbn bI.lt | exact bI.drew.below hbn bI.lt); have i0 : World.cell? w3 ⟨w.heap.size + 1, 0, none⟩ = some (.int .i64 f) := bI.cell 0 rfl; have i1 : World.cell? w3 ⟨w.heap.size + 1, 1, none⟩ = some (.int .i64 u) := bI.cell 1 rfl
      have bW : Below w.heap.size w w3 := (by first | exact bW.st hbn | exact bW.drew.st hbn); have bZ : Blk w3 w.heap.size #[.string nm, .slice hA hs.length hc, .slice sA ss.length sc, .int .i64 gr, .int .i64 fr, .int .i64 dm, .int .i64 ms] 25 := (by first | exact bZ.below hbn bZ.lt | exact bZ.drew.below hbn bZ.lt); have q0 : World.cell? w3 ⟨w.heap.size, 0, none⟩ = some (.string nm) := bZ.cell 0 rfl; have q1 : World.cell? w3 ⟨w.heap.size, 1, none⟩ = some (.slice hA hs.length hc) := bZ.cell 1 rfl; have q2 : World.cell? w3 ⟨w.heap.size, 2, none⟩ = some (.slice sA ss.length sc) := bZ.cell 2 rfl; have q3 : World.cell? w3 ⟨w.heap.size, 3, none⟩ = some (.int .i64 gr) := bZ.cell 3 rfl; have q4 : World.cell? w3 ⟨w.heap.size, 4, none⟩ = some (.int .i64 fr) := bZ.cell 4 rfl; have q5 : World.cell? w3 ⟨w.heap.size, 5, none⟩ = some (.int .i64 dm) := bZ.cell 5 rfl; have q6 : World.cell? w3 ⟨w.heap.size, 6, none⟩ = some (.int .i64 ms) := bZ.cell 6 rfl
      have heq := inL_open (hs := hs) hn3 hm3 k1 k3 k5 k6
      have CL := fun (W : World) (hW : Below w3.heap.size w3 W) => lwithin_any c3 (t := t) (r3.st hW) (by have := hn3.length_max; omega)
      rw [heq] at CO
      generalize inL n3 t = q at *
      have Hat := Lib.hid (show ∀ k x y, n3[k]? = some (x, y) → f ≤ x ∧ x < y ∧ y ≤ u from fun k x y => nf_at hn3 hm3)
      have hn3l := hn3.length_max
      have b3 := Below.refl w3.heap.size w3
      have bI3 := bI
      have bW3 := bW
      clear heq hm3 hbn
      have hqq : (q != q) = false := by simp
      go_wp2_with fail
      go_region_held3 (fun w' => w'.cell? ⟨w.heap.size, 0, none⟩ = some (.string nm) ∧ w'.cell? ⟨w.heap.size, 1, none⟩ = some (.slice hA hs.length hc) ∧ w'.cell? ⟨w.heap.size, 2, none⟩ = some (.slice sA ss.length sc) ∧ w'.cell? ⟨w.heap.size, 3, none⟩ = some (.int .i64 gr) ∧ w'.cell? ⟨w.heap.size, 4, none⟩ = some (.int .i64 fr) ∧ w'.cell? ⟨w.heap.size, 5, none⟩ = some (.int .i64 dm) ∧ w'.cell? ⟨w.heap.size, 6, none⟩ = some (.int .i64 ms)) (go_keep) (first | (go_at_call 21; (refine (CO _ (by first | exact bW | exact bW.drew)).mono ?_); rintro e wn ⟨rfl, hbn⟩; have bI : Blk wn (w.heap.size + 1) #[.int .i64 f, .int .i64 u] 42 := (by first | exact bI.below hbn bI.lt | exact bI.drew.below hbn bI.lt); have i0 : World.cell? wn ⟨w.heap.size + 1, 0, none⟩ = some (.int .i64 f) := bI.cell 0 rfl; have i1 : World.cell? wn ⟨w.heap.size + 1, 1, none⟩ = some (.int .i64 u) := bI.cell 1 rfl; have b3 : Below w3.heap.size w3 wn := (by first | exact b3.st hbn | exact b3.drew.st hbn); have bW : Below w.heap.size w wn := (by first | exact bW.st hbn | exact bW.drew.st hbn); have bZ : Blk wn w.heap.size #[.string nm, .slice hA hs.length hc, .slice sA ss.length sc, .int .i64 gr, .int .i64 fr, .int .i64 dm, .int .i64 ms] 25 := (by first | exact bZ.below hbn bZ.lt | exact bZ.drew.below hbn bZ.lt); have q0 : World.cell? wn ⟨w.heap.size, 0, none⟩ = some (.string nm) := bZ.cell 0 rfl; have q1 : World.cell? wn ⟨w.heap.size, 1, none⟩ = some (.slice hA hs.length hc) := bZ.cell 1 rfl; have q2 : World.cell? wn ⟨w.heap.size, 2, none⟩ = some (.slice sA ss.length sc) := bZ.cell 2 rfl; have q3 : World.cell? wn ⟨w.heap.size, 3, none⟩ = some (.int .i64 gr) := bZ.cell 3 rfl; have q4 : World.cell? wn ⟨w.heap.size, 4, none⟩ = some (.int .i64 fr) := bZ.cell 4 rfl; have q5 : World.cell? wn ⟨w.heap.size, 5, none⟩ = some (.int .i64 dm) := bZ.cell 5 rfl; have q6 : World.cell? wn ⟨w.heap.size, 6, none⟩ = some (.int .i64 ms) := bZ.cell 6 rfl) | (go_at_call 27; (refine (CL _ (by first | exact b3 | exact b3.drew)).mono ?_); rintro e wn ⟨rfl, hbn⟩; have bI : Blk wn (w.heap.size + 1) #[.int .i64 f, .int .i64 u] 42 := (by first | exact bI.below hbn bI.lt | exact bI.drew.below hbn bI.lt); have i0 : World.cell? wn ⟨w.heap.size + 1, 0, none⟩ = some (.int .i64 f) := bI.cell 0 rfl; have i1 : World.cell? wn ⟨w.heap.size + 1, 1, none⟩ = some (.int .i64 u) := bI.cell 1 rfl; have b3 : Below w3.heap.size w3 wn := (by first | exact b3.st hbn | exact b3.drew.st hbn); have bW : Below w.heap.size w wn := (by first | exact bW.st hbn | exact bW.drew.st hbn); have bZ : Blk wn w.heap.size #[.string nm, .slice hA hs.length hc, .slice sA ss.length sc, .int .i64 gr, .int .i64 fr, .int .i64 dm, .int .i64 ms] 25 := (by first | exact bZ.below hbn bZ.lt | exact bZ.drew.below hbn bZ.lt); have q0 : World.cell? wn ⟨w.heap.size, 0, none⟩ = some (.string nm) := bZ.cell 0 rfl; have q1 : World.cell? wn ⟨w.heap.size, 1, none⟩ = some (.slice hA hs.length hc) := bZ.cell 1 rfl; have q2 : World.cell? wn ⟨w.heap.size, 2, none⟩ = some (.slice sA ss.length sc) := bZ.cell 2 rfl; have q3 : World.cell? wn ⟨w.heap.size, 3, none⟩ = some (.int .i64 gr) := bZ.cell 3 rfl; have q4 : World.cell? wn ⟨w.heap.size, 4, none⟩ = some (.int .i64 fr) := bZ.cell 4 rfl; have q5 : World.cell? wn ⟨w.heap.size, 5, none⟩ = some (.int .i64 dm) := bZ.cell 5 rfl; have q6 : World.cell? wn ⟨w.heap.size, 6, none⟩ = some (.int .i64 ms) := bZ.cell 6 rfl))
      all_goals
        go_wp2_with fail
        go_loopw [70] (fun i wr => ∃ k : Nat, k ≤ n3.length ∧ i = .int .i64 k ∧ Below w3.heap.size w3 wr) (fun i _ => n3.length - (intOf i).toNat)
        case atStart => exact ⟨0, Nat.zero_le _, rfl, by first | exact b3 | exact b3.drew⟩
        case round =>
          clear b3 bW bI hbn q0 q1 q2 q3 q4 q5 q6 i0 i1
          obtain ⟨k, hk, rfl, hbr⟩ := hrel
          by_cases hi : k < n3.length
          · have hp := fun h0 : k ≠ 0 => (r3.keep hbr).iv (i := k - 1) (by omega)
            obtain ⟨b, off, x, y, rfl, hb, hx, d0, d1⟩ := (r3.keep hbr).iv hi
            have bIr := bI3.below hbr bI3.lt
            have j0 : wr.cell? ⟨w.heap.size + 1, 0, none⟩ = some (.int .i64 f) := bIr.cell 0 rfl
            have j1 : wr.cell? ⟨w.heap.size + 1, 1, none⟩ = some (.int .i64 u) := bIr.cell 1 rfl
            have ltI := bIr.lt
            have hbw : b < wr.heap.size := Nat.lt_of_lt_of_le hb hbr.size
            obtain ⟨a1, a2, a3⟩ := Hat.out k x y hx
            have g1 : decide (x < f) = false := decide_eq_false (by omega)
            have g2 : decide (y ≤ x) = false := decide_eq_false (by omega)
            have g3 : decide (u < y) = false := decide_eq_false (by omega)
            have hi1 : (0 : Int) ≤ (k : Int) := by omega
            have hi2 : (k : Int) < (n3.length : Int) := by omega
            have e0 := (World.cell?_alloc_lt wr (.cells #[.int .i64 x, .int .i64 y] 42) ⟨w.heap.size + 1, 0, none⟩ ltI).trans j0
            have e1 := (World.cell?_alloc_lt wr (.cells #[.int .i64 x, .int .i64 y] 42) ⟨w.heap.size + 1, 1, none⟩ ltI).trans j1
            have hbr2 := hbr.al (.cells #[.int .i64 x, .int .i64 y] 42)
            by_cases hk0 : k = 0
            · have h6 : decide ((0 : Int) < (k : Int)) = false := decide_eq_false (by omega)
              have h8 : decide (0 < k) = false := decide_eq_false (by omega)
              clear hp hx hk0 j0 j1
              go_wp2_with fail
              go_quiet (fail)
              go_wp2
              go_roundw
              case rel => exact ⟨k + 1, by omega, by go_num, below_drewN hbr2 _⟩
              case measure => simp [intOf]; omega
            · obtain ⟨b', off', x', y', hA, hb', hx', c0, c1⟩ := hp hk0
              injection hA with hA
              injection hA with hA1 hA2
              subst hA1 hA2
              have hlt := nf_next hn3 hk0 hx hx'
              have g4 : decide (x ≤ y') = false := decide_eq_false (by omega)
              have h1 : (0 : Int) < (k : Int) := by omega
              have h2 : (0 : Int) ≤ (k : Int) - 1 := by omega
              have h3 : (k : Int) - 1 < (n3.length : Int) := by omega
              have h4 : ((k : Int) - 1).toNat = k - 1 := by omega
              have h5 : IntKind.i64.wrap ((k : Int) - 1) = (k : Int) - 1 := IntWalk.i64_in _ (by omega)
              have h6 : decide ((0 : Int) < (k : Int)) = true := decide_eq_true h1
              have h8 : decide (0 < k) = true := decide_eq_true (by omega)
              have c1' := (World.cell?_alloc_lt wr (.cells #[.int .i64 x, .int .i64 y] 42) ⟨b, off + (k - 1) * 2 + 1, none⟩ hbw).trans c1
              clear hp hx hx' hk0 j0 j1 c0
              go_wp2_with fail
              go_quiet (fail)
              go_wp2
              go_roundw
              case rel => exact ⟨k + 1, by omega, by go_num, below_drewN hbr2 _⟩
              case measure => simp [intOf]; omega
          · obtain rfl : k = n3.length := by omega
            go_wp2_with fail
            refine (awake_any _).mono ?_
            rintro e w9 ⟨rfl, h9⟩
            go_wp2_with fail
            go_ret
            exact ⟨rfl, (bW3.st hbr).st h9⟩
    · have hways : f < 0 ∨ (0 ≤ f ∧ u ≤ f) ∨ (0 ≤ f ∧ f < u ∧ 68719476736 < u) ∨ (0 ≤ f ∧ f < u ∧ u ≤ 68719476736 ∧ 2592000 < u - f) ∨ (0 ≤ f ∧ f < u ∧ u ≤ 68719476736 ∧ u - f ≤ 2592000 ∧ t < f) ∨ (0 ≤ f ∧ f < u ∧ u ≤ 68719476736 ∧ u - f ≤ 2592000 ∧ f ≤ t ∧ u ≤ t) := by omega
      clear hc
      go_enter Try.func7, Try.ntmps7
      go_wp2_with fail
      refine (CG _).mono ?_
      rintro e w2 ⟨rfl, hbn⟩
      have bI : Blk w2 (w.heap.size + 1) #[.int .i64 f, .int .i64 u] 42 := (by first | exact bI.below hbn bI.lt | exact bI.drew.below hbn bI.lt); have i0 : World.cell? w2 ⟨w.heap.size + 1, 0, none⟩ = some (.int .i64 f) := bI.cell 0 rfl; have i1 : World.cell? w2 ⟨w.heap.size + 1, 1, none⟩ = some (.int .i64 u) := bI.cell 1 rfl
      have bW : Below w.heap.size w w2 := (by first | exact bW.st hbn | exact bW.drew.st hbn); have bZ : Blk w2 w.heap.size #[.string nm, .slice hA hs.length hc, .slice sA ss.length sc, .int .i64 gr, .int .i64 fr, .int .i64 dm, .int .i64 ms] 25 := (by first | exact bZ.below hbn bZ.lt | exact bZ.drew.below hbn bZ.lt); have q0 : World.cell? w2 ⟨w.heap.size, 0, none⟩ = some (.string nm) := bZ.cell 0 rfl; have q1 : World.cell? w2 ⟨w.heap.size, 1, none⟩ = some (.slice hA hs.length hc) := bZ.cell 1 rfl; have q2 : World.cell? w2 ⟨w.heap.size, 2, none⟩ = some (.slice sA ss.length sc) := bZ.cell 2 rfl; have q3 : World.cell? w2 ⟨w.heap.size, 3, none⟩ = some (.int .i64 gr) := bZ.cell 3 rfl; have q4 : World.cell? w2 ⟨w.heap.size, 4, none⟩ = some (.int .i64 fr) := bZ.cell 4 rfl; have q5 : World.cell? w2 ⟨w.heap.size, 5, none⟩ = some (.int .i64 dm) := bZ.cell 5 rfl; have q6 : World.cell? w2 ⟨w.heap.size, 6, none⟩ = some (.int .i64 ms) := bZ.cell 6 rfl
      rcases hways with k1 | ⟨k1, k2⟩ | ⟨k1, k2, k3⟩ | ⟨k1, k2, k3, k4⟩ | ⟨k1, k2, k3, k4, k5⟩ | ⟨k1, k2, k3, k4, k5, k6⟩
      all_goals
        go_wp2_with fail
        refine (awake_any w2).mono ?_
        rintro e w3 ⟨rfl, hbn⟩
        go_wp2_with fail
        go_ret
        exact ⟨rfl, bW.st hbn⟩
  · rw [hg] at CG
    go_enter Try.func7, Try.ntmps7
    go_wp2_with fail
    refine (CG _).mono ?_
    rintro e w2 ⟨rfl, hbn⟩
    have bW : Below w.heap.size w w2 := (by first | exact bW.st hbn | exact bW.drew.st hbn); have bZ : Blk w2 w.heap.size #[.string nm, .slice hA hs.length hc, .slice sA ss.length sc, .int .i64 gr, .int .i64 fr, .int .i64 dm, .int .i64 ms] 25 := (by first | exact bZ.below hbn bZ.lt | exact bZ.drew.below hbn bZ.lt); have q0 : World.cell? w2 ⟨w.heap.size, 0, none⟩ = some (.string nm) := bZ.cell 0 rfl; have q1 : World.cell? w2 ⟨w.heap.size, 1, none⟩ = some (.slice hA hs.length hc) := bZ.cell 1 rfl; have q2 : World.cell? w2 ⟨w.heap.size, 2, none⟩ = some (.slice sA ss.length sc) := bZ.cell 2 rfl; have q3 : World.cell? w2 ⟨w.heap.size, 3, none⟩ = some (.int .i64 gr) := bZ.cell 3 rfl; have q4 : World.cell? w2 ⟨w.heap.size, 4, none⟩ = some (.int .i64 fr) := bZ.cell 4 rfl; have q5 : World.cell? w2 ⟨w.heap.size, 5, none⟩ = some (.int .i64 dm) := bZ.cell 5 rfl; have q6 : World.cell? w2 ⟨w.heap.size, 6, none⟩ = some (.int .i64 ms) := bZ.cell 6 rfl
    go_wp2_with fail
    refine (awake_any w2).mono ?_
    rintro e w3 ⟨rfl, hbn⟩
    go_wp2_with fail
    go_ret
    exact ⟨rfl, bW.st hbn⟩
end Go.Proofs.Ytppnkepjipglgaa
