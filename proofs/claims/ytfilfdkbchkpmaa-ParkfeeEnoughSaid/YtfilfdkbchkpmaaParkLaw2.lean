/- The laws ParkfeeMore, ParkfeeEnough, walked. -/
import Derived.Test.YtfilfdkbchkpmaaParkLaw1
namespace Go.Proofs.Ytfilfdkbchkpmaa
open Go.RowKit Go.Lib

theorem stepX_le (n i : Nat) (p : Int) (x : Wn) : stepX n i p x ≤ 15 := by
  unfold stepX
  split
  · omega
  · split
    · split <;> omega
    · split
      · omega
      · split <;> omega
theorem firstE_le {f : Nat → Int} {n : Nat} {b : Int} (hb : 0 ≤ b) (h : ∀ j, f j ≤ b) : firstE f n ≤ b := by
  unfold firstE
  cases hf : ((List.range n).map f).find? fun e => decide (e ≠ 0) with
  | none => simpa using hb
  | some e =>
    have := List.mem_of_find?_eq_some hf
    rw [List.mem_map] at this
    obtain ⟨j, _, rfl⟩ := this
    exact h j
theorem checkE_le (z : Zn) : checkE z ≤ 15 := by
  have h : stepsE z.ss ≤ 15 := by
    unfold stepsE
    split
    · omega
    · split
      · omega
      · refine firstE_le (by omega) fun j => ?_
        unfold stepE
        cases z.ss[j]? with
        | none => simp
        | some x => exact stepX_le _ _ _ _
  have h2 : tailE z ≤ 15 := by
    unfold tailE
    split
    · omega
    · split <;> omega
  unfold checkE
  split
  · omega
  · split
    · omega
    · split
      · omega
      · split
        · exact h
        · exact h2
theorem longE0_le (z : Zn) (f c : Int) : longE0 z f c ≤ 15 := by
  have := checkE_le z
  unfold longE0
  split
  · omega
  · split
    · omega
    · split <;> omega
def EnR (z : Zn) (f c n r : Int) : Prop :=
  (r = 27 → 0 ≤ f ∧ f < 68719476736 ∧ (feeE z f (f + 1) = 0 → c < feeS z f (f + 1))) ∧ (r ≠ 27 → r ≠ 0 → n = 0) ∧
  (r = 0 → 0 ≤ f ∧ f < n ∧ n ≤ 68719476736 ∧ feeE z f n = 0 ∧ feeS z f n ≤ c ∧ (0 < z.maxStay → n - f ≤ z.maxStay) ∧ 0 ≤ z.maxStay ∧ z.maxStay ≤ 68719476736 ∧ (feeE z f (n + 1) = 0 → feeS z f (n + 1) ≤ c → 0 < z.maxStay ∧ n - f = z.maxStay))
theorem EnR.of {z : Zn} {f c n r : Int} (h : LongR z f c n r) : EnR z f c n r := by
  by_cases h0 : longE0 z f c = 0
  · obtain ⟨hc, hf0, hf1, hm0, hm1⟩ := longE0_ok h0
    obtain ⟨k, hk, k0, k1⟩ := h.2 h0
    obtain ⟨l1, l2, l3⟩ := limZ_range z hf0 hf1
    have hst := check_st hc
    by_cases hk0 : k = 0
    · obtain ⟨rfl, rfl⟩ := k0 hk0
      refine ⟨fun _ => ⟨hf0, hf1, fun e => ?_⟩, fun q => absurd rfl q, fun q => absurd q (by omega)⟩
      have := hk.2.2.2 (by omega)
      rw [hk0, show f + 0 + 1 = f + 1 by omega] at this
      unfold paid at this
      have := fun q => this ⟨e, q⟩
      omega
    · obtain ⟨rfl, rfl⟩ := k1 hk0
      have hp := hk.2.2.1 (by have := hk.1; omega)
      have hk1 := hk.1
      have hk2 := hk.2.1
      refine ⟨fun q => absurd q (by omega), fun _ q => absurd rfl q, fun _ => ⟨hf0, by omega, by omega, hp.1, hp.2, fun q => ?_, hst.2.2.2.1, hst.2.2.2.2.1, fun e q => ?_⟩⟩
      · unfold limZ at hk2
        rw [if_pos q] at hk2
        omega
      · by_cases hl : k < limZ z f - f
        · exact absurd ⟨e, q⟩ (hk.2.2.2 hl)
        · have hd := (daysE_rng (dayE_ok (feeE_ok e).1).2.1)
          unfold limZ at hl
          split at hl
          · rename_i hms
            have : f + k + 1 - 1 = f + k := by omega
            rw [this] at hd
            refine ⟨hms, ?_⟩
            unfold limZ at hk2
            rw [if_pos hms] at hk2
            omega
          · omega
  · obtain ⟨rfl, rfl⟩ := h.1 h0
    have := longE0_le z f c
    exact ⟨fun q => absurd q (by omega), fun _ _ => rfl, fun q => absurd q h0⟩
theorem feeN_no {z : Zn} {a b : Int} (h : feeE z a b ≠ 0) : feeN z a b = 0 := by unfold feeN; rw [if_neg h]

set_option maxRecDepth 100000 in
set_option maxHeartbeats 8000000 in
theorem parkfeeEnough_walk (z : Zn) (f c : Int) {w : World} (h : ZOk w z) :
    Calls Try.prog 9 #[ZV z, .int .i64 f, .int .i64 c] w fun e w' => e = .returned (.bool true) ∧ Below w.heap.size w w' := by
  have CM := Lib.hid (fun W (_ : Below w.heap.size w W) => small_any z W)
  have C1 := Lib.hid (fun (hh : z.hs.length ≤ 40) W (hW : Below w.heap.size w W) => plongest_any z f c (h.st hW) (by omega))
  have C2 := Lib.hid (fun (hh : z.hs.length ≤ 40) (t : Int) W (hW : Below w.heap.size w W) => pfee_any z f t (h.st hW) (by omega))
  have HE := Lib.hid (fun n r (h : LongR z f c n r) => EnR.of h)
  have HY := Lib.hid (fun t (h : feeE z f t = 0) => fee_yes h)
  have HN := Lib.hid (fun t (h : feeE z f t ≠ 0) => feeN_no h)
  unfold EnR at HE
  generalize LongR z f c = LR at *
  generalize feeE z f = FE at *
  generalize feeN z f = FN at *
  generalize feeS z f = FS at *
  clear h
  cases hg : smallB z
  · rw [hg] at CM
    clear hg C1 C2
    obtain ⟨nm, hA, hc', hs, sA, sc, ss, gr, fr, dm, ms⟩ := z
    simp only [ZV] at *
    obtain ⟨Y1, hY1⟩ : ∃ Y, w.alloc (.cells #[.string nm, .slice hA hs.length hc', .slice sA ss.length sc, .int .i64 gr, .int .i64 fr, .int .i64 dm, .int .i64 ms] 25) = Y := ⟨_, rfl⟩; have bW : Below w.heap.size w Y1 := (by rw [← hY1]; exact (Below.refl _ w).al _); have bZ : Blk Y1 w.heap.size #[.string nm, .slice hA hs.length hc', .slice sA ss.length sc, .int .i64 gr, .int .i64 fr, .int .i64 dm, .int .i64 ms] 25 := (by rw [← hY1]; exact Blk.new w _ _); have q0 : World.cell? Y1 ⟨w.heap.size, 0, none⟩ = some (.string nm) := bZ.cell 0 rfl; have q1 : World.cell? Y1 ⟨w.heap.size, 1, none⟩ = some (.slice hA hs.length hc') := bZ.cell 1 rfl; have q2 : World.cell? Y1 ⟨w.heap.size, 2, none⟩ = some (.slice sA ss.length sc) := bZ.cell 2 rfl; have q3 : World.cell? Y1 ⟨w.heap.size, 3, none⟩ = some (.int .i64 gr) := bZ.cell 3 rfl; have q4 : World.cell? Y1 ⟨w.heap.size, 4, none⟩ = some (.int .i64 fr) := bZ.cell 4 rfl; have q5 : World.cell? Y1 ⟨w.heap.size, 5, none⟩ = some (.int .i64 dm) := bZ.cell 5 rfl; have q6 : World.cell? Y1 ⟨w.heap.size, 6, none⟩ = some (.int .i64 ms) := bZ.cell 6 rfl
    go_enter Try.func9, Try.ntmps9
    go_wp2_with fail; refine (CM.out _ bW).mono ?_; rintro e wn ⟨rfl, hbn⟩; have bW : Below w.heap.size w wn := (by first | exact bW.st hbn | exact bW.drew.st hbn); have bZ : Blk wn w.heap.size #[.string nm, .slice hA hs.length hc', .slice sA ss.length sc, .int .i64 gr, .int .i64 fr, .int .i64 dm, .int .i64 ms] 25 := (by first | exact bZ.below hbn bZ.lt | exact bZ.drew.below hbn bZ.lt); have q0 : World.cell? wn ⟨w.heap.size, 0, none⟩ = some (.string nm) := bZ.cell 0 rfl; have q1 : World.cell? wn ⟨w.heap.size, 1, none⟩ = some (.slice hA hs.length hc') := bZ.cell 1 rfl; have q2 : World.cell? wn ⟨w.heap.size, 2, none⟩ = some (.slice sA ss.length sc) := bZ.cell 2 rfl; have q3 : World.cell? wn ⟨w.heap.size, 3, none⟩ = some (.int .i64 gr) := bZ.cell 3 rfl; have q4 : World.cell? wn ⟨w.heap.size, 4, none⟩ = some (.int .i64 fr) := bZ.cell 4 rfl; have q5 : World.cell? wn ⟨w.heap.size, 5, none⟩ = some (.int .i64 dm) := bZ.cell 5 rfl; have q6 : World.cell? wn ⟨w.heap.size, 6, none⟩ = some (.int .i64 ms) := bZ.cell 6 rfl
    go_wp2
    go_ret
    exact ⟨rfl, bW⟩
  · rw [hg] at CM
    have C1 := Lib.hid (C1.out (smallB_yes hg).1)
    have C2 := Lib.hid (C2.out (smallB_yes hg).1)
    clear hg
    obtain ⟨nm, hA, hc', hs, sA, sc, ss, gr, fr, dm, ms⟩ := z
    simp only [ZV] at *
    obtain ⟨Y1, hY1⟩ : ∃ Y, w.alloc (.cells #[.string nm, .slice hA hs.length hc', .slice sA ss.length sc, .int .i64 gr, .int .i64 fr, .int .i64 dm, .int .i64 ms] 25) = Y := ⟨_, rfl⟩; have bW : Below w.heap.size w Y1 := (by rw [← hY1]; exact (Below.refl _ w).al _); have bZ : Blk Y1 w.heap.size #[.string nm, .slice hA hs.length hc', .slice sA ss.length sc, .int .i64 gr, .int .i64 fr, .int .i64 dm, .int .i64 ms] 25 := (by rw [← hY1]; exact Blk.new w _ _); have q0 : World.cell? Y1 ⟨w.heap.size, 0, none⟩ = some (.string nm) := bZ.cell 0 rfl; have q1 : World.cell? Y1 ⟨w.heap.size, 1, none⟩ = some (.slice hA hs.length hc') := bZ.cell 1 rfl; have q2 : World.cell? Y1 ⟨w.heap.size, 2, none⟩ = some (.slice sA ss.length sc) := bZ.cell 2 rfl; have q3 : World.cell? Y1 ⟨w.heap.size, 3, none⟩ = some (.int .i64 gr) := bZ.cell 3 rfl; have q4 : World.cell? Y1 ⟨w.heap.size, 4, none⟩ = some (.int .i64 fr) := bZ.cell 4 rfl; have q5 : World.cell? Y1 ⟨w.heap.size, 5, none⟩ = some (.int .i64 dm) := bZ.cell 5 rfl; have q6 : World.cell? Y1 ⟨w.heap.size, 6, none⟩ = some (.int .i64 ms) := bZ.cell 6 rfl
    go_enter Try.func9, Try.ntmps9
    go_wp2_with fail; refine (CM.out _ bW).mono ?_; rintro e wn ⟨rfl, hbn⟩; have bW : Below w.heap.size w wn := (by first | exact bW.st hbn | exact bW.drew.st hbn); have bZ : Blk wn w.heap.size #[.string nm, .slice hA hs.length hc', .slice sA ss.length sc, .int .i64 gr, .int .i64 fr, .int .i64 dm, .int .i64 ms] 25 := (by first | exact bZ.below hbn bZ.lt | exact bZ.drew.below hbn bZ.lt); have q0 : World.cell? wn ⟨w.heap.size, 0, none⟩ = some (.string nm) := bZ.cell 0 rfl; have q1 : World.cell? wn ⟨w.heap.size, 1, none⟩ = some (.slice hA hs.length hc') := bZ.cell 1 rfl; have q2 : World.cell? wn ⟨w.heap.size, 2, none⟩ = some (.slice sA ss.length sc) := bZ.cell 2 rfl; have q3 : World.cell? wn ⟨w.heap.size, 3, none⟩ = some (.int .i64 gr) := bZ.cell 3 rfl; have q4 : World.cell? wn ⟨w.heap.size, 4, none⟩ = some (.int .i64 fr) := bZ.cell 4 rfl; have q5 : World.cell? wn ⟨w.heap.size, 5, none⟩ = some (.int .i64 dm) := bZ.cell 5 rfl; have q6 : World.cell? wn ⟨w.heap.size, 6, none⟩ = some (.int .i64 ms) := bZ.cell 6 rfl
    go_wp2_with fail
    refine (C1.out _ bW).mono ?_
    rintro e wn ⟨n, r, rfl, hL, hbn⟩
    have bW : Below w.heap.size w wn := (by first | exact bW.st hbn | exact bW.drew.st hbn); have bZ : Blk wn w.heap.size #[.string nm, .slice hA hs.length hc', .slice sA ss.length sc, .int .i64 gr, .int .i64 fr, .int .i64 dm, .int .i64 ms] 25 := (by first | exact bZ.below hbn bZ.lt | exact bZ.drew.below hbn bZ.lt); have q0 : World.cell? wn ⟨w.heap.size, 0, none⟩ = some (.string nm) := bZ.cell 0 rfl; have q1 : World.cell? wn ⟨w.heap.size, 1, none⟩ = some (.slice hA hs.length hc') := bZ.cell 1 rfl; have q2 : World.cell? wn ⟨w.heap.size, 2, none⟩ = some (.slice sA ss.length sc) := bZ.cell 2 rfl; have q3 : World.cell? wn ⟨w.heap.size, 3, none⟩ = some (.int .i64 gr) := bZ.cell 3 rfl; have q4 : World.cell? wn ⟨w.heap.size, 4, none⟩ = some (.int .i64 fr) := bZ.cell 4 rfl; have q5 : World.cell? wn ⟨w.heap.size, 5, none⟩ = some (.int .i64 dm) := bZ.cell 5 rfl; have q6 : World.cell? wn ⟨w.heap.size, 6, none⟩ = some (.int .i64 ms) := bZ.cell 6 rfl
    obtain ⟨a27, aN, a0⟩ := HE.out _ _ hL
    clear hL
    by_cases h27 : r = 27
    · subst h27
      obtain ⟨hf0, hf1, hp⟩ := a27 rfl
      clear a27 aN a0
      have C3 := Lib.hid (C2.out (f + 1))
      by_cases he : FE (f + 1) = 0
      · have hp2 := hp he
        have e2 := (HY.out _ he).1
        rw [he, e2] at C3
        clear hp he e2
        generalize FS (f + 1) = v at *
        go_wp2_with fail; refine (C3.out _ bW).mono ?_; rintro e wn ⟨rfl, hbn⟩; have bW : Below w.heap.size w wn := (by first | exact bW.st hbn | exact bW.drew.st hbn); have bZ : Blk wn w.heap.size #[.string nm, .slice hA hs.length hc', .slice sA ss.length sc, .int .i64 gr, .int .i64 fr, .int .i64 dm, .int .i64 ms] 25 := (by first | exact bZ.below hbn bZ.lt | exact bZ.drew.below hbn bZ.lt); have q0 : World.cell? wn ⟨w.heap.size, 0, none⟩ = some (.string nm) := bZ.cell 0 rfl; have q1 : World.cell? wn ⟨w.heap.size, 1, none⟩ = some (.slice hA hs.length hc') := bZ.cell 1 rfl; have q2 : World.cell? wn ⟨w.heap.size, 2, none⟩ = some (.slice sA ss.length sc) := bZ.cell 2 rfl; have q3 : World.cell? wn ⟨w.heap.size, 3, none⟩ = some (.int .i64 gr) := bZ.cell 3 rfl; have q4 : World.cell? wn ⟨w.heap.size, 4, none⟩ = some (.int .i64 fr) := bZ.cell 4 rfl; have q5 : World.cell? wn ⟨w.heap.size, 5, none⟩ = some (.int .i64 dm) := bZ.cell 5 rfl; have q6 : World.cell? wn ⟨w.heap.size, 6, none⟩ = some (.int .i64 ms) := bZ.cell 6 rfl
        go_wp2_with fail; refine (alive_any _).mono ?_; rintro e wl ⟨rfl, hbl⟩; have bL := bW.st hbl; go_wp2_with fail; go_ret; exact ⟨rfl, bL⟩
      · have e2 := HN.out _ he
        rw [e2] at C3
        clear hp e2
        generalize FE (f + 1) = v at *
        go_wp2_with fail; refine (C3.out _ bW).mono ?_; rintro e wn ⟨rfl, hbn⟩; have bW : Below w.heap.size w wn := (by first | exact bW.st hbn | exact bW.drew.st hbn); have bZ : Blk wn w.heap.size #[.string nm, .slice hA hs.length hc', .slice sA ss.length sc, .int .i64 gr, .int .i64 fr, .int .i64 dm, .int .i64 ms] 25 := (by first | exact bZ.below hbn bZ.lt | exact bZ.drew.below hbn bZ.lt); have q0 : World.cell? wn ⟨w.heap.size, 0, none⟩ = some (.string nm) := bZ.cell 0 rfl; have q1 : World.cell? wn ⟨w.heap.size, 1, none⟩ = some (.slice hA hs.length hc') := bZ.cell 1 rfl; have q2 : World.cell? wn ⟨w.heap.size, 2, none⟩ = some (.slice sA ss.length sc) := bZ.cell 2 rfl; have q3 : World.cell? wn ⟨w.heap.size, 3, none⟩ = some (.int .i64 gr) := bZ.cell 3 rfl; have q4 : World.cell? wn ⟨w.heap.size, 4, none⟩ = some (.int .i64 fr) := bZ.cell 4 rfl; have q5 : World.cell? wn ⟨w.heap.size, 5, none⟩ = some (.int .i64 dm) := bZ.cell 5 rfl; have q6 : World.cell? wn ⟨w.heap.size, 6, none⟩ = some (.int .i64 ms) := bZ.cell 6 rfl
        go_wp2_with fail; refine (alive_any _).mono ?_; rintro e wl ⟨rfl, hbl⟩; have bL := bW.st hbl; go_wp2_with fail; go_ret; exact ⟨rfl, bL⟩
    · by_cases hr : r = 0
      · subst hr
        obtain ⟨hf0, hf1, hf2, he, hs1, hm1, hm2, hm3, hp⟩ := a0 rfl
        clear a27 aN a0
        have C3 := Lib.hid (C2.out n)
        rw [he, (HY.out _ he).1] at C3
        have C4 := Lib.hid (C2.out (n + 1))
        clear he
        generalize FS n = v at *
        have HM := Lib.hid hm1
        clear hm1
        by_cases he2 : FE (n + 1) = 0
        · have e2 := (HY.out _ he2).1
          rw [he2, e2] at C4
          have hp2 := Lib.hid (hp he2)
          clear hp he2 e2
          generalize FS (n + 1) = u at *
          by_cases hu : u ≤ c
          · obtain ⟨m1, m2⟩ := hp2.out hu
            clear hp2
            have hm4 : ¬ ms < n - f := by omega
            go_wp2_with fail; refine (C3.out _ bW).mono ?_; rintro e wn ⟨rfl, hbn⟩; have bW : Below w.heap.size w wn := (by first | exact bW.st hbn | exact bW.drew.st hbn); have bZ : Blk wn w.heap.size #[.string nm, .slice hA hs.length hc', .slice sA ss.length sc, .int .i64 gr, .int .i64 fr, .int .i64 dm, .int .i64 ms] 25 := (by first | exact bZ.below hbn bZ.lt | exact bZ.drew.below hbn bZ.lt); have q0 : World.cell? wn ⟨w.heap.size, 0, none⟩ = some (.string nm) := bZ.cell 0 rfl; have q1 : World.cell? wn ⟨w.heap.size, 1, none⟩ = some (.slice hA hs.length hc') := bZ.cell 1 rfl; have q2 : World.cell? wn ⟨w.heap.size, 2, none⟩ = some (.slice sA ss.length sc) := bZ.cell 2 rfl; have q3 : World.cell? wn ⟨w.heap.size, 3, none⟩ = some (.int .i64 gr) := bZ.cell 3 rfl; have q4 : World.cell? wn ⟨w.heap.size, 4, none⟩ = some (.int .i64 fr) := bZ.cell 4 rfl; have q5 : World.cell? wn ⟨w.heap.size, 5, none⟩ = some (.int .i64 dm) := bZ.cell 5 rfl; have q6 : World.cell? wn ⟨w.heap.size, 6, none⟩ = some (.int .i64 ms) := bZ.cell 6 rfl
            go_wp2_with fail; refine (C4.out _ bW).mono ?_; rintro e wn ⟨rfl, hbn⟩; have bW : Below w.heap.size w wn := (by first | exact bW.st hbn | exact bW.drew.st hbn); have bZ : Blk wn w.heap.size #[.string nm, .slice hA hs.length hc', .slice sA ss.length sc, .int .i64 gr, .int .i64 fr, .int .i64 dm, .int .i64 ms] 25 := (by first | exact bZ.below hbn bZ.lt | exact bZ.drew.below hbn bZ.lt); have q0 : World.cell? wn ⟨w.heap.size, 0, none⟩ = some (.string nm) := bZ.cell 0 rfl; have q1 : World.cell? wn ⟨w.heap.size, 1, none⟩ = some (.slice hA hs.length hc') := bZ.cell 1 rfl; have q2 : World.cell? wn ⟨w.heap.size, 2, none⟩ = some (.slice sA ss.length sc) := bZ.cell 2 rfl; have q3 : World.cell? wn ⟨w.heap.size, 3, none⟩ = some (.int .i64 gr) := bZ.cell 3 rfl; have q4 : World.cell? wn ⟨w.heap.size, 4, none⟩ = some (.int .i64 fr) := bZ.cell 4 rfl; have q5 : World.cell? wn ⟨w.heap.size, 5, none⟩ = some (.int .i64 dm) := bZ.cell 5 rfl; have q6 : World.cell? wn ⟨w.heap.size, 6, none⟩ = some (.int .i64 ms) := bZ.cell 6 rfl
            go_wp2_with fail; refine (alive_any _).mono ?_; rintro e wl ⟨rfl, hbl⟩; have bL := bW.st hbl; go_wp2_with fail; go_ret; exact ⟨rfl, bL⟩
          · by_cases hms : 0 < ms
            · have hm4 : ¬ ms < n - f := by have := HM.out hms; omega
              go_wp2_with fail; refine (C3.out _ bW).mono ?_; rintro e wn ⟨rfl, hbn⟩; have bW : Below w.heap.size w wn := (by first | exact bW.st hbn | exact bW.drew.st hbn); have bZ : Blk wn w.heap.size #[.string nm, .slice hA hs.length hc', .slice sA ss.length sc, .int .i64 gr, .int .i64 fr, .int .i64 dm, .int .i64 ms] 25 := (by first | exact bZ.below hbn bZ.lt | exact bZ.drew.below hbn bZ.lt); have q0 : World.cell? wn ⟨w.heap.size, 0, none⟩ = some (.string nm) := bZ.cell 0 rfl; have q1 : World.cell? wn ⟨w.heap.size, 1, none⟩ = some (.slice hA hs.length hc') := bZ.cell 1 rfl; have q2 : World.cell? wn ⟨w.heap.size, 2, none⟩ = some (.slice sA ss.length sc) := bZ.cell 2 rfl; have q3 : World.cell? wn ⟨w.heap.size, 3, none⟩ = some (.int .i64 gr) := bZ.cell 3 rfl; have q4 : World.cell? wn ⟨w.heap.size, 4, none⟩ = some (.int .i64 fr) := bZ.cell 4 rfl; have q5 : World.cell? wn ⟨w.heap.size, 5, none⟩ = some (.int .i64 dm) := bZ.cell 5 rfl; have q6 : World.cell? wn ⟨w.heap.size, 6, none⟩ = some (.int .i64 ms) := bZ.cell 6 rfl
              go_wp2_with fail; refine (C4.out _ bW).mono ?_; rintro e wn ⟨rfl, hbn⟩; have bW : Below w.heap.size w wn := (by first | exact bW.st hbn | exact bW.drew.st hbn); have bZ : Blk wn w.heap.size #[.string nm, .slice hA hs.length hc', .slice sA ss.length sc, .int .i64 gr, .int .i64 fr, .int .i64 dm, .int .i64 ms] 25 := (by first | exact bZ.below hbn bZ.lt | exact bZ.drew.below hbn bZ.lt); have q0 : World.cell? wn ⟨w.heap.size, 0, none⟩ = some (.string nm) := bZ.cell 0 rfl; have q1 : World.cell? wn ⟨w.heap.size, 1, none⟩ = some (.slice hA hs.length hc') := bZ.cell 1 rfl; have q2 : World.cell? wn ⟨w.heap.size, 2, none⟩ = some (.slice sA ss.length sc) := bZ.cell 2 rfl; have q3 : World.cell? wn ⟨w.heap.size, 3, none⟩ = some (.int .i64 gr) := bZ.cell 3 rfl; have q4 : World.cell? wn ⟨w.heap.size, 4, none⟩ = some (.int .i64 fr) := bZ.cell 4 rfl; have q5 : World.cell? wn ⟨w.heap.size, 5, none⟩ = some (.int .i64 dm) := bZ.cell 5 rfl; have q6 : World.cell? wn ⟨w.heap.size, 6, none⟩ = some (.int .i64 ms) := bZ.cell 6 rfl
              go_wp2_with fail; refine (alive_any _).mono ?_; rintro e wl ⟨rfl, hbl⟩; have bL := bW.st hbl; go_wp2_with fail; go_ret; exact ⟨rfl, bL⟩
            · go_wp2_with fail; refine (C3.out _ bW).mono ?_; rintro e wn ⟨rfl, hbn⟩; have bW : Below w.heap.size w wn := (by first | exact bW.st hbn | exact bW.drew.st hbn); have bZ : Blk wn w.heap.size #[.string nm, .slice hA hs.length hc', .slice sA ss.length sc, .int .i64 gr, .int .i64 fr, .int .i64 dm, .int .i64 ms] 25 := (by first | exact bZ.below hbn bZ.lt | exact bZ.drew.below hbn bZ.lt); have q0 : World.cell? wn ⟨w.heap.size, 0, none⟩ = some (.string nm) := bZ.cell 0 rfl; have q1 : World.cell? wn ⟨w.heap.size, 1, none⟩ = some (.slice hA hs.length hc') := bZ.cell 1 rfl; have q2 : World.cell? wn ⟨w.heap.size, 2, none⟩ = some (.slice sA ss.length sc) := bZ.cell 2 rfl; have q3 : World.cell? wn ⟨w.heap.size, 3, none⟩ = some (.int .i64 gr) := bZ.cell 3 rfl; have q4 : World.cell? wn ⟨w.heap.size, 4, none⟩ = some (.int .i64 fr) := bZ.cell 4 rfl; have q5 : World.cell? wn ⟨w.heap.size, 5, none⟩ = some (.int .i64 dm) := bZ.cell 5 rfl; have q6 : World.cell? wn ⟨w.heap.size, 6, none⟩ = some (.int .i64 ms) := bZ.cell 6 rfl
              go_wp2_with fail; refine (C4.out _ bW).mono ?_; rintro e wn ⟨rfl, hbn⟩; have bW : Below w.heap.size w wn := (by first | exact bW.st hbn | exact bW.drew.st hbn); have bZ : Blk wn w.heap.size #[.string nm, .slice hA hs.length hc', .slice sA ss.length sc, .int .i64 gr, .int .i64 fr, .int .i64 dm, .int .i64 ms] 25 := (by first | exact bZ.below hbn bZ.lt | exact bZ.drew.below hbn bZ.lt); have q0 : World.cell? wn ⟨w.heap.size, 0, none⟩ = some (.string nm) := bZ.cell 0 rfl; have q1 : World.cell? wn ⟨w.heap.size, 1, none⟩ = some (.slice hA hs.length hc') := bZ.cell 1 rfl; have q2 : World.cell? wn ⟨w.heap.size, 2, none⟩ = some (.slice sA ss.length sc) := bZ.cell 2 rfl; have q3 : World.cell? wn ⟨w.heap.size, 3, none⟩ = some (.int .i64 gr) := bZ.cell 3 rfl; have q4 : World.cell? wn ⟨w.heap.size, 4, none⟩ = some (.int .i64 fr) := bZ.cell 4 rfl; have q5 : World.cell? wn ⟨w.heap.size, 5, none⟩ = some (.int .i64 dm) := bZ.cell 5 rfl; have q6 : World.cell? wn ⟨w.heap.size, 6, none⟩ = some (.int .i64 ms) := bZ.cell 6 rfl
              go_wp2_with fail; refine (alive_any _).mono ?_; rintro e wl ⟨rfl, hbl⟩; have bL := bW.st hbl; go_wp2_with fail; go_ret; exact ⟨rfl, bL⟩
        · have e2 := HN.out _ he2
          rw [e2] at C4
          clear hp e2
          generalize FE (n + 1) = u at *
          by_cases hms : 0 < ms
          · have hm4 : ¬ ms < n - f := by have := HM.out hms; omega
            go_wp2_with fail; refine (C3.out _ bW).mono ?_; rintro e wn ⟨rfl, hbn⟩; have bW : Below w.heap.size w wn := (by first | exact bW.st hbn | exact bW.drew.st hbn); have bZ : Blk wn w.heap.size #[.string nm, .slice hA hs.length hc', .slice sA ss.length sc, .int .i64 gr, .int .i64 fr, .int .i64 dm, .int .i64 ms] 25 := (by first | exact bZ.below hbn bZ.lt | exact bZ.drew.below hbn bZ.lt); have q0 : World.cell? wn ⟨w.heap.size, 0, none⟩ = some (.string nm) := bZ.cell 0 rfl; have q1 : World.cell? wn ⟨w.heap.size, 1, none⟩ = some (.slice hA hs.length hc') := bZ.cell 1 rfl; have q2 : World.cell? wn ⟨w.heap.size, 2, none⟩ = some (.slice sA ss.length sc) := bZ.cell 2 rfl; have q3 : World.cell? wn ⟨w.heap.size, 3, none⟩ = some (.int .i64 gr) := bZ.cell 3 rfl; have q4 : World.cell? wn ⟨w.heap.size, 4, none⟩ = some (.int .i64 fr) := bZ.cell 4 rfl; have q5 : World.cell? wn ⟨w.heap.size, 5, none⟩ = some (.int .i64 dm) := bZ.cell 5 rfl; have q6 : World.cell? wn ⟨w.heap.size, 6, none⟩ = some (.int .i64 ms) := bZ.cell 6 rfl
            go_wp2_with fail; refine (C4.out _ bW).mono ?_; rintro e wn ⟨rfl, hbn⟩; have bW : Below w.heap.size w wn := (by first | exact bW.st hbn | exact bW.drew.st hbn); have bZ : Blk wn w.heap.size #[.string nm, .slice hA hs.length hc', .slice sA ss.length sc, .int .i64 gr, .int .i64 fr, .int .i64 dm, .int .i64 ms] 25 := (by first | exact bZ.below hbn bZ.lt | exact bZ.drew.below hbn bZ.lt); have q0 : World.cell? wn ⟨w.heap.size, 0, none⟩ = some (.string nm) := bZ.cell 0 rfl; have q1 : World.cell? wn ⟨w.heap.size, 1, none⟩ = some (.slice hA hs.length hc') := bZ.cell 1 rfl; have q2 : World.cell? wn ⟨w.heap.size, 2, none⟩ = some (.slice sA ss.length sc) := bZ.cell 2 rfl; have q3 : World.cell? wn ⟨w.heap.size, 3, none⟩ = some (.int .i64 gr) := bZ.cell 3 rfl; have q4 : World.cell? wn ⟨w.heap.size, 4, none⟩ = some (.int .i64 fr) := bZ.cell 4 rfl; have q5 : World.cell? wn ⟨w.heap.size, 5, none⟩ = some (.int .i64 dm) := bZ.cell 5 rfl; have q6 : World.cell? wn ⟨w.heap.size, 6, none⟩ = some (.int .i64 ms) := bZ.cell 6 rfl
            go_wp2_with fail; refine (alive_any _).mono ?_; rintro e wl ⟨rfl, hbl⟩; have bL := bW.st hbl; go_wp2_with fail; go_ret; exact ⟨rfl, bL⟩
          · go_wp2_with fail; refine (C3.out _ bW).mono ?_; rintro e wn ⟨rfl, hbn⟩; have bW : Below w.heap.size w wn := (by first | exact bW.st hbn | exact bW.drew.st hbn); have bZ : Blk wn w.heap.size #[.string nm, .slice hA hs.length hc', .slice sA ss.length sc, .int .i64 gr, .int .i64 fr, .int .i64 dm, .int .i64 ms] 25 := (by first | exact bZ.below hbn bZ.lt | exact bZ.drew.below hbn bZ.lt); have q0 : World.cell? wn ⟨w.heap.size, 0, none⟩ = some (.string nm) := bZ.cell 0 rfl; have q1 : World.cell? wn ⟨w.heap.size, 1, none⟩ = some (.slice hA hs.length hc') := bZ.cell 1 rfl; have q2 : World.cell? wn ⟨w.heap.size, 2, none⟩ = some (.slice sA ss.length sc) := bZ.cell 2 rfl; have q3 : World.cell? wn ⟨w.heap.size, 3, none⟩ = some (.int .i64 gr) := bZ.cell 3 rfl; have q4 : World.cell? wn ⟨w.heap.size, 4, none⟩ = some (.int .i64 fr) := bZ.cell 4 rfl; have q5 : World.cell? wn ⟨w.heap.size, 5, none⟩ = some (.int .i64 dm) := bZ.cell 5 rfl; have q6 : World.cell? wn ⟨w.heap.size, 6, none⟩ = some (.int .i64 ms) := bZ.cell 6 rfl
            go_wp2_with fail; refine (C4.out _ bW).mono ?_; rintro e wn ⟨rfl, hbn⟩; have bW : Below w.heap.size w wn := (by first | exact bW.st hbn | exact bW.drew.st hbn); have bZ : Blk wn w.heap.size #[.string nm, .slice hA hs.length hc', .slice sA ss.length sc, .int .i64 gr, .int .i64 fr, .int .i64 dm, .int .i64 ms] 25 := (by first | exact bZ.below hbn bZ.lt | exact bZ.drew.below hbn bZ.lt); have q0 : World.cell? wn ⟨w.heap.size, 0, none⟩ = some (.string nm) := bZ.cell 0 rfl; have q1 : World.cell? wn ⟨w.heap.size, 1, none⟩ = some (.slice hA hs.length hc') := bZ.cell 1 rfl; have q2 : World.cell? wn ⟨w.heap.size, 2, none⟩ = some (.slice sA ss.length sc) := bZ.cell 2 rfl; have q3 : World.cell? wn ⟨w.heap.size, 3, none⟩ = some (.int .i64 gr) := bZ.cell 3 rfl; have q4 : World.cell? wn ⟨w.heap.size, 4, none⟩ = some (.int .i64 fr) := bZ.cell 4 rfl; have q5 : World.cell? wn ⟨w.heap.size, 5, none⟩ = some (.int .i64 dm) := bZ.cell 5 rfl; have q6 : World.cell? wn ⟨w.heap.size, 6, none⟩ = some (.int .i64 ms) := bZ.cell 6 rfl
            go_wp2_with fail; refine (alive_any _).mono ?_; rintro e wl ⟨rfl, hbl⟩; have bL := bW.st hbl; go_wp2_with fail; go_ret; exact ⟨rfl, bL⟩
      · obtain rfl := aN h27 hr
        clear a27 aN a0
        go_wp2_with fail; refine (alive_any _).mono ?_; rintro e wl ⟨rfl, hbl⟩; have bL := bW.st hbl; go_wp2_with fail; go_ret; exact ⟨rfl, bL⟩

theorem steps_more {z : Zn} {s t : Int} (hc : checkE z = 0) (h0 : 0 ≤ s) (h1 : s ≤ t) (h2 : t ≤ 68719476736) (h : stepsPE z t = 0) : stepsPE z s = 0 ∧ 0 ≤ stepsPN z s ∧ stepsPN z s ≤ stepsPN z t := by
  have St := (check_st hc).1
  have hv : V z.ss t ≤ 1125899906842624 := by
    unfold stepsPE at h
    rw [if_neg (by simp [hc]), if_neg (by omega)] at h
    split at h
    · cases h
    · omega
  have m := V_mono St h1
  have p := V_nonneg St s
  obtain ⟨a, b⟩ := stepsP_0 hc (s := t) ⟨by omega, h2⟩ hv
  obtain ⟨a', b'⟩ := stepsP_0 hc (s := s) ⟨h0, by omega⟩ (by omega)
  omega

set_option maxRecDepth 100000 in
set_option maxHeartbeats 8000000 in
theorem parkfeeMore_walk (z : Zn) (a b t : Int) {w : World} (h : ZOk w z) :
    Calls Try.prog 7 #[ZV z, .agg #[.int .i64 a, .int .i64 b], .int .i64 t] w fun e w' => e = .returned (.bool true) ∧ Below w.heap.size w w' := by
  have CM := Lib.hid (fun W (_ : Below w.heap.size w W) => small_any z W)
  cases hg : smallB z
  · rw [hg] at CM
    clear hg h
    obtain ⟨nm, hA, hc', hs, sA, sc, ss, gr, fr, dm, ms⟩ := z
    simp only [ZV] at *
    obtain ⟨Y1, hY1⟩ : ∃ Y, w.alloc (.cells #[.string nm, .slice hA hs.length hc', .slice sA ss.length sc, .int .i64 gr, .int .i64 fr, .int .i64 dm, .int .i64 ms] 25) = Y := ⟨_, rfl⟩; obtain ⟨Y2, hY2⟩ : ∃ Y, Y1.alloc (.cells #[.int .i64 a, .int .i64 b] 35) = Y := ⟨_, rfl⟩; have bW : Below w.heap.size w Y2 := (by rw [← hY2, ← hY1]; exact ((Below.refl _ w).al _).al _); have sY1 : Y1.heap.size = w.heap.size + 1 := (by rw [← hY1]; simp); have bZ : Blk Y2 w.heap.size #[.string nm, .slice hA hs.length hc', .slice sA ss.length sc, .int .i64 gr, .int .i64 fr, .int .i64 dm, .int .i64 ms] 25 := (by rw [← hY2, ← hY1]; exact (Blk.new w _ _).alloc _); have bI : Blk Y2 (w.heap.size + 1) #[.int .i64 a, .int .i64 b] 35 := (by rw [← hY2, ← sY1]; exact Blk.new Y1 _ _); have q0 : World.cell? Y2 ⟨w.heap.size, 0, none⟩ = some (.string nm) := bZ.cell 0 rfl; have q1 : World.cell? Y2 ⟨w.heap.size, 1, none⟩ = some (.slice hA hs.length hc') := bZ.cell 1 rfl; have q2 : World.cell? Y2 ⟨w.heap.size, 2, none⟩ = some (.slice sA ss.length sc) := bZ.cell 2 rfl; have q3 : World.cell? Y2 ⟨w.heap.size, 3, none⟩ = some (.int .i64 gr) := bZ.cell 3 rfl; have q4 : World.cell? Y2 ⟨w.heap.size, 4, none⟩ = some (.int .i64 fr) := bZ.cell 4 rfl; have q5 : World.cell? Y2 ⟨w.heap.size, 5, none⟩ = some (.int .i64 dm) := bZ.cell 5 rfl; have q6 : World.cell? Y2 ⟨w.heap.size, 6, none⟩ = some (.int .i64 ms) := bZ.cell 6 rfl; have p0 : World.cell? Y2 ⟨w.heap.size + 1, 0, none⟩ = some (.int .i64 a) := bI.cell 0 rfl; have p1 : World.cell? Y2 ⟨w.heap.size + 1, 1, none⟩ = some (.int .i64 b) := bI.cell 1 rfl
    go_enter Try.func7, Try.ntmps7
    go_wp2_with fail; refine (CM.out _ bW).mono ?_; rintro e wn ⟨rfl, hbn⟩; have bW : Below w.heap.size w wn := (by first | exact bW.st hbn | exact bW.drew.st hbn); have bZ : Blk wn w.heap.size #[.string nm, .slice hA hs.length hc', .slice sA ss.length sc, .int .i64 gr, .int .i64 fr, .int .i64 dm, .int .i64 ms] 25 := (by first | exact bZ.below hbn bZ.lt | exact bZ.drew.below hbn bZ.lt); have bI : Blk wn (w.heap.size + 1) #[.int .i64 a, .int .i64 b] 35 := (by first | exact bI.below hbn bI.lt | exact bI.drew.below hbn bI.lt); have q0 : World.cell? wn ⟨w.heap.size, 0, none⟩ = some (.string nm) := bZ.cell 0 rfl; have q1 : World.cell? wn ⟨w.heap.size, 1, none⟩ = some (.slice hA hs.length hc') := bZ.cell 1 rfl; have q2 : World.cell? wn ⟨w.heap.size, 2, none⟩ = some (.slice sA ss.length sc) := bZ.cell 2 rfl; have q3 : World.cell? wn ⟨w.heap.size, 3, none⟩ = some (.int .i64 gr) := bZ.cell 3 rfl; have q4 : World.cell? wn ⟨w.heap.size, 4, none⟩ = some (.int .i64 fr) := bZ.cell 4 rfl; have q5 : World.cell? wn ⟨w.heap.size, 5, none⟩ = some (.int .i64 dm) := bZ.cell 5 rfl; have q6 : World.cell? wn ⟨w.heap.size, 6, none⟩ = some (.int .i64 ms) := bZ.cell 6 rfl; have p0 : World.cell? wn ⟨w.heap.size + 1, 0, none⟩ = some (.int .i64 a) := bI.cell 0 rfl; have p1 : World.cell? wn ⟨w.heap.size + 1, 1, none⟩ = some (.int .i64 b) := bI.cell 1 rfl
    go_wp2
    go_ret
    exact ⟨rfl, bW⟩
  · rw [hg] at CM
    have hh := (smallB_yes hg).1
    have C1 := Lib.hid (fun W (hW : Below w.heap.size w W) => pfee_any z a b (h.st hW) (by omega))
    clear hg
    by_cases he : feeE z a b = 0
    · by_cases ht : a < t ∧ t ≤ b
      · obtain ⟨ht1, ht2⟩ := ht
        obtain ⟨y1, y2, y3, y4⟩ := fee_yes he
        obtain ⟨g1, g2⟩ := feeE_sub he ht1 ht2
        obtain ⟨x1, x2, x3, x4⟩ := fee_yes g1
        obtain ⟨r1, r2⟩ := ref_s he ht1 ht2
        have hd := dayE_ok (feeE_ok he).1
        obtain ⟨hr0, hr1, hr2, _⟩ := daysE_rng hd.2.1
        have hS := Lib.hid (fun q => steps_more (z := z) (s := t - a) (t := b - a) hd.1 (by omega) (by omega) (by omega) q)
        have C2 := Lib.hid (fun W (hW : Below w.heap.size w W) => pfee_any z a t (h.st hW) (by omega))
        have C3 := Lib.hid (fun W (hW : Below w.heap.size w W) => prefund_any z a b t (h.st hW) (by omega))
        have C4 := Lib.hid (fun W (hW : Below w.heap.size w W) => psteps_any z (t - a) (h.st hW))
        have C5 := Lib.hid (fun W (hW : Below w.heap.size w W) => psteps_any z (b - a) (h.st hW))
        rw [y1, he] at C1
        rw [x1, g1] at C2
        rw [r1, r2] at C3
        clear he y1 y4 x1 x4 r1 r2 hd g1 h
        generalize feeS z a b = n1 at *
        generalize feeS z a t = m1 at *
        generalize stepsPE z (t - a) = e4 at *
        generalize stepsPN z (t - a) = n4 at *
        generalize stepsPE z (b - a) = e5 at *
        generalize stepsPN z (b - a) = n5 at *
        by_cases h5 : e5 = 0
        · obtain ⟨rfl, k1, k2⟩ := hS.out h5
          subst h5
          obtain ⟨nm, hA, hc', hs, sA, sc, ss, gr, fr, dm, ms⟩ := z
          simp only [ZV] at *
          obtain ⟨Y1, hY1⟩ : ∃ Y, w.alloc (.cells #[.string nm, .slice hA hs.length hc', .slice sA ss.length sc, .int .i64 gr, .int .i64 fr, .int .i64 dm, .int .i64 ms] 25) = Y := ⟨_, rfl⟩; obtain ⟨Y2, hY2⟩ : ∃ Y, Y1.alloc (.cells #[.int .i64 a, .int .i64 b] 35) = Y := ⟨_, rfl⟩; have bW : Below w.heap.size w Y2 := (by rw [← hY2, ← hY1]; exact ((Below.refl _ w).al _).al _); have sY1 : Y1.heap.size = w.heap.size + 1 := (by rw [← hY1]; simp); have bZ : Blk Y2 w.heap.size #[.string nm, .slice hA hs.length hc', .slice sA ss.length sc, .int .i64 gr, .int .i64 fr, .int .i64 dm, .int .i64 ms] 25 := (by rw [← hY2, ← hY1]; exact (Blk.new w _ _).alloc _); have bI : Blk Y2 (w.heap.size + 1) #[.int .i64 a, .int .i64 b] 35 := (by rw [← hY2, ← sY1]; exact Blk.new Y1 _ _); have q0 : World.cell? Y2 ⟨w.heap.size, 0, none⟩ = some (.string nm) := bZ.cell 0 rfl; have q1 : World.cell? Y2 ⟨w.heap.size, 1, none⟩ = some (.slice hA hs.length hc') := bZ.cell 1 rfl; have q2 : World.cell? Y2 ⟨w.heap.size, 2, none⟩ = some (.slice sA ss.length sc) := bZ.cell 2 rfl; have q3 : World.cell? Y2 ⟨w.heap.size, 3, none⟩ = some (.int .i64 gr) := bZ.cell 3 rfl; have q4 : World.cell? Y2 ⟨w.heap.size, 4, none⟩ = some (.int .i64 fr) := bZ.cell 4 rfl; have q5 : World.cell? Y2 ⟨w.heap.size, 5, none⟩ = some (.int .i64 dm) := bZ.cell 5 rfl; have q6 : World.cell? Y2 ⟨w.heap.size, 6, none⟩ = some (.int .i64 ms) := bZ.cell 6 rfl; have p0 : World.cell? Y2 ⟨w.heap.size + 1, 0, none⟩ = some (.int .i64 a) := bI.cell 0 rfl; have p1 : World.cell? Y2 ⟨w.heap.size + 1, 1, none⟩ = some (.int .i64 b) := bI.cell 1 rfl
          go_enter Try.func7, Try.ntmps7
          go_wp2_with fail; refine (CM.out _ bW).mono ?_; rintro e wn ⟨rfl, hbn⟩; have bW : Below w.heap.size w wn := (by first | exact bW.st hbn | exact bW.drew.st hbn); have bZ : Blk wn w.heap.size #[.string nm, .slice hA hs.length hc', .slice sA ss.length sc, .int .i64 gr, .int .i64 fr, .int .i64 dm, .int .i64 ms] 25 := (by first | exact bZ.below hbn bZ.lt | exact bZ.drew.below hbn bZ.lt); have bI : Blk wn (w.heap.size + 1) #[.int .i64 a, .int .i64 b] 35 := (by first | exact bI.below hbn bI.lt | exact bI.drew.below hbn bI.lt); have q0 : World.cell? wn ⟨w.heap.size, 0, none⟩ = some (.string nm) := bZ.cell 0 rfl; have q1 : World.cell? wn ⟨w.heap.size, 1, none⟩ = some (.slice hA hs.length hc') := bZ.cell 1 rfl; have q2 : World.cell? wn ⟨w.heap.size, 2, none⟩ = some (.slice sA ss.length sc) := bZ.cell 2 rfl; have q3 : World.cell? wn ⟨w.heap.size, 3, none⟩ = some (.int .i64 gr) := bZ.cell 3 rfl; have q4 : World.cell? wn ⟨w.heap.size, 4, none⟩ = some (.int .i64 fr) := bZ.cell 4 rfl; have q5 : World.cell? wn ⟨w.heap.size, 5, none⟩ = some (.int .i64 dm) := bZ.cell 5 rfl; have q6 : World.cell? wn ⟨w.heap.size, 6, none⟩ = some (.int .i64 ms) := bZ.cell 6 rfl; have p0 : World.cell? wn ⟨w.heap.size + 1, 0, none⟩ = some (.int .i64 a) := bI.cell 0 rfl; have p1 : World.cell? wn ⟨w.heap.size + 1, 1, none⟩ = some (.int .i64 b) := bI.cell 1 rfl
          go_wp2_with fail; refine (C1.out _ bW).mono ?_; rintro e wn ⟨rfl, hbn⟩; have bW : Below w.heap.size w wn := (by first | exact bW.st hbn | exact bW.drew.st hbn); have bZ : Blk wn w.heap.size #[.string nm, .slice hA hs.length hc', .slice sA ss.length sc, .int .i64 gr, .int .i64 fr, .int .i64 dm, .int .i64 ms] 25 := (by first | exact bZ.below hbn bZ.lt | exact bZ.drew.below hbn bZ.lt); have bI : Blk wn (w.heap.size + 1) #[.int .i64 a, .int .i64 b] 35 := (by first | exact bI.below hbn bI.lt | exact bI.drew.below hbn bI.lt); have q0 : World.cell? wn ⟨w.heap.size, 0, none⟩ = some (.string nm) := bZ.cell 0 rfl; have q1 : World.cell? wn ⟨w.heap.size, 1, none⟩ = some (.slice hA hs.length hc') := bZ.cell 1 rfl; have q2 : World.cell? wn ⟨w.heap.size, 2, none⟩ = some (.slice sA ss.length sc) := bZ.cell 2 rfl; have q3 : World.cell? wn ⟨w.heap.size, 3, none⟩ = some (.int .i64 gr) := bZ.cell 3 rfl; have q4 : World.cell? wn ⟨w.heap.size, 4, none⟩ = some (.int .i64 fr) := bZ.cell 4 rfl; have q5 : World.cell? wn ⟨w.heap.size, 5, none⟩ = some (.int .i64 dm) := bZ.cell 5 rfl; have q6 : World.cell? wn ⟨w.heap.size, 6, none⟩ = some (.int .i64 ms) := bZ.cell 6 rfl; have p0 : World.cell? wn ⟨w.heap.size + 1, 0, none⟩ = some (.int .i64 a) := bI.cell 0 rfl; have p1 : World.cell? wn ⟨w.heap.size + 1, 1, none⟩ = some (.int .i64 b) := bI.cell 1 rfl
          go_wp2_with fail; refine (C2.out _ bW).mono ?_; rintro e wn ⟨rfl, hbn⟩; have bW : Below w.heap.size w wn := (by first | exact bW.st hbn | exact bW.drew.st hbn); have bZ : Blk wn w.heap.size #[.string nm, .slice hA hs.length hc', .slice sA ss.length sc, .int .i64 gr, .int .i64 fr, .int .i64 dm, .int .i64 ms] 25 := (by first | exact bZ.below hbn bZ.lt | exact bZ.drew.below hbn bZ.lt); have bI : Blk wn (w.heap.size + 1) #[.int .i64 a, .int .i64 b] 35 := (by first | exact bI.below hbn bI.lt | exact bI.drew.below hbn bI.lt); have q0 : World.cell? wn ⟨w.heap.size, 0, none⟩ = some (.string nm) := bZ.cell 0 rfl; have q1 : World.cell? wn ⟨w.heap.size, 1, none⟩ = some (.slice hA hs.length hc') := bZ.cell 1 rfl; have q2 : World.cell? wn ⟨w.heap.size, 2, none⟩ = some (.slice sA ss.length sc) := bZ.cell 2 rfl; have q3 : World.cell? wn ⟨w.heap.size, 3, none⟩ = some (.int .i64 gr) := bZ.cell 3 rfl; have q4 : World.cell? wn ⟨w.heap.size, 4, none⟩ = some (.int .i64 fr) := bZ.cell 4 rfl; have q5 : World.cell? wn ⟨w.heap.size, 5, none⟩ = some (.int .i64 dm) := bZ.cell 5 rfl; have q6 : World.cell? wn ⟨w.heap.size, 6, none⟩ = some (.int .i64 ms) := bZ.cell 6 rfl; have p0 : World.cell? wn ⟨w.heap.size + 1, 0, none⟩ = some (.int .i64 a) := bI.cell 0 rfl; have p1 : World.cell? wn ⟨w.heap.size + 1, 1, none⟩ = some (.int .i64 b) := bI.cell 1 rfl
          go_wp2_with fail; refine (C3.out _ bW).mono ?_; rintro e wn ⟨rfl, hbn⟩; have bW : Below w.heap.size w wn := (by first | exact bW.st hbn | exact bW.drew.st hbn); have bZ : Blk wn w.heap.size #[.string nm, .slice hA hs.length hc', .slice sA ss.length sc, .int .i64 gr, .int .i64 fr, .int .i64 dm, .int .i64 ms] 25 := (by first | exact bZ.below hbn bZ.lt | exact bZ.drew.below hbn bZ.lt); have bI : Blk wn (w.heap.size + 1) #[.int .i64 a, .int .i64 b] 35 := (by first | exact bI.below hbn bI.lt | exact bI.drew.below hbn bI.lt); have q0 : World.cell? wn ⟨w.heap.size, 0, none⟩ = some (.string nm) := bZ.cell 0 rfl; have q1 : World.cell? wn ⟨w.heap.size, 1, none⟩ = some (.slice hA hs.length hc') := bZ.cell 1 rfl; have q2 : World.cell? wn ⟨w.heap.size, 2, none⟩ = some (.slice sA ss.length sc) := bZ.cell 2 rfl; have q3 : World.cell? wn ⟨w.heap.size, 3, none⟩ = some (.int .i64 gr) := bZ.cell 3 rfl; have q4 : World.cell? wn ⟨w.heap.size, 4, none⟩ = some (.int .i64 fr) := bZ.cell 4 rfl; have q5 : World.cell? wn ⟨w.heap.size, 5, none⟩ = some (.int .i64 dm) := bZ.cell 5 rfl; have q6 : World.cell? wn ⟨w.heap.size, 6, none⟩ = some (.int .i64 ms) := bZ.cell 6 rfl; have p0 : World.cell? wn ⟨w.heap.size + 1, 0, none⟩ = some (.int .i64 a) := bI.cell 0 rfl; have p1 : World.cell? wn ⟨w.heap.size + 1, 1, none⟩ = some (.int .i64 b) := bI.cell 1 rfl
          go_wp2_with fail; refine (C4.out _ bW).mono ?_; rintro e wn ⟨rfl, hbn⟩; have bW : Below w.heap.size w wn := (by first | exact bW.st hbn | exact bW.drew.st hbn); have bZ : Blk wn w.heap.size #[.string nm, .slice hA hs.length hc', .slice sA ss.length sc, .int .i64 gr, .int .i64 fr, .int .i64 dm, .int .i64 ms] 25 := (by first | exact bZ.below hbn bZ.lt | exact bZ.drew.below hbn bZ.lt); have bI : Blk wn (w.heap.size + 1) #[.int .i64 a, .int .i64 b] 35 := (by first | exact bI.below hbn bI.lt | exact bI.drew.below hbn bI.lt); have q0 : World.cell? wn ⟨w.heap.size, 0, none⟩ = some (.string nm) := bZ.cell 0 rfl; have q1 : World.cell? wn ⟨w.heap.size, 1, none⟩ = some (.slice hA hs.length hc') := bZ.cell 1 rfl; have q2 : World.cell? wn ⟨w.heap.size, 2, none⟩ = some (.slice sA ss.length sc) := bZ.cell 2 rfl; have q3 : World.cell? wn ⟨w.heap.size, 3, none⟩ = some (.int .i64 gr) := bZ.cell 3 rfl; have q4 : World.cell? wn ⟨w.heap.size, 4, none⟩ = some (.int .i64 fr) := bZ.cell 4 rfl; have q5 : World.cell? wn ⟨w.heap.size, 5, none⟩ = some (.int .i64 dm) := bZ.cell 5 rfl; have q6 : World.cell? wn ⟨w.heap.size, 6, none⟩ = some (.int .i64 ms) := bZ.cell 6 rfl; have p0 : World.cell? wn ⟨w.heap.size + 1, 0, none⟩ = some (.int .i64 a) := bI.cell 0 rfl; have p1 : World.cell? wn ⟨w.heap.size + 1, 1, none⟩ = some (.int .i64 b) := bI.cell 1 rfl
          go_wp2_with fail; refine (C5.out _ bW).mono ?_; rintro e wn ⟨rfl, hbn⟩; have bW : Below w.heap.size w wn := (by first | exact bW.st hbn | exact bW.drew.st hbn); have bZ : Blk wn w.heap.size #[.string nm, .slice hA hs.length hc', .slice sA ss.length sc, .int .i64 gr, .int .i64 fr, .int .i64 dm, .int .i64 ms] 25 := (by first | exact bZ.below hbn bZ.lt | exact bZ.drew.below hbn bZ.lt); have bI : Blk wn (w.heap.size + 1) #[.int .i64 a, .int .i64 b] 35 := (by first | exact bI.below hbn bI.lt | exact bI.drew.below hbn bI.lt); have q0 : World.cell? wn ⟨w.heap.size, 0, none⟩ = some (.string nm) := bZ.cell 0 rfl; have q1 : World.cell? wn ⟨w.heap.size, 1, none⟩ = some (.slice hA hs.length hc') := bZ.cell 1 rfl; have q2 : World.cell? wn ⟨w.heap.size, 2, none⟩ = some (.slice sA ss.length sc) := bZ.cell 2 rfl; have q3 : World.cell? wn ⟨w.heap.size, 3, none⟩ = some (.int .i64 gr) := bZ.cell 3 rfl; have q4 : World.cell? wn ⟨w.heap.size, 4, none⟩ = some (.int .i64 fr) := bZ.cell 4 rfl; have q5 : World.cell? wn ⟨w.heap.size, 5, none⟩ = some (.int .i64 dm) := bZ.cell 5 rfl; have q6 : World.cell? wn ⟨w.heap.size, 6, none⟩ = some (.int .i64 ms) := bZ.cell 6 rfl; have p0 : World.cell? wn ⟨w.heap.size + 1, 0, none⟩ = some (.int .i64 a) := bI.cell 0 rfl; have p1 : World.cell? wn ⟨w.heap.size + 1, 1, none⟩ = some (.int .i64 b) := bI.cell 1 rfl
          go_wp2_with fail; refine (alive_any _).mono ?_; rintro e wl ⟨rfl, hbl⟩; have bL := bW.st hbl; go_wp2_with fail; go_ret; exact ⟨rfl, bL⟩
        · obtain ⟨nm, hA, hc', hs, sA, sc, ss, gr, fr, dm, ms⟩ := z
          simp only [ZV] at *
          obtain ⟨Y1, hY1⟩ : ∃ Y, w.alloc (.cells #[.string nm, .slice hA hs.length hc', .slice sA ss.length sc, .int .i64 gr, .int .i64 fr, .int .i64 dm, .int .i64 ms] 25) = Y := ⟨_, rfl⟩; obtain ⟨Y2, hY2⟩ : ∃ Y, Y1.alloc (.cells #[.int .i64 a, .int .i64 b] 35) = Y := ⟨_, rfl⟩; have bW : Below w.heap.size w Y2 := (by rw [← hY2, ← hY1]; exact ((Below.refl _ w).al _).al _); have sY1 : Y1.heap.size = w.heap.size + 1 := (by rw [← hY1]; simp); have bZ : Blk Y2 w.heap.size #[.string nm, .slice hA hs.length hc', .slice sA ss.length sc, .int .i64 gr, .int .i64 fr, .int .i64 dm, .int .i64 ms] 25 := (by rw [← hY2, ← hY1]; exact (Blk.new w _ _).alloc _); have bI : Blk Y2 (w.heap.size + 1) #[.int .i64 a, .int .i64 b] 35 := (by rw [← hY2, ← sY1]; exact Blk.new Y1 _ _); have q0 : World.cell? Y2 ⟨w.heap.size, 0, none⟩ = some (.string nm) := bZ.cell 0 rfl; have q1 : World.cell? Y2 ⟨w.heap.size, 1, none⟩ = some (.slice hA hs.length hc') := bZ.cell 1 rfl; have q2 : World.cell? Y2 ⟨w.heap.size, 2, none⟩ = some (.slice sA ss.length sc) := bZ.cell 2 rfl; have q3 : World.cell? Y2 ⟨w.heap.size, 3, none⟩ = some (.int .i64 gr) := bZ.cell 3 rfl; have q4 : World.cell? Y2 ⟨w.heap.size, 4, none⟩ = some (.int .i64 fr) := bZ.cell 4 rfl; have q5 : World.cell? Y2 ⟨w.heap.size, 5, none⟩ = some (.int .i64 dm) := bZ.cell 5 rfl; have q6 : World.cell? Y2 ⟨w.heap.size, 6, none⟩ = some (.int .i64 ms) := bZ.cell 6 rfl; have p0 : World.cell? Y2 ⟨w.heap.size + 1, 0, none⟩ = some (.int .i64 a) := bI.cell 0 rfl; have p1 : World.cell? Y2 ⟨w.heap.size + 1, 1, none⟩ = some (.int .i64 b) := bI.cell 1 rfl
          go_enter Try.func7, Try.ntmps7
          go_wp2_with fail; refine (CM.out _ bW).mono ?_; rintro e wn ⟨rfl, hbn⟩; have bW : Below w.heap.size w wn := (by first | exact bW.st hbn | exact bW.drew.st hbn); have bZ : Blk wn w.heap.size #[.string nm, .slice hA hs.length hc', .slice sA ss.length sc, .int .i64 gr, .int .i64 fr, .int .i64 dm, .int .i64 ms] 25 := (by first | exact bZ.below hbn bZ.lt | exact bZ.drew.below hbn bZ.lt); have bI : Blk wn (w.heap.size + 1) #[.int .i64 a, .int .i64 b] 35 := (by first | exact bI.below hbn bI.lt | exact bI.drew.below hbn bI.lt); have q0 : World.cell? wn ⟨w.heap.size, 0, none⟩ = some (.string nm) := bZ.cell 0 rfl; have q1 : World.cell? wn ⟨w.heap.size, 1, none⟩ = some (.slice hA hs.length hc') := bZ.cell 1 rfl; have q2 : World.cell? wn ⟨w.heap.size, 2, none⟩ = some (.slice sA ss.length sc) := bZ.cell 2 rfl; have q3 : World.cell? wn ⟨w.heap.size, 3, none⟩ = some (.int .i64 gr) := bZ.cell 3 rfl; have q4 : World.cell? wn ⟨w.heap.size, 4, none⟩ = some (.int .i64 fr) := bZ.cell 4 rfl; have q5 : World.cell? wn ⟨w.heap.size, 5, none⟩ = some (.int .i64 dm) := bZ.cell 5 rfl; have q6 : World.cell? wn ⟨w.heap.size, 6, none⟩ = some (.int .i64 ms) := bZ.cell 6 rfl; have p0 : World.cell? wn ⟨w.heap.size + 1, 0, none⟩ = some (.int .i64 a) := bI.cell 0 rfl; have p1 : World.cell? wn ⟨w.heap.size + 1, 1, none⟩ = some (.int .i64 b) := bI.cell 1 rfl
          go_wp2_with fail; refine (C1.out _ bW).mono ?_; rintro e wn ⟨rfl, hbn⟩; have bW : Below w.heap.size w wn := (by first | exact bW.st hbn | exact bW.drew.st hbn); have bZ : Blk wn w.heap.size #[.string nm, .slice hA hs.length hc', .slice sA ss.length sc, .int .i64 gr, .int .i64 fr, .int .i64 dm, .int .i64 ms] 25 := (by first | exact bZ.below hbn bZ.lt | exact bZ.drew.below hbn bZ.lt); have bI : Blk wn (w.heap.size + 1) #[.int .i64 a, .int .i64 b] 35 := (by first | exact bI.below hbn bI.lt | exact bI.drew.below hbn bI.lt); have q0 : World.cell? wn ⟨w.heap.size, 0, none⟩ = some (.string nm) := bZ.cell 0 rfl; have q1 : World.cell? wn ⟨w.heap.size, 1, none⟩ = some (.slice hA hs.length hc') := bZ.cell 1 rfl; have q2 : World.cell? wn ⟨w.heap.size, 2, none⟩ = some (.slice sA ss.length sc) := bZ.cell 2 rfl; have q3 : World.cell? wn ⟨w.heap.size, 3, none⟩ = some (.int .i64 gr) := bZ.cell 3 rfl; have q4 : World.cell? wn ⟨w.heap.size, 4, none⟩ = some (.int .i64 fr) := bZ.cell 4 rfl; have q5 : World.cell? wn ⟨w.heap.size, 5, none⟩ = some (.int .i64 dm) := bZ.cell 5 rfl; have q6 : World.cell? wn ⟨w.heap.size, 6, none⟩ = some (.int .i64 ms) := bZ.cell 6 rfl; have p0 : World.cell? wn ⟨w.heap.size + 1, 0, none⟩ = some (.int .i64 a) := bI.cell 0 rfl; have p1 : World.cell? wn ⟨w.heap.size + 1, 1, none⟩ = some (.int .i64 b) := bI.cell 1 rfl
          go_wp2_with fail; refine (C2.out _ bW).mono ?_; rintro e wn ⟨rfl, hbn⟩; have bW : Below w.heap.size w wn := (by first | exact bW.st hbn | exact bW.drew.st hbn); have bZ : Blk wn w.heap.size #[.string nm, .slice hA hs.length hc', .slice sA ss.length sc, .int .i64 gr, .int .i64 fr, .int .i64 dm, .int .i64 ms] 25 := (by first | exact bZ.below hbn bZ.lt | exact bZ.drew.below hbn bZ.lt); have bI : Blk wn (w.heap.size + 1) #[.int .i64 a, .int .i64 b] 35 := (by first | exact bI.below hbn bI.lt | exact bI.drew.below hbn bI.lt); have q0 : World.cell? wn ⟨w.heap.size, 0, none⟩ = some (.string nm) := bZ.cell 0 rfl; have q1 : World.cell? wn ⟨w.heap.size, 1, none⟩ = some (.slice hA hs.length hc') := bZ.cell 1 rfl; have q2 : World.cell? wn ⟨w.heap.size, 2, none⟩ = some (.slice sA ss.length sc) := bZ.cell 2 rfl; have q3 : World.cell? wn ⟨w.heap.size, 3, none⟩ = some (.int .i64 gr) := bZ.cell 3 rfl; have q4 : World.cell? wn ⟨w.heap.size, 4, none⟩ = some (.int .i64 fr) := bZ.cell 4 rfl; have q5 : World.cell? wn ⟨w.heap.size, 5, none⟩ = some (.int .i64 dm) := bZ.cell 5 rfl; have q6 : World.cell? wn ⟨w.heap.size, 6, none⟩ = some (.int .i64 ms) := bZ.cell 6 rfl; have p0 : World.cell? wn ⟨w.heap.size + 1, 0, none⟩ = some (.int .i64 a) := bI.cell 0 rfl; have p1 : World.cell? wn ⟨w.heap.size + 1, 1, none⟩ = some (.int .i64 b) := bI.cell 1 rfl
          go_wp2_with fail; refine (C3.out _ bW).mono ?_; rintro e wn ⟨rfl, hbn⟩; have bW : Below w.heap.size w wn := (by first | exact bW.st hbn | exact bW.drew.st hbn); have bZ : Blk wn w.heap.size #[.string nm, .slice hA hs.length hc', .slice sA ss.length sc, .int .i64 gr, .int .i64 fr, .int .i64 dm, .int .i64 ms] 25 := (by first | exact bZ.below hbn bZ.lt | exact bZ.drew.below hbn bZ.lt); have bI : Blk wn (w.heap.size + 1) #[.int .i64 a, .int .i64 b] 35 := (by first | exact bI.below hbn bI.lt | exact bI.drew.below hbn bI.lt); have q0 : World.cell? wn ⟨w.heap.size, 0, none⟩ = some (.string nm) := bZ.cell 0 rfl; have q1 : World.cell? wn ⟨w.heap.size, 1, none⟩ = some (.slice hA hs.length hc') := bZ.cell 1 rfl; have q2 : World.cell? wn ⟨w.heap.size, 2, none⟩ = some (.slice sA ss.length sc) := bZ.cell 2 rfl; have q3 : World.cell? wn ⟨w.heap.size, 3, none⟩ = some (.int .i64 gr) := bZ.cell 3 rfl; have q4 : World.cell? wn ⟨w.heap.size, 4, none⟩ = some (.int .i64 fr) := bZ.cell 4 rfl; have q5 : World.cell? wn ⟨w.heap.size, 5, none⟩ = some (.int .i64 dm) := bZ.cell 5 rfl; have q6 : World.cell? wn ⟨w.heap.size, 6, none⟩ = some (.int .i64 ms) := bZ.cell 6 rfl; have p0 : World.cell? wn ⟨w.heap.size + 1, 0, none⟩ = some (.int .i64 a) := bI.cell 0 rfl; have p1 : World.cell? wn ⟨w.heap.size + 1, 1, none⟩ = some (.int .i64 b) := bI.cell 1 rfl
          go_wp2_with fail; refine (C4.out _ bW).mono ?_; rintro e wn ⟨rfl, hbn⟩; have bW : Below w.heap.size w wn := (by first | exact bW.st hbn | exact bW.drew.st hbn); have bZ : Blk wn w.heap.size #[.string nm, .slice hA hs.length hc', .slice sA ss.length sc, .int .i64 gr, .int .i64 fr, .int .i64 dm, .int .i64 ms] 25 := (by first | exact bZ.below hbn bZ.lt | exact bZ.drew.below hbn bZ.lt); have bI : Blk wn (w.heap.size + 1) #[.int .i64 a, .int .i64 b] 35 := (by first | exact bI.below hbn bI.lt | exact bI.drew.below hbn bI.lt); have q0 : World.cell? wn ⟨w.heap.size, 0, none⟩ = some (.string nm) := bZ.cell 0 rfl; have q1 : World.cell? wn ⟨w.heap.size, 1, none⟩ = some (.slice hA hs.length hc') := bZ.cell 1 rfl; have q2 : World.cell? wn ⟨w.heap.size, 2, none⟩ = some (.slice sA ss.length sc) := bZ.cell 2 rfl; have q3 : World.cell? wn ⟨w.heap.size, 3, none⟩ = some (.int .i64 gr) := bZ.cell 3 rfl; have q4 : World.cell? wn ⟨w.heap.size, 4, none⟩ = some (.int .i64 fr) := bZ.cell 4 rfl; have q5 : World.cell? wn ⟨w.heap.size, 5, none⟩ = some (.int .i64 dm) := bZ.cell 5 rfl; have q6 : World.cell? wn ⟨w.heap.size, 6, none⟩ = some (.int .i64 ms) := bZ.cell 6 rfl; have p0 : World.cell? wn ⟨w.heap.size + 1, 0, none⟩ = some (.int .i64 a) := bI.cell 0 rfl; have p1 : World.cell? wn ⟨w.heap.size + 1, 1, none⟩ = some (.int .i64 b) := bI.cell 1 rfl
          go_wp2_with fail; refine (C5.out _ bW).mono ?_; rintro e wn ⟨rfl, hbn⟩; have bW : Below w.heap.size w wn := (by first | exact bW.st hbn | exact bW.drew.st hbn); have bZ : Blk wn w.heap.size #[.string nm, .slice hA hs.length hc', .slice sA ss.length sc, .int .i64 gr, .int .i64 fr, .int .i64 dm, .int .i64 ms] 25 := (by first | exact bZ.below hbn bZ.lt | exact bZ.drew.below hbn bZ.lt); have bI : Blk wn (w.heap.size + 1) #[.int .i64 a, .int .i64 b] 35 := (by first | exact bI.below hbn bI.lt | exact bI.drew.below hbn bI.lt); have q0 : World.cell? wn ⟨w.heap.size, 0, none⟩ = some (.string nm) := bZ.cell 0 rfl; have q1 : World.cell? wn ⟨w.heap.size, 1, none⟩ = some (.slice hA hs.length hc') := bZ.cell 1 rfl; have q2 : World.cell? wn ⟨w.heap.size, 2, none⟩ = some (.slice sA ss.length sc) := bZ.cell 2 rfl; have q3 : World.cell? wn ⟨w.heap.size, 3, none⟩ = some (.int .i64 gr) := bZ.cell 3 rfl; have q4 : World.cell? wn ⟨w.heap.size, 4, none⟩ = some (.int .i64 fr) := bZ.cell 4 rfl; have q5 : World.cell? wn ⟨w.heap.size, 5, none⟩ = some (.int .i64 dm) := bZ.cell 5 rfl; have q6 : World.cell? wn ⟨w.heap.size, 6, none⟩ = some (.int .i64 ms) := bZ.cell 6 rfl; have p0 : World.cell? wn ⟨w.heap.size + 1, 0, none⟩ = some (.int .i64 a) := bI.cell 0 rfl; have p1 : World.cell? wn ⟨w.heap.size + 1, 1, none⟩ = some (.int .i64 b) := bI.cell 1 rfl
          go_wp2_with fail; refine (alive_any _).mono ?_; rintro e wl ⟨rfl, hbl⟩; have bL := bW.st hbl; go_wp2_with fail; go_ret; exact ⟨rfl, bL⟩
      · obtain ⟨y1, _⟩ := fee_yes he
        rw [y1, he] at C1
        clear y1 he h
        generalize feeS z a b = n1 at *
        obtain ⟨nm, hA, hc', hs, sA, sc, ss, gr, fr, dm, ms⟩ := z
        simp only [ZV] at *
        obtain ⟨Y1, hY1⟩ : ∃ Y, w.alloc (.cells #[.string nm, .slice hA hs.length hc', .slice sA ss.length sc, .int .i64 gr, .int .i64 fr, .int .i64 dm, .int .i64 ms] 25) = Y := ⟨_, rfl⟩; obtain ⟨Y2, hY2⟩ : ∃ Y, Y1.alloc (.cells #[.int .i64 a, .int .i64 b] 35) = Y := ⟨_, rfl⟩; have bW : Below w.heap.size w Y2 := (by rw [← hY2, ← hY1]; exact ((Below.refl _ w).al _).al _); have sY1 : Y1.heap.size = w.heap.size + 1 := (by rw [← hY1]; simp); have bZ : Blk Y2 w.heap.size #[.string nm, .slice hA hs.length hc', .slice sA ss.length sc, .int .i64 gr, .int .i64 fr, .int .i64 dm, .int .i64 ms] 25 := (by rw [← hY2, ← hY1]; exact (Blk.new w _ _).alloc _); have bI : Blk Y2 (w.heap.size + 1) #[.int .i64 a, .int .i64 b] 35 := (by rw [← hY2, ← sY1]; exact Blk.new Y1 _ _); have q0 : World.cell? Y2 ⟨w.heap.size, 0, none⟩ = some (.string nm) := bZ.cell 0 rfl; have q1 : World.cell? Y2 ⟨w.heap.size, 1, none⟩ = some (.slice hA hs.length hc') := bZ.cell 1 rfl; have q2 : World.cell? Y2 ⟨w.heap.size, 2, none⟩ = some (.slice sA ss.length sc) := bZ.cell 2 rfl; have q3 : World.cell? Y2 ⟨w.heap.size, 3, none⟩ = some (.int .i64 gr) := bZ.cell 3 rfl; have q4 : World.cell? Y2 ⟨w.heap.size, 4, none⟩ = some (.int .i64 fr) := bZ.cell 4 rfl; have q5 : World.cell? Y2 ⟨w.heap.size, 5, none⟩ = some (.int .i64 dm) := bZ.cell 5 rfl; have q6 : World.cell? Y2 ⟨w.heap.size, 6, none⟩ = some (.int .i64 ms) := bZ.cell 6 rfl; have p0 : World.cell? Y2 ⟨w.heap.size + 1, 0, none⟩ = some (.int .i64 a) := bI.cell 0 rfl; have p1 : World.cell? Y2 ⟨w.heap.size + 1, 1, none⟩ = some (.int .i64 b) := bI.cell 1 rfl
        by_cases ht1 : t ≤ a
        · go_enter Try.func7, Try.ntmps7
          go_wp2_with fail; refine (CM.out _ bW).mono ?_; rintro e wn ⟨rfl, hbn⟩; have bW : Below w.heap.size w wn := (by first | exact bW.st hbn | exact bW.drew.st hbn); have bZ : Blk wn w.heap.size #[.string nm, .slice hA hs.length hc', .slice sA ss.length sc, .int .i64 gr, .int .i64 fr, .int .i64 dm, .int .i64 ms] 25 := (by first | exact bZ.below hbn bZ.lt | exact bZ.drew.below hbn bZ.lt); have bI : Blk wn (w.heap.size + 1) #[.int .i64 a, .int .i64 b] 35 := (by first | exact bI.below hbn bI.lt | exact bI.drew.below hbn bI.lt); have q0 : World.cell? wn ⟨w.heap.size, 0, none⟩ = some (.string nm) := bZ.cell 0 rfl; have q1 : World.cell? wn ⟨w.heap.size, 1, none⟩ = some (.slice hA hs.length hc') := bZ.cell 1 rfl; have q2 : World.cell? wn ⟨w.heap.size, 2, none⟩ = some (.slice sA ss.length sc) := bZ.cell 2 rfl; have q3 : World.cell? wn ⟨w.heap.size, 3, none⟩ = some (.int .i64 gr) := bZ.cell 3 rfl; have q4 : World.cell? wn ⟨w.heap.size, 4, none⟩ = some (.int .i64 fr) := bZ.cell 4 rfl; have q5 : World.cell? wn ⟨w.heap.size, 5, none⟩ = some (.int .i64 dm) := bZ.cell 5 rfl; have q6 : World.cell? wn ⟨w.heap.size, 6, none⟩ = some (.int .i64 ms) := bZ.cell 6 rfl; have p0 : World.cell? wn ⟨w.heap.size + 1, 0, none⟩ = some (.int .i64 a) := bI.cell 0 rfl; have p1 : World.cell? wn ⟨w.heap.size + 1, 1, none⟩ = some (.int .i64 b) := bI.cell 1 rfl
          go_wp2_with fail; refine (C1.out _ bW).mono ?_; rintro e wn ⟨rfl, hbn⟩; have bW : Below w.heap.size w wn := (by first | exact bW.st hbn | exact bW.drew.st hbn); have bZ : Blk wn w.heap.size #[.string nm, .slice hA hs.length hc', .slice sA ss.length sc, .int .i64 gr, .int .i64 fr, .int .i64 dm, .int .i64 ms] 25 := (by first | exact bZ.below hbn bZ.lt | exact bZ.drew.below hbn bZ.lt); have bI : Blk wn (w.heap.size + 1) #[.int .i64 a, .int .i64 b] 35 := (by first | exact bI.below hbn bI.lt | exact bI.drew.below hbn bI.lt); have q0 : World.cell? wn ⟨w.heap.size, 0, none⟩ = some (.string nm) := bZ.cell 0 rfl; have q1 : World.cell? wn ⟨w.heap.size, 1, none⟩ = some (.slice hA hs.length hc') := bZ.cell 1 rfl; have q2 : World.cell? wn ⟨w.heap.size, 2, none⟩ = some (.slice sA ss.length sc) := bZ.cell 2 rfl; have q3 : World.cell? wn ⟨w.heap.size, 3, none⟩ = some (.int .i64 gr) := bZ.cell 3 rfl; have q4 : World.cell? wn ⟨w.heap.size, 4, none⟩ = some (.int .i64 fr) := bZ.cell 4 rfl; have q5 : World.cell? wn ⟨w.heap.size, 5, none⟩ = some (.int .i64 dm) := bZ.cell 5 rfl; have q6 : World.cell? wn ⟨w.heap.size, 6, none⟩ = some (.int .i64 ms) := bZ.cell 6 rfl; have p0 : World.cell? wn ⟨w.heap.size + 1, 0, none⟩ = some (.int .i64 a) := bI.cell 0 rfl; have p1 : World.cell? wn ⟨w.heap.size + 1, 1, none⟩ = some (.int .i64 b) := bI.cell 1 rfl
          go_wp2
          go_ret
          exact ⟨rfl, bW⟩
        · have ht2 : b < t := by omega
          clear ht
          go_enter Try.func7, Try.ntmps7
          go_wp2_with fail; refine (CM.out _ bW).mono ?_; rintro e wn ⟨rfl, hbn⟩; have bW : Below w.heap.size w wn := (by first | exact bW.st hbn | exact bW.drew.st hbn); have bZ : Blk wn w.heap.size #[.string nm, .slice hA hs.length hc', .slice sA ss.length sc, .int .i64 gr, .int .i64 fr, .int .i64 dm, .int .i64 ms] 25 := (by first | exact bZ.below hbn bZ.lt | exact bZ.drew.below hbn bZ.lt); have bI : Blk wn (w.heap.size + 1) #[.int .i64 a, .int .i64 b] 35 := (by first | exact bI.below hbn bI.lt | exact bI.drew.below hbn bI.lt); have q0 : World.cell? wn ⟨w.heap.size, 0, none⟩ = some (.string nm) := bZ.cell 0 rfl; have q1 : World.cell? wn ⟨w.heap.size, 1, none⟩ = some (.slice hA hs.length hc') := bZ.cell 1 rfl; have q2 : World.cell? wn ⟨w.heap.size, 2, none⟩ = some (.slice sA ss.length sc) := bZ.cell 2 rfl; have q3 : World.cell? wn ⟨w.heap.size, 3, none⟩ = some (.int .i64 gr) := bZ.cell 3 rfl; have q4 : World.cell? wn ⟨w.heap.size, 4, none⟩ = some (.int .i64 fr) := bZ.cell 4 rfl; have q5 : World.cell? wn ⟨w.heap.size, 5, none⟩ = some (.int .i64 dm) := bZ.cell 5 rfl; have q6 : World.cell? wn ⟨w.heap.size, 6, none⟩ = some (.int .i64 ms) := bZ.cell 6 rfl; have p0 : World.cell? wn ⟨w.heap.size + 1, 0, none⟩ = some (.int .i64 a) := bI.cell 0 rfl; have p1 : World.cell? wn ⟨w.heap.size + 1, 1, none⟩ = some (.int .i64 b) := bI.cell 1 rfl
          go_wp2_with fail; refine (C1.out _ bW).mono ?_; rintro e wn ⟨rfl, hbn⟩; have bW : Below w.heap.size w wn := (by first | exact bW.st hbn | exact bW.drew.st hbn); have bZ : Blk wn w.heap.size #[.string nm, .slice hA hs.length hc', .slice sA ss.length sc, .int .i64 gr, .int .i64 fr, .int .i64 dm, .int .i64 ms] 25 := (by first | exact bZ.below hbn bZ.lt | exact bZ.drew.below hbn bZ.lt); have bI : Blk wn (w.heap.size + 1) #[.int .i64 a, .int .i64 b] 35 := (by first | exact bI.below hbn bI.lt | exact bI.drew.below hbn bI.lt); have q0 : World.cell? wn ⟨w.heap.size, 0, none⟩ = some (.string nm) := bZ.cell 0 rfl; have q1 : World.cell? wn ⟨w.heap.size, 1, none⟩ = some (.slice hA hs.length hc') := bZ.cell 1 rfl; have q2 : World.cell? wn ⟨w.heap.size, 2, none⟩ = some (.slice sA ss.length sc) := bZ.cell 2 rfl; have q3 : World.cell? wn ⟨w.heap.size, 3, none⟩ = some (.int .i64 gr) := bZ.cell 3 rfl; have q4 : World.cell? wn ⟨w.heap.size, 4, none⟩ = some (.int .i64 fr) := bZ.cell 4 rfl; have q5 : World.cell? wn ⟨w.heap.size, 5, none⟩ = some (.int .i64 dm) := bZ.cell 5 rfl; have q6 : World.cell? wn ⟨w.heap.size, 6, none⟩ = some (.int .i64 ms) := bZ.cell 6 rfl; have p0 : World.cell? wn ⟨w.heap.size + 1, 0, none⟩ = some (.int .i64 a) := bI.cell 0 rfl; have p1 : World.cell? wn ⟨w.heap.size + 1, 1, none⟩ = some (.int .i64 b) := bI.cell 1 rfl
          go_wp2
          go_ret
          exact ⟨rfl, bW⟩
    · generalize feeE z a b = e1 at *
      generalize feeN z a b = n1 at *
      clear h
      obtain ⟨nm, hA, hc', hs, sA, sc, ss, gr, fr, dm, ms⟩ := z
      simp only [ZV] at *
      obtain ⟨Y1, hY1⟩ : ∃ Y, w.alloc (.cells #[.string nm, .slice hA hs.length hc', .slice sA ss.length sc, .int .i64 gr, .int .i64 fr, .int .i64 dm, .int .i64 ms] 25) = Y := ⟨_, rfl⟩; obtain ⟨Y2, hY2⟩ : ∃ Y, Y1.alloc (.cells #[.int .i64 a, .int .i64 b] 35) = Y := ⟨_, rfl⟩; have bW : Below w.heap.size w Y2 := (by rw [← hY2, ← hY1]; exact ((Below.refl _ w).al _).al _); have sY1 : Y1.heap.size = w.heap.size + 1 := (by rw [← hY1]; simp); have bZ : Blk Y2 w.heap.size #[.string nm, .slice hA hs.length hc', .slice sA ss.length sc, .int .i64 gr, .int .i64 fr, .int .i64 dm, .int .i64 ms] 25 := (by rw [← hY2, ← hY1]; exact (Blk.new w _ _).alloc _); have bI : Blk Y2 (w.heap.size + 1) #[.int .i64 a, .int .i64 b] 35 := (by rw [← hY2, ← sY1]; exact Blk.new Y1 _ _); have q0 : World.cell? Y2 ⟨w.heap.size, 0, none⟩ = some (.string nm) := bZ.cell 0 rfl; have q1 : World.cell? Y2 ⟨w.heap.size, 1, none⟩ = some (.slice hA hs.length hc') := bZ.cell 1 rfl; have q2 : World.cell? Y2 ⟨w.heap.size, 2, none⟩ = some (.slice sA ss.length sc) := bZ.cell 2 rfl; have q3 : World.cell? Y2 ⟨w.heap.size, 3, none⟩ = some (.int .i64 gr) := bZ.cell 3 rfl; have q4 : World.cell? Y2 ⟨w.heap.size, 4, none⟩ = some (.int .i64 fr) := bZ.cell 4 rfl; have q5 : World.cell? Y2 ⟨w.heap.size, 5, none⟩ = some (.int .i64 dm) := bZ.cell 5 rfl; have q6 : World.cell? Y2 ⟨w.heap.size, 6, none⟩ = some (.int .i64 ms) := bZ.cell 6 rfl; have p0 : World.cell? Y2 ⟨w.heap.size + 1, 0, none⟩ = some (.int .i64 a) := bI.cell 0 rfl; have p1 : World.cell? Y2 ⟨w.heap.size + 1, 1, none⟩ = some (.int .i64 b) := bI.cell 1 rfl
      go_enter Try.func7, Try.ntmps7
      go_wp2_with fail; refine (CM.out _ bW).mono ?_; rintro e wn ⟨rfl, hbn⟩; have bW : Below w.heap.size w wn := (by first | exact bW.st hbn | exact bW.drew.st hbn); have bZ : Blk wn w.heap.size #[.string nm, .slice hA hs.length hc', .slice sA ss.length sc, .int .i64 gr, .int .i64 fr, .int .i64 dm, .int .i64 ms] 25 := (by first | exact bZ.below hbn bZ.lt | exact bZ.drew.below hbn bZ.lt); have bI : Blk wn (w.heap.size + 1) #[.int .i64 a, .int .i64 b] 35 := (by first | exact bI.below hbn bI.lt | exact bI.drew.below hbn bI.lt); have q0 : World.cell? wn ⟨w.heap.size, 0, none⟩ = some (.string nm) := bZ.cell 0 rfl; have q1 : World.cell? wn ⟨w.heap.size, 1, none⟩ = some (.slice hA hs.length hc') := bZ.cell 1 rfl; have q2 : World.cell? wn ⟨w.heap.size, 2, none⟩ = some (.slice sA ss.length sc) := bZ.cell 2 rfl; have q3 : World.cell? wn ⟨w.heap.size, 3, none⟩ = some (.int .i64 gr) := bZ.cell 3 rfl; have q4 : World.cell? wn ⟨w.heap.size, 4, none⟩ = some (.int .i64 fr) := bZ.cell 4 rfl; have q5 : World.cell? wn ⟨w.heap.size, 5, none⟩ = some (.int .i64 dm) := bZ.cell 5 rfl; have q6 : World.cell? wn ⟨w.heap.size, 6, none⟩ = some (.int .i64 ms) := bZ.cell 6 rfl; have p0 : World.cell? wn ⟨w.heap.size + 1, 0, none⟩ = some (.int .i64 a) := bI.cell 0 rfl; have p1 : World.cell? wn ⟨w.heap.size + 1, 1, none⟩ = some (.int .i64 b) := bI.cell 1 rfl
      go_wp2_with fail; refine (C1.out _ bW).mono ?_; rintro e wn ⟨rfl, hbn⟩; have bW : Below w.heap.size w wn := (by first | exact bW.st hbn | exact bW.drew.st hbn); have bZ : Blk wn w.heap.size #[.string nm, .slice hA hs.length hc', .slice sA ss.length sc, .int .i64 gr, .int .i64 fr, .int .i64 dm, .int .i64 ms] 25 := (by first | exact bZ.below hbn bZ.lt | exact bZ.drew.below hbn bZ.lt); have bI : Blk wn (w.heap.size + 1) #[.int .i64 a, .int .i64 b] 35 := (by first | exact bI.below hbn bI.lt | exact bI.drew.below hbn bI.lt); have q0 : World.cell? wn ⟨w.heap.size, 0, none⟩ = some (.string nm) := bZ.cell 0 rfl; have q1 : World.cell? wn ⟨w.heap.size, 1, none⟩ = some (.slice hA hs.length hc') := bZ.cell 1 rfl; have q2 : World.cell? wn ⟨w.heap.size, 2, none⟩ = some (.slice sA ss.length sc) := bZ.cell 2 rfl; have q3 : World.cell? wn ⟨w.heap.size, 3, none⟩ = some (.int .i64 gr) := bZ.cell 3 rfl; have q4 : World.cell? wn ⟨w.heap.size, 4, none⟩ = some (.int .i64 fr) := bZ.cell 4 rfl; have q5 : World.cell? wn ⟨w.heap.size, 5, none⟩ = some (.int .i64 dm) := bZ.cell 5 rfl; have q6 : World.cell? wn ⟨w.heap.size, 6, none⟩ = some (.int .i64 ms) := bZ.cell 6 rfl; have p0 : World.cell? wn ⟨w.heap.size + 1, 0, none⟩ = some (.int .i64 a) := bI.cell 0 rfl; have p1 : World.cell? wn ⟨w.heap.size + 1, 1, none⟩ = some (.int .i64 b) := bI.cell 1 rfl
      go_wp2
      go_ret
      exact ⟨rfl, bW⟩
end Go.Proofs.Ytfilfdkbchkpmaa
