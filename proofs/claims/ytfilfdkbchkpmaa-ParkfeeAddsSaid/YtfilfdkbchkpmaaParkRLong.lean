/- The reference's Longest, walked. -/
import Derived.Test.YtfilfdkbchkpmaaParkRFee
import Derived.Test.YtfilfdkbchkpmaaParkLong
import Derived.Test.YtfilfdkbchkpmaaParkCut
namespace Go.Proofs.Ytfilfdkbchkpmaa
open Go.RowKit Go.Lib

theorem ok_facts {z : Zn} {f m cents : Int} (hc : checkE z = 0) (hd : daysE f m = 0) (hm : cents ≤ 1125899906842624) :
    (okD z f m = true → lD z f m = feesL z f m ∧ (feesL z f m).length ≤ 1024 ∧ (∀ x ∈ feesL z f m, -1125899906842624 ≤ x ∧ x ≤ 1125899906842624) ∧ (feeS z f m ≤ cents → paid z f cents m) ∧ (¬ feeS z f m ≤ cents → ¬ paid z f cents m)) ∧ (okD z f m = false → ¬ paid z f cents m) := by
  have hp := paid_iff (z := z) (cents := cents) hc hd hm
  refine ⟨fun h => ?_, fun h => ?_⟩
  · have hv := of_decide_eq_true h
    have e := (lD_is hc hd).1 hv
    obtain ⟨f1, f2⟩ := feesL_fits e.1
    exact ⟨e.2.1, f1, fun x hx => by have := f2 x hx; omega, fun q => hp.2 ⟨hv, q⟩, fun q r => q (hp.1 r).2⟩
  · have hv := of_decide_eq_false h
    exact fun r => hv (hp.1 r).1

set_option maxRecDepth 100000 in
set_option maxHeartbeats 8000000 in
theorem klongest_any (z : Zn) (f cents : Int) {w : World} (h : ZOk w z) (hh : z.hs.length ≤ 100) :
    Calls Try.prog 20 #[ZV z, .int .i64 f, .int .i64 cents] w fun e w' => ∃ n r, e = .returned (.tuple #[.int .i64 n, .int .i64 r]) ∧ LongR z f cents n r ∧ Below w.heap.size w w' := by
  have CC := Lib.hid (fun (W : World) (hW : Below w.heap.size w W) => rcheck_any z (h.st hW))
  by_cases hc : checkE z = 0
  · rw [hc] at CC
    by_cases hf : f < 0 ∨ 68719476736 ≤ f
    · have HR := Lib.hid (LongR.no (cents := cents) (long_2 hc hf) (by omega))
      clear h
      generalize LongR z f cents = LR at *
      obtain ⟨nm, hA, hc', hs, sA, sc, ss, gr, fr, dm, ms⟩ := z
      simp only [ZV] at *
      obtain ⟨Y1, hY1⟩ : ∃ Y, w.alloc (.cells #[.string nm, .slice hA hs.length hc', .slice sA ss.length sc, .int .i64 gr, .int .i64 fr, .int .i64 dm, .int .i64 ms] 25) = Y := ⟨_, rfl⟩; have bW : Below w.heap.size w Y1 := (by rw [← hY1]; exact (Below.refl _ w).al _); have bZ : Blk Y1 w.heap.size #[.string nm, .slice hA hs.length hc', .slice sA ss.length sc, .int .i64 gr, .int .i64 fr, .int .i64 dm, .int .i64 ms] 25 := (by rw [← hY1]; exact Blk.new w _ _); have q0 : World.cell? Y1 ⟨w.heap.size, 0, none⟩ = some (.string nm) := bZ.cell 0 rfl; have q1 : World.cell? Y1 ⟨w.heap.size, 1, none⟩ = some (.slice hA hs.length hc') := bZ.cell 1 rfl; have q2 : World.cell? Y1 ⟨w.heap.size, 2, none⟩ = some (.slice sA ss.length sc) := bZ.cell 2 rfl; have q3 : World.cell? Y1 ⟨w.heap.size, 3, none⟩ = some (.int .i64 gr) := bZ.cell 3 rfl; have q4 : World.cell? Y1 ⟨w.heap.size, 4, none⟩ = some (.int .i64 fr) := bZ.cell 4 rfl; have q5 : World.cell? Y1 ⟨w.heap.size, 5, none⟩ = some (.int .i64 dm) := bZ.cell 5 rfl; have q6 : World.cell? Y1 ⟨w.heap.size, 6, none⟩ = some (.int .i64 ms) := bZ.cell 6 rfl
      rcases hf with hf | hf
      · go_enter Try.func20, Try.ntmps20; go_wp2_with fail; refine (CC.out _ bW).mono ?_; rintro e wn ⟨rfl, hbn⟩; have bW : Below w.heap.size w wn := (by first | exact bW.st hbn | exact bW.drew.st hbn); have bZ : Blk wn w.heap.size #[.string nm, .slice hA hs.length hc', .slice sA ss.length sc, .int .i64 gr, .int .i64 fr, .int .i64 dm, .int .i64 ms] 25 := (by first | exact bZ.below hbn bZ.lt | exact bZ.drew.below hbn bZ.lt); have q0 : World.cell? wn ⟨w.heap.size, 0, none⟩ = some (.string nm) := bZ.cell 0 rfl; have q1 : World.cell? wn ⟨w.heap.size, 1, none⟩ = some (.slice hA hs.length hc') := bZ.cell 1 rfl; have q2 : World.cell? wn ⟨w.heap.size, 2, none⟩ = some (.slice sA ss.length sc) := bZ.cell 2 rfl; have q3 : World.cell? wn ⟨w.heap.size, 3, none⟩ = some (.int .i64 gr) := bZ.cell 3 rfl; have q4 : World.cell? wn ⟨w.heap.size, 4, none⟩ = some (.int .i64 fr) := bZ.cell 4 rfl; have q5 : World.cell? wn ⟨w.heap.size, 5, none⟩ = some (.int .i64 dm) := bZ.cell 5 rfl; have q6 : World.cell? wn ⟨w.heap.size, 6, none⟩ = some (.int .i64 ms) := bZ.cell 6 rfl
        go_wp2
        all_goals (go_ret2; exact ⟨_, _, rfl, HR.out, bW⟩)
      · have hf' : ¬ f < 0 := by omega
        go_enter Try.func20, Try.ntmps20; go_wp2_with fail; refine (CC.out _ bW).mono ?_; rintro e wn ⟨rfl, hbn⟩; have bW : Below w.heap.size w wn := (by first | exact bW.st hbn | exact bW.drew.st hbn); have bZ : Blk wn w.heap.size #[.string nm, .slice hA hs.length hc', .slice sA ss.length sc, .int .i64 gr, .int .i64 fr, .int .i64 dm, .int .i64 ms] 25 := (by first | exact bZ.below hbn bZ.lt | exact bZ.drew.below hbn bZ.lt); have q0 : World.cell? wn ⟨w.heap.size, 0, none⟩ = some (.string nm) := bZ.cell 0 rfl; have q1 : World.cell? wn ⟨w.heap.size, 1, none⟩ = some (.slice hA hs.length hc') := bZ.cell 1 rfl; have q2 : World.cell? wn ⟨w.heap.size, 2, none⟩ = some (.slice sA ss.length sc) := bZ.cell 2 rfl; have q3 : World.cell? wn ⟨w.heap.size, 3, none⟩ = some (.int .i64 gr) := bZ.cell 3 rfl; have q4 : World.cell? wn ⟨w.heap.size, 4, none⟩ = some (.int .i64 fr) := bZ.cell 4 rfl; have q5 : World.cell? wn ⟨w.heap.size, 5, none⟩ = some (.int .i64 dm) := bZ.cell 5 rfl; have q6 : World.cell? wn ⟨w.heap.size, 6, none⟩ = some (.int .i64 ms) := bZ.cell 6 rfl
        go_wp2
        all_goals (go_ret2; exact ⟨_, _, rfl, HR.out, bW⟩)
    · by_cases hm : cents < 0 ∨ 1125899906842624 < cents
      · have HR := Lib.hid (LongR.no (long_3 hc hf hm) (by omega))
        clear h
        generalize LongR z f cents = LR at *
        obtain ⟨nm, hA, hc', hs, sA, sc, ss, gr, fr, dm, ms⟩ := z
        simp only [ZV] at *
        obtain ⟨Y1, hY1⟩ : ∃ Y, w.alloc (.cells #[.string nm, .slice hA hs.length hc', .slice sA ss.length sc, .int .i64 gr, .int .i64 fr, .int .i64 dm, .int .i64 ms] 25) = Y := ⟨_, rfl⟩; have bW : Below w.heap.size w Y1 := (by rw [← hY1]; exact (Below.refl _ w).al _); have bZ : Blk Y1 w.heap.size #[.string nm, .slice hA hs.length hc', .slice sA ss.length sc, .int .i64 gr, .int .i64 fr, .int .i64 dm, .int .i64 ms] 25 := (by rw [← hY1]; exact Blk.new w _ _); have q0 : World.cell? Y1 ⟨w.heap.size, 0, none⟩ = some (.string nm) := bZ.cell 0 rfl; have q1 : World.cell? Y1 ⟨w.heap.size, 1, none⟩ = some (.slice hA hs.length hc') := bZ.cell 1 rfl; have q2 : World.cell? Y1 ⟨w.heap.size, 2, none⟩ = some (.slice sA ss.length sc) := bZ.cell 2 rfl; have q3 : World.cell? Y1 ⟨w.heap.size, 3, none⟩ = some (.int .i64 gr) := bZ.cell 3 rfl; have q4 : World.cell? Y1 ⟨w.heap.size, 4, none⟩ = some (.int .i64 fr) := bZ.cell 4 rfl; have q5 : World.cell? Y1 ⟨w.heap.size, 5, none⟩ = some (.int .i64 dm) := bZ.cell 5 rfl; have q6 : World.cell? Y1 ⟨w.heap.size, 6, none⟩ = some (.int .i64 ms) := bZ.cell 6 rfl
        have hf0 : 0 ≤ f := by omega
        have hf1 : f < 68719476736 := by omega
        rcases hm with hm | hm
        · go_enter Try.func20, Try.ntmps20; go_wp2_with fail; refine (CC.out _ bW).mono ?_; rintro e wn ⟨rfl, hbn⟩; have bW : Below w.heap.size w wn := (by first | exact bW.st hbn | exact bW.drew.st hbn); have bZ : Blk wn w.heap.size #[.string nm, .slice hA hs.length hc', .slice sA ss.length sc, .int .i64 gr, .int .i64 fr, .int .i64 dm, .int .i64 ms] 25 := (by first | exact bZ.below hbn bZ.lt | exact bZ.drew.below hbn bZ.lt); have q0 : World.cell? wn ⟨w.heap.size, 0, none⟩ = some (.string nm) := bZ.cell 0 rfl; have q1 : World.cell? wn ⟨w.heap.size, 1, none⟩ = some (.slice hA hs.length hc') := bZ.cell 1 rfl; have q2 : World.cell? wn ⟨w.heap.size, 2, none⟩ = some (.slice sA ss.length sc) := bZ.cell 2 rfl; have q3 : World.cell? wn ⟨w.heap.size, 3, none⟩ = some (.int .i64 gr) := bZ.cell 3 rfl; have q4 : World.cell? wn ⟨w.heap.size, 4, none⟩ = some (.int .i64 fr) := bZ.cell 4 rfl; have q5 : World.cell? wn ⟨w.heap.size, 5, none⟩ = some (.int .i64 dm) := bZ.cell 5 rfl; have q6 : World.cell? wn ⟨w.heap.size, 6, none⟩ = some (.int .i64 ms) := bZ.cell 6 rfl
          go_wp2
          all_goals (go_ret2; exact ⟨_, _, rfl, HR.out, bW⟩)
        · have hm' : ¬ cents < 0 := by omega
          go_enter Try.func20, Try.ntmps20; go_wp2_with fail; refine (CC.out _ bW).mono ?_; rintro e wn ⟨rfl, hbn⟩; have bW : Below w.heap.size w wn := (by first | exact bW.st hbn | exact bW.drew.st hbn); have bZ : Blk wn w.heap.size #[.string nm, .slice hA hs.length hc', .slice sA ss.length sc, .int .i64 gr, .int .i64 fr, .int .i64 dm, .int .i64 ms] 25 := (by first | exact bZ.below hbn bZ.lt | exact bZ.drew.below hbn bZ.lt); have q0 : World.cell? wn ⟨w.heap.size, 0, none⟩ = some (.string nm) := bZ.cell 0 rfl; have q1 : World.cell? wn ⟨w.heap.size, 1, none⟩ = some (.slice hA hs.length hc') := bZ.cell 1 rfl; have q2 : World.cell? wn ⟨w.heap.size, 2, none⟩ = some (.slice sA ss.length sc) := bZ.cell 2 rfl; have q3 : World.cell? wn ⟨w.heap.size, 3, none⟩ = some (.int .i64 gr) := bZ.cell 3 rfl; have q4 : World.cell? wn ⟨w.heap.size, 4, none⟩ = some (.int .i64 fr) := bZ.cell 4 rfl; have q5 : World.cell? wn ⟨w.heap.size, 5, none⟩ = some (.int .i64 dm) := bZ.cell 5 rfl; have q6 : World.cell? wn ⟨w.heap.size, 6, none⟩ = some (.int .i64 ms) := bZ.cell 6 rfl
          go_wp2
          all_goals (go_ret2; exact ⟨_, _, rfl, HR.out, bW⟩)
      · have h0 := long_0 hc hf hm
        have hf0 : 0 ≤ f := by omega
        have hf1 : f < 68719476736 := by omega
        have hm0 : 0 ≤ cents := by omega
        have hm1 : cents ≤ 1125899906842624 := by omega
        have ⟨l1, l2, l3⟩ := limZ_range z hf0 hf1
        have HZ := Lib.hid (fun hk => LongR.zero h0 hk)
        have HP := Lib.hid (fun k hk hne => LongR.pos (k := k) h0 hk hne)
        have HL : Hid (∀ k, 0 ≤ k → k ≤ limZ z f - f → (0 < k → paid z f cents (f + k)) → (k < limZ z f - f → ¬ paid z f cents (f + k + 1)) → Lng z f cents k) := fun k a b c d => ⟨a, b, c, d⟩
        have hst := check_st hc
        have hms0 := hst.2.2.2.1
        have hms1 := hst.2.2.2.2.1
        have HLim : Hid (limZ z f = if 0 < z.maxStay then min (min 68719476736 (86400 * (f / 86400 + 366))) (f + z.maxStay) else min 68719476736 (86400 * (f / 86400 + 366))) := rfl
        have CE := Lib.hid (fun (W : World) (hW : Below w.heap.size w W) => renf_any z f (limZ z f) (h.st hW) hh)
        have CU := Lib.hid (fun (W : World) (A1 : Option Addr) (c1 : Nat) (n1 : List Iv) (t : Int) (r : Rd encIv 2 W W.heap.size A1 n1) (hn : NF n1) => cut_any c1 t r hn)
        have CD := Lib.hid (fun (W : World) (hW : Below w.heap.size w W) (m : Int) (A1 : Option Addr) (c1 : Nat) (n1 : List Iv) (r : Rd encIv 2 W W.heap.size A1 n1) (hE : EnfL z.hs f m n1) (q1 : f < m) (q2 : m ≤ limZ z f) => rdays28_any z f m c1 (h.st hW) r hE (l3 m q1 q2) hc)
        have HC := Lib.hid (fun (n1 : List Iv) (m : Int) (hE : EnfL z.hs f (limZ z f) n1) (q : m ≤ limZ z f) => hE.cut (t := m) q l2)
        have CS := Lib.hid (fun (m : Int) (q1 : f < m) (q2 : m ≤ limZ z f) (hok : okD z f m = true) (W : World) (A3 : Option Addr) (c3 : Nat) (r : Rd encI 1 W W.heap.size A3 (feesL z f m)) => rsum_any (w := W) c3 r ((ok_facts hc (l3 m q1 q2) hm1).1 hok).2.1 ((ok_facts hc (l3 m q1 q2) hm1).1 hok).2.2.1)
        have HO := Lib.hid (fun (m : Int) (q1 : f < m) (q2 : m ≤ limZ z f) => ok_facts (z := z) (cents := cents) hc (l3 m q1 q2) hm1)
        have HE := Lib.hid (fun n hn => enfL_of (hs := z.hs) (a := f) (b := limZ z f) (n := n) hn)
        unfold EnfR at CE
        rw [l3 (limZ z f) l1 (Int.le_refl _)] at CE
        unfold RDayR at CD
        have HFS : Hid (∀ m, (feesL z f m).sum = feeS z f m) := fun _ => rfl
        generalize LongR z f cents = LR at *
        generalize Lng z f cents = LN at *
        generalize paid z f cents = PD at *
        generalize okD z f = OK at *
        generalize lD z f = G at *
        generalize feesL z f = FL at *
        generalize feeS z f = FS at *
        generalize limZ z f = lm at *
        clear h h0 hf hm hst hc l3
        obtain ⟨nm, hA, hc', hs, sA, sc, ss, gr, fr, dm, ms⟩ := z
        simp only [ZV] at *
        obtain ⟨Y1, hY1⟩ : ∃ Y, w.alloc (.cells #[.string nm, .slice hA hs.length hc', .slice sA ss.length sc, .int .i64 gr, .int .i64 fr, .int .i64 dm, .int .i64 ms] 25) = Y := ⟨_, rfl⟩; have bW : Below w.heap.size w Y1 := (by rw [← hY1]; exact (Below.refl _ w).al _); have bZ : Blk Y1 w.heap.size #[.string nm, .slice hA hs.length hc', .slice sA ss.length sc, .int .i64 gr, .int .i64 fr, .int .i64 dm, .int .i64 ms] 25 := (by rw [← hY1]; exact Blk.new w _ _); have q0 : World.cell? Y1 ⟨w.heap.size, 0, none⟩ = some (.string nm) := bZ.cell 0 rfl; have q1 : World.cell? Y1 ⟨w.heap.size, 1, none⟩ = some (.slice hA hs.length hc') := bZ.cell 1 rfl; have q2 : World.cell? Y1 ⟨w.heap.size, 2, none⟩ = some (.slice sA ss.length sc) := bZ.cell 2 rfl; have q3 : World.cell? Y1 ⟨w.heap.size, 3, none⟩ = some (.int .i64 gr) := bZ.cell 3 rfl; have q4 : World.cell? Y1 ⟨w.heap.size, 4, none⟩ = some (.int .i64 fr) := bZ.cell 4 rfl; have q5 : World.cell? Y1 ⟨w.heap.size, 5, none⟩ = some (.int .i64 dm) := bZ.cell 5 rfl; have q6 : World.cell? Y1 ⟨w.heap.size, 6, none⟩ = some (.int .i64 ms) := bZ.cell 6 rfl
        go_enter Try.func20, Try.ntmps20; go_wp2_with fail; refine (CC.out _ bW).mono ?_; rintro e wn ⟨rfl, hbn⟩; have bW : Below w.heap.size w wn := (by first | exact bW.st hbn | exact bW.drew.st hbn); have bZ : Blk wn w.heap.size #[.string nm, .slice hA hs.length hc', .slice sA ss.length sc, .int .i64 gr, .int .i64 fr, .int .i64 dm, .int .i64 ms] 25 := (by first | exact bZ.below hbn bZ.lt | exact bZ.drew.below hbn bZ.lt); have q0 : World.cell? wn ⟨w.heap.size, 0, none⟩ = some (.string nm) := bZ.cell 0 rfl; have q1 : World.cell? wn ⟨w.heap.size, 1, none⟩ = some (.slice hA hs.length hc') := bZ.cell 1 rfl; have q2 : World.cell? wn ⟨w.heap.size, 2, none⟩ = some (.slice sA ss.length sc) := bZ.cell 2 rfl; have q3 : World.cell? wn ⟨w.heap.size, 3, none⟩ = some (.int .i64 gr) := bZ.cell 3 rfl; have q4 : World.cell? wn ⟨w.heap.size, 4, none⟩ = some (.int .i64 fr) := bZ.cell 4 rfl; have q5 : World.cell? wn ⟨w.heap.size, 5, none⟩ = some (.int .i64 dm) := bZ.cell 5 rfl; have q6 : World.cell? wn ⟨w.heap.size, 6, none⟩ = some (.int .i64 ms) := bZ.cell 6 rfl
        have hways : (0 < ms ∧ lm = min 68719476736 (min ((f / 86400 + 366) * 86400) (f + ms))) ∨ (¬ 0 < ms ∧ lm = min 68719476736 ((f / 86400 + 366) * 86400)) := by
          have := HLim.out
          by_cases hms : 0 < ms
          · rw [if_pos hms] at this; left; exact ⟨hms, by omega⟩
          · rw [if_neg hms] at this; right; exact ⟨hms, by omega⟩
        clear HLim
        rcases hways with ⟨hms, hlm⟩ | ⟨hms, hlm⟩
        all_goals
          have HLM := Lib.hid hlm
          clear hlm
          go_wp2_with fail
          rw [← HLM.out]
          clear HLM
          refine (CE.out _ bW).mono ?_
          rintro e wn ⟨A1, c1, n1, rfl, hn1, -, hrd, hbn⟩
          have HN := HE.out _ (hn1 trivial)
          have hNF : NF n1 := HN.1
          have HCm := Lib.hid (fun m q => HC.out n1 m HN q)
          have hn1l := hNF.length_max
          clear hn1
          obtain ⟨wE, rfl⟩ : ∃ wE, wE = wn := ⟨_, rfl⟩
          have bW : Below w.heap.size w wE := (by first | exact bW.st hbn | exact bW.drew.st hbn); have bZ : Blk wE w.heap.size #[.string nm, .slice hA hs.length hc', .slice sA ss.length sc, .int .i64 gr, .int .i64 fr, .int .i64 dm, .int .i64 ms] 25 := (by first | exact bZ.below hbn bZ.lt | exact bZ.drew.below hbn bZ.lt); have q0 : World.cell? wE ⟨w.heap.size, 0, none⟩ = some (.string nm) := bZ.cell 0 rfl; have q1 : World.cell? wE ⟨w.heap.size, 1, none⟩ = some (.slice hA hs.length hc') := bZ.cell 1 rfl; have q2 : World.cell? wE ⟨w.heap.size, 2, none⟩ = some (.slice sA ss.length sc) := bZ.cell 2 rfl; have q3 : World.cell? wE ⟨w.heap.size, 3, none⟩ = some (.int .i64 gr) := bZ.cell 3 rfl; have q4 : World.cell? wE ⟨w.heap.size, 4, none⟩ = some (.int .i64 fr) := bZ.cell 4 rfl; have q5 : World.cell? wE ⟨w.heap.size, 5, none⟩ = some (.int .i64 dm) := bZ.cell 5 rfl; have q6 : World.cell? wE ⟨w.heap.size, 6, none⟩ = some (.int .i64 ms) := bZ.cell 6 rfl
          go_wp2_with fail
          clear hms
          go_loopw [9, 12] (fun vh vl wr => ∃ lo hi : Int, vh = .int .i64 hi ∧ vl = .int .i64 lo ∧ f ≤ lo ∧ lo ≤ hi ∧ hi ≤ lm ∧ Hid (f < lo → PD lo) ∧ Hid (hi < lm → ¬ PD (hi + 1)) ∧ Below wE.heap.size wE wr) (fun vh vl _ => (intOf vh - intOf vl).toNat)
          case atStart => exact ⟨f, lm, rfl, rfl, Int.le_refl _, by omega, Int.le_refl _, (fun q => absurd q (by omega)), (fun q => absurd q (by omega)), Below.refl _ _⟩
          case round =>
            obtain ⟨lo, hi, rfl, rfl, hb1, hb2, hb3, HLo, HHi, hbr⟩ := hrel
            have hbn := hbr
            have bW : Below w.heap.size w wr := (by first | exact bW.st hbn | exact bW.drew.st hbn); have bZ : Blk wr w.heap.size #[.string nm, .slice hA hs.length hc', .slice sA ss.length sc, .int .i64 gr, .int .i64 fr, .int .i64 dm, .int .i64 ms] 25 := (by first | exact bZ.below hbn bZ.lt | exact bZ.drew.below hbn bZ.lt); have q0 : World.cell? wr ⟨w.heap.size, 0, none⟩ = some (.string nm) := bZ.cell 0 rfl; have q1 : World.cell? wr ⟨w.heap.size, 1, none⟩ = some (.slice hA hs.length hc') := bZ.cell 1 rfl; have q2 : World.cell? wr ⟨w.heap.size, 2, none⟩ = some (.slice sA ss.length sc) := bZ.cell 2 rfl; have q3 : World.cell? wr ⟨w.heap.size, 3, none⟩ = some (.int .i64 gr) := bZ.cell 3 rfl; have q4 : World.cell? wr ⟨w.heap.size, 4, none⟩ = some (.int .i64 fr) := bZ.cell 4 rfl; have q5 : World.cell? wr ⟨w.heap.size, 5, none⟩ = some (.int .i64 dm) := bZ.cell 5 rfl; have q6 : World.cell? wr ⟨w.heap.size, 6, none⟩ = some (.int .i64 ms) := bZ.cell 6 rfl
            have hrr := hrd.st hbr
            by_cases hlt : lo < hi
            · obtain ⟨mid, hmid⟩ : ∃ mid, (lo + hi + 1) / 2 = mid := ⟨_, rfl⟩
              have hm1 : f < mid := by omega
              have hm2 : mid ≤ lm := by omega
              have hm3 : lo < mid := by omega
              have hm4 : mid ≤ hi := by omega
              have HC2 := Lib.hid (HCm.out mid hm2)
              have hO := HO.out mid hm1 hm2
              cases hok : OK mid
              · have HOK := Lib.hid hok
                have HNo := Lib.hid (hO.2 hok)
                clear hO hok
                go_wp2_with fail
                go_region_held3 (fun w' => w'.cell? ⟨w.heap.size, 0, none⟩ = some (.string nm) ∧ w'.cell? ⟨w.heap.size, 1, none⟩ = some (.slice hA hs.length hc') ∧ w'.cell? ⟨w.heap.size, 2, none⟩ = some (.slice sA ss.length sc) ∧ w'.cell? ⟨w.heap.size, 3, none⟩ = some (.int .i64 gr) ∧ w'.cell? ⟨w.heap.size, 4, none⟩ = some (.int .i64 fr) ∧ w'.cell? ⟨w.heap.size, 5, none⟩ = some (.int .i64 dm) ∧ w'.cell? ⟨w.heap.size, 6, none⟩ = some (.int .i64 ms)) (go_keep) (first | (go_at_call 40; (first | (with_reducible refine (CU.out _ A1 c1 n1 mid hrr hNF).mono ?_) | (with_reducible refine (CU.out _ A1 c1 n1 mid hrr.drew hNF).mono ?_)); rintro e wn ⟨A2, c2, rfl, ho2, hbn⟩; have hr2 := ho2.rd encIv_ok; have bW : Below w.heap.size w wn := (by first | exact bW.st hbn | exact bW.drew.st hbn); have bZ : Blk wn w.heap.size #[.string nm, .slice hA hs.length hc', .slice sA ss.length sc, .int .i64 gr, .int .i64 fr, .int .i64 dm, .int .i64 ms] 25 := (by first | exact bZ.below hbn bZ.lt | exact bZ.drew.below hbn bZ.lt); have q0 : World.cell? wn ⟨w.heap.size, 0, none⟩ = some (.string nm) := bZ.cell 0 rfl; have q1 : World.cell? wn ⟨w.heap.size, 1, none⟩ = some (.slice hA hs.length hc') := bZ.cell 1 rfl; have q2 : World.cell? wn ⟨w.heap.size, 2, none⟩ = some (.slice sA ss.length sc) := bZ.cell 2 rfl; have q3 : World.cell? wn ⟨w.heap.size, 3, none⟩ = some (.int .i64 gr) := bZ.cell 3 rfl; have q4 : World.cell? wn ⟨w.heap.size, 4, none⟩ = some (.int .i64 fr) := bZ.cell 4 rfl; have q5 : World.cell? wn ⟨w.heap.size, 5, none⟩ = some (.int .i64 dm) := bZ.cell 5 rfl; have q6 : World.cell? wn ⟨w.heap.size, 6, none⟩ = some (.int .i64 ms) := bZ.cell 6 rfl; have hbr := (show Below wE.heap.size wE wn from by first | exact hbr.st hbn | exact hbr.drew.st hbn)) | (go_at_call 35; (first | (with_reducible refine (CD.out _ bW mid A2 c2 _ hr2 HC2.out hm1 hm2).mono ?_) | (with_reducible refine (CD.out _ bW.drew mid A2 c2 _ hr2.drew HC2.out hm1 hm2).mono ?_)); rw [HOK.out]; rintro e wn ⟨A3, c3, rfl, hr3, hbn⟩; have bW : Below w.heap.size w wn := (by first | exact bW.st hbn | exact bW.drew.st hbn); have bZ : Blk wn w.heap.size #[.string nm, .slice hA hs.length hc', .slice sA ss.length sc, .int .i64 gr, .int .i64 fr, .int .i64 dm, .int .i64 ms] 25 := (by first | exact bZ.below hbn bZ.lt | exact bZ.drew.below hbn bZ.lt); have q0 : World.cell? wn ⟨w.heap.size, 0, none⟩ = some (.string nm) := bZ.cell 0 rfl; have q1 : World.cell? wn ⟨w.heap.size, 1, none⟩ = some (.slice hA hs.length hc') := bZ.cell 1 rfl; have q2 : World.cell? wn ⟨w.heap.size, 2, none⟩ = some (.slice sA ss.length sc) := bZ.cell 2 rfl; have q3 : World.cell? wn ⟨w.heap.size, 3, none⟩ = some (.int .i64 gr) := bZ.cell 3 rfl; have q4 : World.cell? wn ⟨w.heap.size, 4, none⟩ = some (.int .i64 fr) := bZ.cell 4 rfl; have q5 : World.cell? wn ⟨w.heap.size, 5, none⟩ = some (.int .i64 dm) := bZ.cell 5 rfl; have q6 : World.cell? wn ⟨w.heap.size, 6, none⟩ = some (.int .i64 ms) := bZ.cell 6 rfl; have hbr := (show Below wE.heap.size wE wn from by first | exact hbr.st hbn | exact hbr.drew.st hbn)))
                all_goals
                  go_wp2
                  go_roundw
                  case rel => exact ⟨lo, mid - 1, rfl, rfl, by omega, by omega, by omega, HLo, (fun _ => by rw [show mid - 1 + 1 = mid by omega]; exact HNo.out), by first | exact hbr | exact hbr.drew⟩
                  case measure => simp [intOf]; omega
              · have hO1 := hO.1 hok
                have HG := Lib.hid hO1.1
                have HY := Lib.hid hO1.2.2.2.1
                have HN2 := Lib.hid hO1.2.2.2.2
                have CS1 := Lib.hid (CS.out mid hm1 hm2 hok)
                have HOK := Lib.hid hok
                clear hO hO1 hok
                by_cases hsm : FS mid ≤ cents
                all_goals
                  go_wp2_with fail
                  go_region_held3 (fun w' => w'.cell? ⟨w.heap.size, 0, none⟩ = some (.string nm) ∧ w'.cell? ⟨w.heap.size, 1, none⟩ = some (.slice hA hs.length hc') ∧ w'.cell? ⟨w.heap.size, 2, none⟩ = some (.slice sA ss.length sc) ∧ w'.cell? ⟨w.heap.size, 3, none⟩ = some (.int .i64 gr) ∧ w'.cell? ⟨w.heap.size, 4, none⟩ = some (.int .i64 fr) ∧ w'.cell? ⟨w.heap.size, 5, none⟩ = some (.int .i64 dm) ∧ w'.cell? ⟨w.heap.size, 6, none⟩ = some (.int .i64 ms)) (go_keep) (first | (go_at_call 40; (first | (with_reducible refine (CU.out _ A1 c1 n1 mid hrr hNF).mono ?_) | (with_reducible refine (CU.out _ A1 c1 n1 mid hrr.drew hNF).mono ?_)); rintro e wn ⟨A2, c2, rfl, ho2, hbn⟩; have hr2 := ho2.rd encIv_ok; have bW : Below w.heap.size w wn := (by first | exact bW.st hbn | exact bW.drew.st hbn); have bZ : Blk wn w.heap.size #[.string nm, .slice hA hs.length hc', .slice sA ss.length sc, .int .i64 gr, .int .i64 fr, .int .i64 dm, .int .i64 ms] 25 := (by first | exact bZ.below hbn bZ.lt | exact bZ.drew.below hbn bZ.lt); have q0 : World.cell? wn ⟨w.heap.size, 0, none⟩ = some (.string nm) := bZ.cell 0 rfl; have q1 : World.cell? wn ⟨w.heap.size, 1, none⟩ = some (.slice hA hs.length hc') := bZ.cell 1 rfl; have q2 : World.cell? wn ⟨w.heap.size, 2, none⟩ = some (.slice sA ss.length sc) := bZ.cell 2 rfl; have q3 : World.cell? wn ⟨w.heap.size, 3, none⟩ = some (.int .i64 gr) := bZ.cell 3 rfl; have q4 : World.cell? wn ⟨w.heap.size, 4, none⟩ = some (.int .i64 fr) := bZ.cell 4 rfl; have q5 : World.cell? wn ⟨w.heap.size, 5, none⟩ = some (.int .i64 dm) := bZ.cell 5 rfl; have q6 : World.cell? wn ⟨w.heap.size, 6, none⟩ = some (.int .i64 ms) := bZ.cell 6 rfl; have hbr := (show Below wE.heap.size wE wn from by first | exact hbr.st hbn | exact hbr.drew.st hbn)) | (go_at_call 35; (first | (with_reducible refine (CD.out _ bW mid A2 c2 _ hr2 HC2.out hm1 hm2).mono ?_) | (with_reducible refine (CD.out _ bW.drew mid A2 c2 _ hr2.drew HC2.out hm1 hm2).mono ?_)); rw [HOK.out]; rintro e wn ⟨A3, c3, rfl, hr3, hbn⟩; have bW : Below w.heap.size w wn := (by first | exact bW.st hbn | exact bW.drew.st hbn); have bZ : Blk wn w.heap.size #[.string nm, .slice hA hs.length hc', .slice sA ss.length sc, .int .i64 gr, .int .i64 fr, .int .i64 dm, .int .i64 ms] 25 := (by first | exact bZ.below hbn bZ.lt | exact bZ.drew.below hbn bZ.lt); have q0 : World.cell? wn ⟨w.heap.size, 0, none⟩ = some (.string nm) := bZ.cell 0 rfl; have q1 : World.cell? wn ⟨w.heap.size, 1, none⟩ = some (.slice hA hs.length hc') := bZ.cell 1 rfl; have q2 : World.cell? wn ⟨w.heap.size, 2, none⟩ = some (.slice sA ss.length sc) := bZ.cell 2 rfl; have q3 : World.cell? wn ⟨w.heap.size, 3, none⟩ = some (.int .i64 gr) := bZ.cell 3 rfl; have q4 : World.cell? wn ⟨w.heap.size, 4, none⟩ = some (.int .i64 fr) := bZ.cell 4 rfl; have q5 : World.cell? wn ⟨w.heap.size, 5, none⟩ = some (.int .i64 dm) := bZ.cell 5 rfl; have q6 : World.cell? wn ⟨w.heap.size, 6, none⟩ = some (.int .i64 ms) := bZ.cell 6 rfl; have hbr := (show Below wE.heap.size wE wn from by first | exact hbr.st hbn | exact hbr.drew.st hbn)))
                  all_goals
                    have CS2 := Lib.hid (CS1.out _ A3 c3 (by have := hr3; rwa [HG.out] at this))
                    rw [HG.out]
                    go_wp2_with fail
                    refine CS2.out.mono ?_
                    rw [HFS.out mid]
                    rintro e wn ⟨rfl, hbn⟩
                    have hbr := hbr.st hbn
                    go_wp2
                    go_roundw
                    case rel => first | exact ⟨mid, hi, rfl, rfl, by omega, by omega, by omega, fun _ => HY.out hsm, HHi, hbr⟩ | exact ⟨lo, mid - 1, rfl, rfl, by omega, by omega, by omega, HLo, (fun _ => by rw [show mid - 1 + 1 = mid by omega]; exact HN2.out hsm), hbr⟩
                    case measure => simp [intOf]; omega
            · obtain rfl : lo = hi := by omega
              have HK := Lib.hid (HL.out (lo - f) (by omega) (by omega) (by intro q; rw [show f + (lo - f) = lo by omega]; exact HLo.out (by omega)) (by intro q; rw [show f + (lo - f) + 1 = lo + 1 by omega]; exact HHi.out (by omega)))
              by_cases hz : lo = f
              · subst hz
                have HX : Hid (LR 0 27) := HZ.out (by have := HK.out; rwa [show lo - lo = (0 : Int) by omega] at this)
                clear HLo HHi
                go_wp2
                go_ret2
                exact ⟨_, _, rfl, HX.out, bW⟩
              · have hz2 : (lo == f) = false := beq_eq_false_iff_ne.2 hz
                have HX : Hid (LR lo 0) := (by have := HP.out (lo - f) HK.out (by omega); rwa [show f + (lo - f) = lo by omega] at this)
                clear HLo HHi HK hz
                go_wp2
                go_ret2
                exact ⟨_, _, rfl, HX.out, bW⟩
  · have HR := Lib.hid (LongR.no (f := f) (cents := cents) (long_1 hc) hc)
    clear h
    generalize LongR z f cents = LR at *
    generalize checkE z = r at *
    obtain ⟨nm, hA, hc', hs, sA, sc, ss, gr, fr, dm, ms⟩ := z
    simp only [ZV] at *
    obtain ⟨Y1, hY1⟩ : ∃ Y, w.alloc (.cells #[.string nm, .slice hA hs.length hc', .slice sA ss.length sc, .int .i64 gr, .int .i64 fr, .int .i64 dm, .int .i64 ms] 25) = Y := ⟨_, rfl⟩; have bW : Below w.heap.size w Y1 := (by rw [← hY1]; exact (Below.refl _ w).al _); have bZ : Blk Y1 w.heap.size #[.string nm, .slice hA hs.length hc', .slice sA ss.length sc, .int .i64 gr, .int .i64 fr, .int .i64 dm, .int .i64 ms] 25 := (by rw [← hY1]; exact Blk.new w _ _); have q0 : World.cell? Y1 ⟨w.heap.size, 0, none⟩ = some (.string nm) := bZ.cell 0 rfl; have q1 : World.cell? Y1 ⟨w.heap.size, 1, none⟩ = some (.slice hA hs.length hc') := bZ.cell 1 rfl; have q2 : World.cell? Y1 ⟨w.heap.size, 2, none⟩ = some (.slice sA ss.length sc) := bZ.cell 2 rfl; have q3 : World.cell? Y1 ⟨w.heap.size, 3, none⟩ = some (.int .i64 gr) := bZ.cell 3 rfl; have q4 : World.cell? Y1 ⟨w.heap.size, 4, none⟩ = some (.int .i64 fr) := bZ.cell 4 rfl; have q5 : World.cell? Y1 ⟨w.heap.size, 5, none⟩ = some (.int .i64 dm) := bZ.cell 5 rfl; have q6 : World.cell? Y1 ⟨w.heap.size, 6, none⟩ = some (.int .i64 ms) := bZ.cell 6 rfl
    go_enter Try.func20, Try.ntmps20; go_wp2_with fail; refine (CC.out _ bW).mono ?_; rintro e wn ⟨rfl, hbn⟩; have bW : Below w.heap.size w wn := (by first | exact bW.st hbn | exact bW.drew.st hbn); have bZ : Blk wn w.heap.size #[.string nm, .slice hA hs.length hc', .slice sA ss.length sc, .int .i64 gr, .int .i64 fr, .int .i64 dm, .int .i64 ms] 25 := (by first | exact bZ.below hbn bZ.lt | exact bZ.drew.below hbn bZ.lt); have q0 : World.cell? wn ⟨w.heap.size, 0, none⟩ = some (.string nm) := bZ.cell 0 rfl; have q1 : World.cell? wn ⟨w.heap.size, 1, none⟩ = some (.slice hA hs.length hc') := bZ.cell 1 rfl; have q2 : World.cell? wn ⟨w.heap.size, 2, none⟩ = some (.slice sA ss.length sc) := bZ.cell 2 rfl; have q3 : World.cell? wn ⟨w.heap.size, 3, none⟩ = some (.int .i64 gr) := bZ.cell 3 rfl; have q4 : World.cell? wn ⟨w.heap.size, 4, none⟩ = some (.int .i64 fr) := bZ.cell 4 rfl; have q5 : World.cell? wn ⟨w.heap.size, 5, none⟩ = some (.int .i64 dm) := bZ.cell 5 rfl; have q6 : World.cell? wn ⟨w.heap.size, 6, none⟩ = some (.int .i64 ms) := bZ.cell 6 rfl
    go_wp2
    all_goals (go_ret2; exact ⟨_, _, rfl, HR.out, bW⟩)
end Go.Proofs.Ytfilfdkbchkpmaa
