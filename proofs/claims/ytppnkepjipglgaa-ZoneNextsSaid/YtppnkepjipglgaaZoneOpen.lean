/- zone.Open, walked. -/
import Derived.Test.YtppnkepjipglgaaZoneHours
import Derived.Test.YtppnkepjipglgaaBlk
import Derived.Test.YtppnkepjipglgaaZoneSteps2
namespace Go.Proofs.Ytppnkepjipglgaa
open Go.RowKit Go.Lib Go.Shelf
attribute [local go_sem] Oper.semAt_some

theorem openB_hours {hs : List Wn} {t : Int} (ht : 0 ≤ t ∧ t ≤ 68719476735) : openB hs t = hoursB hs t := by
  unfold openB
  rw [decide_eq_true (by omega)]
  rfl

set_option maxRecDepth 100000 in
set_option maxHeartbeats 4000000 in
theorem zopen_any (z : Zn) {t : Int} {w : World} (h : ZOk w z) (hl : z.hs.length ≤ 9000000000000000000) :
    Calls Try.prog 21 #[ZV z, .int .i64 t] w fun e w' => e = .returned (.bool (openB z.hs t)) ∧ Below w.heap.size w w' := by
  have h1 : Rd encW 3 w w.heap.size z.hA z.hs := h.1
  clear h
  obtain ⟨nm, hA, hc, hs, sA, sc, ss, gr, fr, dm, ms⟩ := z
  simp only [ZV] at *
  cases ht : decide (0 ≤ t ∧ t ≤ 68719476735)
  · have HT := Lib.hid ht
    have R := Lib.hid (show openB hs t = false by unfold openB; rw [decide_eq_false (by have := dec_no ht; omega)]; rfl)
    generalize openB hs t = r at *
    clear ht h1
    go_enter Try.func21, Try.ntmps21
    go_wp2_with (go_at_call 32; refine (zwithin_is HT.out _).mono ?_; rintro e w' ⟨rfl, rfl⟩)
    refine bodyPost_ret (v := .bool false) (by simp [results, Try.results21, go_sem]) rfl ?_
    rw [R.out]
    exact ⟨rfl, (((Below.refl _ w).al _).al _).al _⟩
  · refine (callsIn_wide (n := 6)).1 ?_
    have ht' := dec_yes ht
    have HT := Lib.hid ht
    have R := Lib.hid (openB_hours (hs := hs) ht')
    have Hyes := Lib.hid (show ∀ x ∈ hs, wAt x t → openB hs t = true from fun x hx hw => by rw [R.out]; exact (hoursB_iff hs t).2 (.inr ⟨x, hx, hw⟩))
    have Hno := Lib.hid (show (∀ x ∈ vws hs, ¬ wAt x.1 t) → openB hs t = ((hs.length : Int) == 0) from fun hn => by
      rw [R.out, Bool.eq_iff_iff, hoursB_iff]
      constructor
      · rintro (e | ⟨x, hx, hw⟩)
        · rw [e]; rfl
        · exact absurd hw (hn ⟨x, hw.1⟩ (vws_of hx hw.1))
      · intro e
        left
        rcases hs with _ | ⟨y, l⟩
        · rfl
        · simp at e; omega)
    clear ht R
    generalize openB hs t = r at *
    refine callsIn_of_wp_marks Try.func21 rfl trivial ?_ rfl
    simp only [Try.ntmps21, List.size_toArray, List.length_cons, List.length_nil, Nat.reduceAdd, Nat.reduceSub, Array.replicate_succ, Array.replicate_zero, List.push_toArray, List.append_toArray, List.nil_append, List.cons_append]
    gi_wp2_with (first | (refine ⟨trivial, ?_⟩; gi_at_call 32; refine (callsIn_wide.2 (zwithin_is HT.out _)).mono ?_; rintro e w' ⟨rfl, rfl⟩) | (refine ⟨trivial, ?_⟩; gi_at_call 37; refine (hours_in _ ⟨nm, hA, hc, hs, sA, sc, ss, gr, fr, dm, ms⟩ _).mono ?_; rintro e w' ⟨rfl, rfl⟩))
    have bZ := (((Blk.new w #[.string nm, .slice hA hs.length hc, .slice sA ss.length sc, .int .i64 gr, .int .i64 fr, .int .i64 dm, .int .i64 ms] 25).alloc (.cells #[.int .i64 t] 3)).alloc (.cells #[.bool false] 4)).alloc (.cells #[.string nm, .slice hA hs.length hc, .slice sA ss.length sc, .int .i64 gr, .int .i64 fr, .int .i64 dm, .int .i64 ms] 25)
    have bT := ((Boxed.new (w.alloc (.cells #[.string nm, .slice hA hs.length hc, .slice sA ss.length sc, .int .i64 gr, .int .i64 fr, .int .i64 dm, .int .i64 ms] 25)) 3 (.int .i64 t)).alloc (.cells #[.bool false] 4)).alloc (.cells #[.string nm, .slice hA hs.length hc, .slice sA ss.length sc, .int .i64 gr, .int .i64 fr, .int .i64 dm, .int .i64 ms] 25)
    have bR := (Boxed.new ((w.alloc (.cells #[.string nm, .slice hA hs.length hc, .slice sA ss.length sc, .int .i64 gr, .int .i64 fr, .int .i64 dm, .int .i64 ms] 25)).alloc (.cells #[.int .i64 t] 3)) 4 (.bool false)).alloc (.cells #[.string nm, .slice hA hs.length hc, .slice sA ss.length sc, .int .i64 gr, .int .i64 fr, .int .i64 dm, .int .i64 ms] 25)
    have bC := Blk.new (((w.alloc (.cells #[.string nm, .slice hA hs.length hc, .slice sA ss.length sc, .int .i64 gr, .int .i64 fr, .int .i64 dm, .int .i64 ms] 25)).alloc (.cells #[.int .i64 t] 3)).alloc (.cells #[.bool false] 4)) #[.string nm, .slice hA hs.length hc, .slice sA ss.length sc, .int .i64 gr, .int .i64 fr, .int .i64 dm, .int .i64 ms] 25
    simp only [World.size_alloc] at bT bR bC
    have hB0 : Below w.heap.size w ((((w.alloc (.cells #[.string nm, .slice hA hs.length hc, .slice sA ss.length sc, .int .i64 gr, .int .i64 fr, .int .i64 dm, .int .i64 ms] 25)).alloc (.cells #[.int .i64 t] 3)).alloc (.cells #[.bool false] 4)).alloc (.cells #[.string nm, .slice hA hs.length hc, .slice sA ss.length sc, .int .i64 gr, .int .i64 fr, .int .i64 dm, .int .i64 ms] 25)) := ((((Below.refl _ w).al _).al _).al _).al _
    have hsz : ((((w.alloc (.cells #[.string nm, .slice hA hs.length hc, .slice sA ss.length sc, .int .i64 gr, .int .i64 fr, .int .i64 dm, .int .i64 ms] 25)).alloc (.cells #[.int .i64 t] 3)).alloc (.cells #[.bool false] 4)).alloc (.cells #[.string nm, .slice hA hs.length hc, .slice sA ss.length sc, .int .i64 gr, .int .i64 fr, .int .i64 dm, .int .i64 ms] 25)).heap.size = w.heap.size + 4 := by simp
    obtain ⟨W0, hW0⟩ : ∃ W0, (((w.alloc (.cells #[.string nm, .slice hA hs.length hc, .slice sA ss.length sc, .int .i64 gr, .int .i64 fr, .int .i64 dm, .int .i64 ms] 25)).alloc (.cells #[.int .i64 t] 3)).alloc (.cells #[.bool false] 4)).alloc (.cells #[.string nm, .slice hA hs.length hc, .slice sA ss.length sc, .int .i64 gr, .int .i64 fr, .int .i64 dm, .int .i64 ms] 25) = W0 := ⟨_, rfl⟩
    rw [hW0] at bZ bT bR bC hB0 hsz ⊢
    clear hW0
    refine wpIn_rangeFunc_ownH rfl (by omega) (gf := 46) (lb := #[.pointer (some ⟨w.heap.size + 1 + 1 + 1, 0, none⟩)]) rfl trivial (enters_of Try.func46 (by kernel_rfl) rfl)
      (hours_stops _ (by omega) (w.heap.size + 1 + 1 + 1) w.heap.size hc hs hl W0 (by omega) (by omega) (bC.cell 1 rfl) (h1.keep hB0)) belowK_t (belowK_b (by omega)) (Below.refl _ _) (fun _ => rfl)
      (fun pre W => ((((∀ x ∈ pre, ¬ wAt x.1 t) ∧ Boxed W (w.heap.size + 1 + 1) 4 (.bool false)) ∧ Boxed W (w.heap.size + 1) 3 (.int .i64 t)) ∧ Blk W w.heap.size #[.string nm, .slice hA hs.length hc, .slice sA ss.length sc, .int .i64 gr, .int .i64 fr, .int .i64 dm, .int .i64 ms] 25) ∧ Below w.heap.size w W)
      (fun c pre W => ((c = .ret ∧ ∃ x ∈ pre, wAt x.1 t) ∧ Boxed W (w.heap.size + 1 + 1) 4 (.bool true)) ∧ Below w.heap.size w W)
      (OwnFrom.and (OwnFrom.and (OwnFrom.and (OwnFrom.and (ownFrom_pure _ _) (Own.from (boxed_own _ _ _) _)) (Own.from (boxed_own _ _ _) _)) (Own.from (blk_own _ _ _) _)) (ownFrom_below (Nat.le_refl _) (by omega)))
      (fun c => OwnFrom.and (OwnFrom.and (ownFrom_pure _ _) (Own.from (boxed_own _ _ _) _)) (ownFrom_below (Nat.le_refl _) (by omega)))
      ⟨⟨⟨⟨by simp, bR⟩, bT⟩, bZ⟩, hB0⟩
      (fun x a' W => ∃ Bx, w.heap.size + 1 + 1 < Bx ∧ Blk W Bx #[.int .i64 x.1.1, .int .i64 x.1.2.1, .int .i64 x.1.2.2] 56 ∧ a' = { tmps := #[.agg #[.string nm, .slice hA hs.length hc, .slice sA ss.length sc, .int .i64 gr, .int .i64 fr, .int .i64 dm, .int .i64 ms], .int .i64 t, .pointer (some ⟨w.heap.size, 0, none⟩), .pointer (some ⟨w.heap.size + 1, 0, none⟩), .pointer (some ⟨w.heap.size + 1 + 1, 0, none⟩), .pointer (some ⟨Bx, 0, none⟩), .int .i64 t, .bool true, .bool false, .agg #[.string nm, .slice hA hs.length hc, .slice sA ss.length sc, .int .i64 gr, .int .i64 fr, .int .i64 dm, .int .i64 ms], .func (.func 46) #[] #[.pointer (some ⟨w.heap.size + 1 + 1 + 1, 0, none⟩)], .agg #[.int .i64 x.1.1, .int .i64 x.1.2.1, .int .i64 x.1.2.2], undef, undef, undef, undef, undef, undef, undef], defers := [] })
      (fun x a' _ X Y row hs hg hr => by obtain ⟨Bx, e1, e2, e3⟩ := hs; exact ⟨Bx, e1, blk_own Bx (fun (_ : Unit) => #[.int .i64 x.1.1, .int .i64 x.1.2.1, .int .i64 x.1.2.2]) 56 () X Y row e2 hg (fun r e => (hr r e).2), e3⟩)
      ?assign ?body ?done ?stop
    case assign =>
      rintro l pre x W K ⟨⟨⟨⟨hp, bR1⟩, bT1⟩, bZ1⟩, hB1⟩ hK
      simp only [encV]
      gi_wp2
      exact hK _ _ ((KeepsOthers.alloc _ _).from _) ((Below.refl _ W).alloc hB1.size _) ⟨⟨⟨⟨hp, bR1.alloc _⟩, bT1.alloc _⟩, bZ1.alloc _⟩, hB1.alloc hB1.size _⟩ ⟨W.heap.size, bR1.lt, Blk.new W _ _, rfl⟩
    case body =>
      rintro l pre ⟨⟨x, y, z⟩, hv⟩ a' W hl2 ⟨r2, hr2⟩ ⟨⟨⟨⟨hp, bR1⟩, bT1⟩, bZ1⟩, hB1⟩ ⟨Bx, hBx, bX, rfl⟩ hlt
      have c0 := bX.cell 0 rfl
      have c1 := bX.cell 1 rfl
      have c2 := bX.cell 2 rfl
      have cT := bT1.cell
      have h1' : 1 ≤ 6 - 1 - 1 := by omega
      simp only at c0 c1 c2
      by_cases hw : wAt (x, y, z) t
      · have E := Lib.hid (show (decide (0 ≤ t ∧ t < 68719476736) && decide (wAt (x, y, z) t)) = true by rw [decide_eq_true (by omega), decide_eq_true hw]; rfl)
        have HW := Lib.hid hw
        clear hw
        gi_wp2_with (refine ⟨trivial, ?_⟩; gi_at_call 40; refine (CallsIn.inRound l (callsIn_wide.2 (in_any (x, y, z) t _))).mono ?_; rw [E.out]; rintro e w3 ⟨rfl, hb3⟩; have cR := (bR1.below hb3 bR1.lt).cell; have fR := (bR1.below hb3 bR1.lt).frozen)
        exact ⟨(keepsFrom_below hb3).trans ((KeepsOthers.setCell _ _ _).from _), ⟨⟨rfl, _, List.mem_append.2 (.inr (List.mem_singleton.2 rfl)), HW.out⟩, (bR1.below hb3 bR1.lt).set _⟩, (hB1.trans (hb3.mono hB1.size)).setCell (p := ⟨w.heap.size + 1 + 1, 0, none⟩) (by simp; omega) _⟩
      · have E := Lib.hid (show (decide (0 ≤ t ∧ t < 68719476736) && decide (wAt (x, y, z) t)) = false by rw [decide_eq_false hw]; simp)
        have HW := Lib.hid hw
        clear hw
        gi_wp2_with (refine ⟨trivial, ?_⟩; gi_at_call 40; refine (CallsIn.inRound l (callsIn_wide.2 (in_any (x, y, z) t _))).mono ?_; rw [E.out]; rintro e w3 ⟨rfl, hb3⟩)
        exact ⟨keepsFrom_below hb3, hb3.mono hB1.size, ⟨⟨⟨fun y hy => (List.mem_append.1 hy).elim (hp y) (fun e => by rw [List.mem_singleton.1 e]; exact HW.out), bR1.below hb3 bR1.lt⟩, bT1.below hb3 bT1.lt⟩, bZ1.below hb3 bZ1.lt⟩, hB1.trans (hb3.mono hB1.size)⟩
    case done =>
      rintro D zs W hD rfl ⟨⟨⟨⟨hp, bR1⟩, bT1⟩, bZ1⟩, hB1⟩ hK
      have R := Lib.hid (Hno.out hp)
      have cR := bR1.cell
      have fR := bR1.frozen
      have c1 := bZ1.cell 1 rfl
      gi_wp2
      have hK' := (KeepsOthers.setCell W ⟨w.heap.size + 1 + 1, 0, none⟩ (.bool ((hs.length : Int) == 0))).same D _ hK rfl
      refine ⟨by simp, .inl ⟨_, _, rfl, run_takeDeferred hK', ?_⟩⟩
      have hc5 := cell_kept (bR1.set (.bool ((hs.length : Int) == 0))).cell (grownBy_putObj' _ D (.deferred none)) (fun r e => by cases e; exact ⟨_, hK', rfl⟩)
      refine ⟨.bool ((hs.length : Int) == 0), ?_, by rw [R.out], (hB1.setCell (p := ⟨w.heap.size + 1 + 1, 0, none⟩) (by simp; omega) _).trans (belowK_b (w := w) (Nat.le_refl _) _ D _ _ (by omega) hK' rfl rfl)⟩
      simp [results, Try.results21, go_sem, hc5]
    case stop =>
      rintro D c pre W hD hpre ⟨⟨⟨rfl, x, hx, hw⟩, bR1⟩, hB1⟩ hK
      have R := Lib.hid (Hyes.out x.1 (hpre x hx) hw)
      gi_wp2
      refine ⟨by simp, .inl ⟨_, _, rfl, run_takeDeferred hK, ?_⟩⟩
      have hc5 := cell_kept bR1.cell (grownBy_putObj' _ D (.deferred none)) (fun r e => by cases e; exact ⟨_, hK, rfl⟩)
      refine ⟨.bool true, ?_, by rw [R.out], hB1.trans (belowK_b (w := w) (Nat.le_refl _) W D _ _ (by omega) hK rfl rfl)⟩
      simp [results, Try.results21, go_sem, hc5]
end Go.Proofs.Ytppnkepjipglgaa
