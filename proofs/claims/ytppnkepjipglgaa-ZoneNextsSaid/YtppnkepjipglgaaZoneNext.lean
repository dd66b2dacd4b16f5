/- zone.Next, walked. -/
import Derived.Test.YtppnkepjipglgaaZoneOpen
namespace Go.Proofs.Ytppnkepjipglgaa
open Go.RowKit Go.Lib Go.Shelf
attribute [local go_sem] Oper.semAt_some

def NextR (hs : List Wn) (t : Int) (w w' : World) (e : Ending) : Prop := ∃ n ok, e = .returned (.tuple #[.int .i64 n, .bool ok]) ∧ NextP hs t n ok ∧ (-9223372036854775808 ≤ n ∧ n ≤ 9223372036854775807) ∧ Below w.heap.size w w'

def mark (D : Nat) : Deferred := { target := .collected D, args := #[] }
theorem leave_marks {F : Fence} {n : Nat} {P : Program} {fn : Func} {tmps : Array Value} {v : Value} {R : Ending → World → Prop} {B : Nat} (hres : ∀ w, (results fn tmps).run P w = .ok v w) : ∀ (ms : List Nat) (w : World),
    (∀ D ∈ ms, w.heap[D]? = some (.deferred (some []))) → ms.Nodup → (∀ D ∈ ms, B ≤ D) → B ≤ w.heap.size → (∀ w', Below B w w' → R (.returned v) w') → LeavesInM F n P fn tmps R (ms.map mark) .returning w
  | [], w, _, _, _, _, hR => ⟨v, hres w, hR w (Below.refl _ _)⟩
  | D :: ds, w, h, hn, hB, hs, hR => by
    have hD := h D (by simp)
    have hb : Below B w (w.putObj D (.deferred none)) := (Below.refl B w).grown (grownBy_putObj' w D _) hs (fun k e => by cases e; exact hB D (by simp))
    refine ⟨by simp, .inl ⟨D, _, rfl, run_takeDeferred hD, ?_⟩⟩
    refine leave_marks hres ds _ (fun D' hD' => ?_) (List.nodup_cons.1 hn).2 (fun D' hD' => hB D' (by simp [hD'])) (Nat.le_trans hs hb.size) (fun w' hw' => hR w' (hb.trans hw'))
    have h2 := h D' (by simp [hD'])
    refine ((grownBy_putObj' w D (.deferred none)).block D' (Array.getElem?_eq_some_iff.1 h2).1 fun e => ?_).trans h2
    injection e with e
    subst e
    exact (List.nodup_cons.1 hn).1 hD'

set_option maxRecDepth 100000 in
set_option maxHeartbeats 4000000 in
theorem znext_any (z : Zn) {t : Int} {w : World} (h : ZOk w z) (hl : z.hs.length ≤ 9000000000000000000) :
    Calls Try.prog 19 #[ZV z, .int .i64 t] w fun e w' => NextR z.hs t w w' e := by
  have h1 : Rd encW 3 w w.heap.size z.hA z.hs := h.1
  have hb0 : Below w.heap.size w ((w.alloc (.cells #[.string z.name, .slice z.hA z.hs.length z.hc, .slice z.sA z.ss.length z.sc, .int .i64 z.grace, .int .i64 z.free, .int .i64 z.dayMax, .int .i64 z.maxStay] 25)).alloc (.cells #[.int .i64 t] 3)) := ((Below.refl _ w).al _).al _
  have C := Lib.hid (zopen_any z (t := t) (h.st hb0) hl)
  clear h
  obtain ⟨nm, hA, hc, hs, sA, sc, ss, gr, fr, dm, ms0⟩ := z
  simp only [ZV] at *
  cases ht : decide (0 ≤ t ∧ t ≤ 68719476735)
  · have HT := Lib.hid ht
    have HP := Lib.hid (NextP.out (hs := hs) (show ¬ (0 ≤ t ∧ t < 68719476736) by have := dec_no ht; omega))
    clear ht h1 C
    go_enter Try.func19, Try.ntmps19
    go_wp2_with (go_at_call 32; refine (zwithin_is HT.out _).mono ?_; rintro e w' ⟨rfl, rfl⟩)
    go_ret2
    exact ⟨0, false, rfl, HP.out, by omega, hb0⟩
  · have ht' := dec_yes ht
    have HT := Lib.hid ht
    clear ht
    cases ho : openB hs t
    · have hno : ¬ openP hs t := fun q => by rw [(openB_iff hs t).2 q] at ho; cases ho
      have HO := Lib.hid ho
      clear ho
      refine (callsIn_wide (n := 6)).1 ?_
      refine callsIn_of_wp_marks Try.func19 rfl trivial ?_ rfl
      simp only [Try.ntmps19, List.size_toArray, List.length_cons, List.length_nil, Nat.reduceAdd, Nat.reduceSub, Array.replicate_succ, Array.replicate_zero, List.push_toArray, List.append_toArray, List.nil_append, List.cons_append]
      gi_wp2_with (first | (refine ⟨trivial, ?_⟩; gi_at_call 32; refine (callsIn_wide.2 (zwithin_is HT.out _)).mono ?_; rintro e w' ⟨rfl, rfl⟩) | (refine ⟨trivial, ?_⟩; gi_at_call 21; refine (callsIn_wide.2 C.out).mono ?_; rw [HO.out]; rintro e w1 ⟨rfl, hb1⟩; have bZ := (((Blk.new w #[.string nm, .slice hA hs.length hc, .slice sA ss.length sc, .int .i64 gr, .int .i64 fr, .int .i64 dm, .int .i64 ms0] 25).alloc (.cells #[.int .i64 t] 3)).below hb1 (by simp; omega)); have bT : Boxed w1 (w.heap.size + 1) 3 (.int .i64 t) := ((by have := Boxed.new (w.alloc (.cells #[.string nm, .slice hA hs.length hc, .slice sA ss.length sc, .int .i64 gr, .int .i64 fr, .int .i64 dm, .int .i64 ms0] 25)) 3 (.int .i64 t); rwa [World.size_alloc] at this : Boxed ((w.alloc (.cells #[.string nm, .slice hA hs.length hc, .slice sA ss.length sc, .int .i64 gr, .int .i64 fr, .int .i64 dm, .int .i64 ms0] 25)).alloc (.cells #[.int .i64 t] 3)) (w.heap.size + 1) 3 (.int .i64 t)).below hb1 (by simp)); have cT := bT.cell; have hbw := hb0.st hb1))
      have hm0 : t / 86400 ≤ 795364 := by omega
      refine wpIn_loop (fun a wr => ∃ (d : Int) (B6 : Nat) (ms : List Nat) (u7 u8 u9 u19 u20 u21 u22 u23 u24 u25 u26 u27 u28 u29 u30 u31 u32 u33 u34 u35 u36 u37 u38 u39 u40 u41 u42 u43 u44 u45 u46 u47 u48 u49 u50 u51 u52 u53 u54 u55 u56 u57 u58 u59 u60 u61 u62 : Value), a = { tmps := #[.agg #[.string nm, .slice hA hs.length hc, .slice sA ss.length sc, .int .i64 gr, .int .i64 fr, .int .i64 dm, .int .i64 ms0], .int .i64 t, .pointer (some ⟨w.heap.size, 0, none⟩), .pointer (some ⟨w.heap.size + 1, 0, none⟩), .int .i64 0, .bool false, .pointer (some ⟨B6, 0, none⟩), u7, u8, u9, .int .i64 t, .bool true, .bool false, .agg #[.string nm, .slice hA hs.length hc, .slice sA ss.length sc, .int .i64 gr, .int .i64 fr, .int .i64 dm, .int .i64 ms0], .int .i64 t, .bool false, undef, .int .i64 t, .int .i64 (t / 86400), u19, u20, u21, u22, u23, u24, u25, u26, u27, u28, u29, u30, u31, u32, u33, u34, u35, u36, u37, u38, u39, u40, u41, u42, u43, u44, u45, u46, u47, u48, u49, u50, u51, u52, u53, u54, u55, u56, u57, u58, u59, u60, u61, u62], defers := ms.map mark } ∧ (t / 86400 ≤ d ∧ d ≤ t / 86400 + 8) ∧ NextI hs t d ∧ Boxed wr B6 3 (.int .i64 d) ∧ Blk wr w.heap.size #[.string nm, .slice hA hs.length hc, .slice sA ss.length sc, .int .i64 gr, .int .i64 fr, .int .i64 dm, .int .i64 ms0] 25 ∧ Boxed wr (w.heap.size + 1) 3 (.int .i64 t) ∧ Below w.heap.size w wr ∧ (∀ D ∈ ms, wr.heap[D]? = some (.deferred (some []))) ∧ ms.Nodup ∧ (∀ D ∈ ms, w.heap.size ≤ D) ∧ (ms.length : Int) = d - t / 86400)
        (fun a _ => 9 - a.defers.length) ?start ?round
      case start =>
        exact ⟨t / 86400, w1.heap.size, [], undef, undef, undef, undef, undef, undef, undef, undef, undef, undef, undef, undef, undef, undef, undef, undef, undef, undef, undef, undef, undef, undef, undef, undef, undef, undef, undef, undef, undef, undef, undef, undef, undef, undef, undef, undef, undef, undef, undef, undef, undef, undef, undef, undef, undef, undef, undef, rfl, by omega, NextI.start _ _, Boxed.new w1 _ _, bZ.alloc _, bT.alloc _, hbw.al _, by simp, by simp, by simp, by simp⟩
      case round =>
        rintro a wr ⟨d, B6, ms, u7, u8, u9, u19, u20, u21, u22, u23, u24, u25, u26, u27, u28, u29, u30, u31, u32, u33, u34, u35, u36, u37, u38, u39, u40, u41, u42, u43, u44, u45, u46, u47, u48, u49, u50, u51, u52, u53, u54, u55, u56, u57, u58, u59, u60, u61, u62, rfl, ⟨hd1, hd2⟩, HI, b6, bZ2, bT2, hB, hms, hnd, hmB, hml⟩
        clear bZ bT cT hbw hb1
        have c6 := b6.cell
        have cT := bT2.cell
        have z0 : wr.cell? ⟨w.heap.size, 0, none⟩ = some (.string nm) := bZ2.cell 0 rfl
        have z1 : wr.cell? ⟨w.heap.size, 1, none⟩ = some (.slice hA hs.length hc) := bZ2.cell 1 rfl
        have z2 : wr.cell? ⟨w.heap.size, 2, none⟩ = some (.slice sA ss.length sc) := bZ2.cell 2 rfl
        have z3 : wr.cell? ⟨w.heap.size, 3, none⟩ = some (.int .i64 gr) := bZ2.cell 3 rfl
        have z4 : wr.cell? ⟨w.heap.size, 4, none⟩ = some (.int .i64 fr) := bZ2.cell 4 rfl
        have z5 : wr.cell? ⟨w.heap.size, 5, none⟩ = some (.int .i64 dm) := bZ2.cell 5 rfl
        have z6 : wr.cell? ⟨w.heap.size, 6, none⟩ = some (.int .i64 ms0) := bZ2.cell 6 rfl
        have lt0 := bZ2.lt
        have lt1 := bT2.lt
        have lt6 := b6.lt
        by_cases hdd : d ≤ t / 86400 + 7
        · have HML := Lib.hid hml
          have HMS := Lib.hid hms
          have HNI := Lib.hid HI
          clear hml hms HI
          gi_wp2_with (refine ⟨trivial, ?_⟩; gi_at_call 37; refine (hours_in _ ⟨nm, hA, hc, hs, sA, sc, ss, gr, fr, dm, ms0⟩ _).mono ?_; rintro e w' ⟨rfl, rfl⟩)
          have hd0 : 0 ≤ d := by omega
          have hd3 : d ≤ 795371 := by omega
          have hfsh := (HNI.out.step (t := t) ht'.1)
          have hstep := Lib.hid (show firstF d t (hs.filter vw) < 0 → NextI hs t (d + 1) from fun q => HNI.out.step ht'.1 q)
          have hfound := Lib.hid (show 0 ≤ firstF d t (hs.filter vw) → firstF d t (hs.filter vw) < 68719476736 → NextP hs t (firstF d t (hs.filter vw)) true from fun q q2 => HNI.out.found ⟨ht'.1, by omega⟩ hno q q2)
          have hlate := Lib.hid (show 68719476736 ≤ firstF d t (hs.filter vw) → NextP hs t 0 false from fun q => HNI.out.late ⟨ht'.1, by omega⟩ hno q)
          clear hfsh
          have bF := (Boxed.new wr 3 (.int .i64 (-1))).alloc (.cells #[.string nm, .slice hA hs.length hc, .slice sA ss.length sc, .int .i64 gr, .int .i64 fr, .int .i64 dm, .int .i64 ms0] 25)
          have bC := Blk.new (wr.alloc (.cells #[.int .i64 (-1)] 3)) #[.string nm, .slice hA hs.length hc, .slice sA ss.length sc, .int .i64 gr, .int .i64 fr, .int .i64 dm, .int .i64 ms0] 25
          rw [World.size_alloc] at bC
          have hB0 : Below wr.heap.size wr ((wr.alloc (.cells #[.int .i64 (-1)] 3)).alloc (.cells #[.string nm, .slice hA hs.length hc, .slice sA ss.length sc, .int .i64 gr, .int .i64 fr, .int .i64 dm, .int .i64 ms0] 25)) := ((Below.refl _ wr).al _).al _
          have hsz : ((wr.alloc (.cells #[.int .i64 (-1)] 3)).alloc (.cells #[.string nm, .slice hA hs.length hc, .slice sA ss.length sc, .int .i64 gr, .int .i64 fr, .int .i64 dm, .int .i64 ms0] 25)).heap.size = wr.heap.size + 2 := by simp
          obtain ⟨W0, hW0⟩ : ∃ W0, (wr.alloc (.cells #[.int .i64 (-1)] 3)).alloc (.cells #[.string nm, .slice hA hs.length hc, .slice sA ss.length sc, .int .i64 gr, .int .i64 fr, .int .i64 dm, .int .i64 ms0] 25) = W0 := ⟨_, rfl⟩
          rw [hW0] at bF bC hB0 hsz ⊢
          clear hW0 z0 z1 z2 z3 z4 z5 z6 c6 cT
          have hwz : w.heap.size ≤ wr.heap.size := hB.size
          refine wpIn_rangeFunc_ownH rfl (by omega) (gf := 46) (lb := #[.pointer (some ⟨wr.heap.size + 1, 0, none⟩)]) rfl trivial (enters_of Try.func46 (by kernel_rfl) rfl)
            (hours_stops _ (by omega) (wr.heap.size + 1) w.heap.size hc hs hl W0 (by omega) (by omega) (bC.cell 1 rfl) (h1.keep (hB.trans (hB0.mono hwz)))) belowK_t (belowK_b (by omega)) (Below.refl _ _) (fun _ => rfl)
            (fun pre W => Boxed W wr.heap.size 3 (.int .i64 (firstF d t (pre.map (·.1)))) ∧ Below wr.heap.size wr W)
            (fun _ _ _ => False)
            (OwnFrom.and (Own.from (boxed_own _ _ _) _) (ownFrom_below (Nat.le_refl _) (by omega)))
            (fun _ _ _ _ _ hs _ _ => hs)
            ⟨bF, hB0⟩
            (fun x a' W => ∃ Bx, wr.heap.size < Bx ∧ Blk W Bx #[.int .i64 x.1.1, .int .i64 x.1.2.1, .int .i64 x.1.2.2] 56 ∧ a' = { tmps := #[.agg #[.string nm, .slice hA hs.length hc, .slice sA ss.length sc, .int .i64 gr, .int .i64 fr, .int .i64 dm, .int .i64 ms0], .int .i64 t, .pointer (some ⟨w.heap.size, 0, none⟩), .pointer (some ⟨w.heap.size + 1, 0, none⟩), .int .i64 0, .bool false, .pointer (some ⟨B6, 0, none⟩), .pointer (some ⟨wr.heap.size, 0, none⟩), .pointer (some ⟨Bx, 0, none⟩), u9, .int .i64 t, .bool true, .bool false, .agg #[.string nm, .slice hA hs.length hc, .slice sA ss.length sc, .int .i64 gr, .int .i64 fr, .int .i64 dm, .int .i64 ms0], .int .i64 t, .bool false, undef, .int .i64 t, .int .i64 (t / 86400), .int .i64 d, .int .i64 t, .int .i64 (t / 86400), .int .i64 (t / 86400 + 7), .bool true, u24, u25, .agg #[.string nm, .slice hA hs.length hc, .slice sA ss.length sc, .int .i64 gr, .int .i64 fr, .int .i64 dm, .int .i64 ms0], .func (.func 46) #[] #[.pointer (some ⟨wr.heap.size + 1, 0, none⟩)], .agg #[.int .i64 x.1.1, .int .i64 x.1.2.1, .int .i64 x.1.2.2], u29, u30, u31, u32, u33, u34, u35, u36, u37, u38, u39, u40, u41, u42, u43, u44, u45, u46, u47, u48, u49, u50, u51, u52, u53, u54, u55, u56, u57, u58, u59, u60, u61, u62], defers := [] })
            (fun x a' _ X Y row hs hg hr => by obtain ⟨Bx, e1, e2, e3⟩ := hs; exact ⟨Bx, e1, blk_own Bx (fun (_ : Unit) => #[.int .i64 x.1.1, .int .i64 x.1.2.1, .int .i64 x.1.2.2]) 56 () X Y row e2 hg (fun r e => (hr r e).2), e3⟩)
            ?assign ?body ?done ?stop
          case assign =>
            rintro l pre x W K ⟨bF1, hB1⟩ hK
            simp only [encV]
            gi_wp2
            exact hK _ _ ((KeepsOthers.alloc _ _).from _) ((Below.refl _ W).alloc (by have := hB1.size; omega) _) ⟨bF1.alloc _, hB1.alloc hB1.size _⟩ ⟨W.heap.size, bF1.lt, Blk.new W _ _, rfl⟩
          case body =>
            rintro l pre ⟨⟨x, y, z⟩, hv⟩ a' W hl2 ⟨r2, hr2⟩ ⟨bF1, hB1⟩ ⟨Bx, hBx, bX, rfl⟩ hlt
            have hw := (vw_iff _).1 hv
            obtain ⟨v1, v2, v3, v4, v5⟩ := hw
            simp only at v1 v2 v3 v4 v5
            have c0 : W.cell? ⟨Bx, 0, none⟩ = some (.int .i64 x) := bX.cell 0 rfl
            have c1 : W.cell? ⟨Bx, 1, none⟩ = some (.int .i64 y) := bX.cell 1 rfl
            have c6 := (b6.below hB1 lt6).cell
            have cT := (bT2.below hB1 lt1).cell
            have cF := bF1.cell
            have fF := bF1.frozen
            have hbit : bits BinOp.and IntKind.i64 (x / 2 ^ (d % 7).toNat) 1 = x / 2 ^ (d % 7).toNat % 2 := bit_and (div_pow (by omega) _).1 (by have := (div_pow (y := x) (by omega) (d % 7).toNat).2; omega)
            have hon : onD x d = (bits BinOp.and IntKind.i64 (x / 2 ^ (d % 7).toNat) 1 == 1) := by rw [hbit]; unfold onD; rw [Bool.eq_iff_iff]; simp
            have hF := firstF_snoc d t (pre.map (·.1)) (x, y, z)
            have hmap : (pre ++ [(⟨(x, y, z), hv⟩ : VW)]).map (·.1) = pre.map (·.1) ++ [(x, y, z)] := by simp
            unfold fstep at hF
            simp only at hF
            generalize firstF d t (pre.map (·.1)) = f0 at *
            cases ho : onD x d
            · rw [if_neg (by rw [ho]; simp)] at hF
              have HF := Lib.hid (show firstF d t ((pre ++ [(⟨(x, y, z), hv⟩ : VW)]).map (·.1)) = f0 by rw [hmap, hF])
              rw [ho] at hon
              have hon2 := hon.symm
              clear hF hmap hon hbit ho
              gi_wp2
              all_goals exact ⟨KeepsFrom.refl _ _, Below.refl _ _, by rw [HF.out]; exact bF1, hB1⟩
            · have hon2 : (bits BinOp.and IntKind.i64 (x / 2 ^ (d % 7).toNat) 1 == 1) = true := by rw [← hon, ho]
              by_cases hta : t ≤ 86400 * d + 60 * y
              · by_cases hff : f0 < 0 ∨ 86400 * d + 60 * y < f0
                · rw [if_pos ⟨ho, hta, hff⟩] at hF
                  have HF := Lib.hid (show firstF d t ((pre ++ [(⟨(x, y, z), hv⟩ : VW)]).map (·.1)) = 86400 * d + 60 * y by rw [hmap, hF])
                  clear hF hmap hon hbit ho
                  rcases hff with hff | hff
                  all_goals
                    gi_wp2
                    all_goals first | (exfalso; omega) | exact ⟨(KeepsOthers.setCell _ _ _).from _, (Below.refl _ _).setCell (p := ⟨wr.heap.size, 0, none⟩) (by simp; omega) _, by rw [HF.out]; exact bF1.set _, hB1.setCell (p := ⟨wr.heap.size, 0, none⟩) (by simp) _⟩
                · rw [if_neg (fun q => hff q.2.2)] at hF
                  have HF := Lib.hid (show firstF d t ((pre ++ [(⟨(x, y, z), hv⟩ : VW)]).map (·.1)) = f0 by rw [hmap, hF])
                  have hf1 : 0 ≤ f0 := by omega
                  have hf2 : f0 ≤ 86400 * d + 60 * y := by omega
                  clear hF hmap hon hbit ho hff
                  gi_wp2
                  all_goals first | (exfalso; omega) | exact ⟨KeepsFrom.refl _ _, Below.refl _ _, by rw [HF.out]; exact bF1, hB1⟩
              · rw [if_neg (fun q => hta q.2.1)] at hF
                have HF := Lib.hid (show firstF d t ((pre ++ [(⟨(x, y, z), hv⟩ : VW)]).map (·.1)) = f0 by rw [hmap, hF])
                clear hF hmap hon hbit ho
                gi_wp2
                all_goals first | (exfalso; omega) | exact ⟨KeepsFrom.refl _ _, Below.refl _ _, by rw [HF.out]; exact bF1, hB1⟩
          case done =>
            rintro D zs W hD rfl ⟨bF1, hB1⟩ hK
            rw [vws_map] at bF1
            generalize hFF : firstF d t (hs.filter vw) = f0 at *
            have cF := bF1.cell
            have c6 := (b6.below hB1 lt6).cell
            have f6 := (b6.below hB1 lt6).frozen
            have hall : ∀ E ∈ D :: ms, W.heap[E]? = some (.deferred (some [])) := by
              intro E hE
              rcases List.mem_cons.1 hE with rfl | hE
              · exact hK
              · exact (hB1.block E (Array.getElem?_eq_some_iff.1 (HMS.out E hE)).1).trans (HMS.out E hE)
            have hnd2 : (D :: ms).Nodup := List.nodup_cons.2 ⟨fun hm => by have := (Array.getElem?_eq_some_iff.1 (HMS.out D hm)).1; omega, hnd⟩
            have hmB2 : ∀ E ∈ D :: ms, w.heap.size ≤ E := by
              intro E hE
              rcases List.mem_cons.1 hE with rfl | hE
              · omega
              · exact hmB E hE
            have HALL := Lib.hid hall
            have HND := Lib.hid hnd2
            have HMB := Lib.hid hmB2
            have hBW : Below w.heap.size w W := hB.trans (hB1.mono hwz)
            clear hall hnd2 hmB2 hK hFF
            by_cases hM : 68719476736 ≤ f0
            · have HP := Lib.hid (hlate.out hM)
              gi_wp2
              exact leave_marks (v := .tuple #[.int .i64 0, .bool false]) (fun _ => by simp [results, Try.results19, go_sem]) (D :: ms) W HALL.out HND.out HMB.out hBW.size fun w' hw' => ⟨0, false, rfl, HP.out, by omega, hBW.trans hw'⟩
            · by_cases h00 : 0 ≤ f0
              · have HP := Lib.hid (hfound.out h00 (by omega))
                gi_wp2
                exact leave_marks (v := .tuple #[.int .i64 f0, .bool true]) (fun _ => by simp [results, Try.results19, go_sem]) (D :: ms) W HALL.out HND.out HMB.out hBW.size fun w' hw' => ⟨f0, true, rfl, HP.out, by omega, hBW.trans hw'⟩
              · have HI2 := Lib.hid (hstep.out (by omega))
                gi_wp2
                exact ⟨⟨d + 1, W.heap.size, D :: ms, ⟨rfl, rfl⟩, by omega, HI2.out, Boxed.new W _ _, (bZ2.below hB1 lt0).alloc _, (bT2.below hB1 lt1).alloc _, hBW.al _, fun E hE => ((World.grownBy_alloc W _ none).block E (Array.getElem?_eq_some_iff.1 (HALL.out E hE)).1 (by simp)).trans (HALL.out E hE), HND.out, HMB.out, by have := HML.out; simp; omega⟩, by have := HML.out; omega⟩
          case stop =>
            rintro D c pre W _ _ h _
            exact h.elim
        · obtain rfl : d = t / 86400 + 8 := by omega
          have HP := Lib.hid (NextI.never HI ⟨ht'.1, by omega⟩ hno)
          have HMS := Lib.hid hms
          clear hml hms HI
          gi_wp2
          exact leave_marks (v := .tuple #[.int .i64 0, .bool false]) (fun _ => by simp [results, Try.results19, go_sem]) ms wr HMS.out hnd hmB hB.size fun w' hw' => ⟨0, false, rfl, HP.out, by omega, hB.trans hw'⟩
    · have HP := Lib.hid (NextP.now ((openB_iff hs t).1 ho))
      have HO := Lib.hid ho
      clear ho h1
      go_enter Try.func19, Try.ntmps19
      go_wp2_with (first | (go_at_call 32; refine (zwithin_is HT.out _).mono ?_; rintro e w' ⟨rfl, rfl⟩) | (go_at_call 21; refine C.out.mono ?_; rw [HO.out]; rintro e w1 ⟨rfl, hb1⟩; have cT : w1.cell? ⟨w.heap.size + 1, 0, none⟩ = some (.int .i64 t) := (hb1.cell (p := ⟨w.heap.size + 1, 0, none⟩) (by simp)).trans (by simp)))
      go_ret2
      exact ⟨t, true, rfl, HP.out, by omega, hb0.st (by assumption)⟩
end Go.Proofs.Ytppnkepjipglgaa
