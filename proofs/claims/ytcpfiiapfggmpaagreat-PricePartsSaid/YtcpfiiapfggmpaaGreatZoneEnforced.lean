/- zone.Enforced, walked. -/
import Derived.Test.YtcpfiiapfggmpaaGreatJParkMath
import Derived.Test.YtcpfiiapfggmpaaGreatJFirst
import Derived.Test.YtcpfiiapfggmpaaGreatJZoneSpans
import Derived.Test.YtcpfiiapfggmpaaGreatJSort
import Derived.Test.YtcpfiiapfggmpaaGreatJJoin
namespace Go.Proofs.YtcpfiiapfggmpaaGreat
open Go.RowKit Go.Lib Go.Shelf
attribute [local go_sem] Oper.semAt_some

def daysE (f u : Int) : Int := if ¬ (0 ≤ f ∧ f < u ∧ u ≤ 68719476736) then 12 else if 366 < (u - 1) / 86400 - f / 86400 + 1 then 3 else 0
theorem daysE_12 {f u : Int} (h : ¬ (0 ≤ f ∧ f < u ∧ u ≤ 68719476736)) : daysE f u = 12 := by unfold daysE; rw [if_pos h]
theorem daysE_3 {f u : Int} (h : 0 ≤ f ∧ f < u ∧ u ≤ 68719476736) (h2 : 366 < (u - 1) / 86400 - f / 86400 + 1) : daysE f u = 3 := by unfold daysE; rw [if_neg (by simp [h]), if_pos h2]
theorem daysE_0 {f u : Int} (h : 0 ≤ f ∧ f < u ∧ u ≤ 68719476736) (h2 : ¬ 366 < (u - 1) / 86400 - f / 86400 + 1) : daysE f u = 0 := by unfold daysE; rw [if_neg (by simp [h]), if_neg h2]
/-- what Enforced hands back: the error; the part of the interval in normal form, or nothing -/
def EnfR (hs : List Wn) (f u : Int) (w w' : World) (e : Ending) : Prop :=
  ∃ A c n, e = .returned (.tuple #[.slice A n.length c, .int .i64 (daysE f u)]) ∧ (daysE f u = 0 → NF n ∧ ∀ t, Mem n t ↔ Sh hs (f, u) t) ∧ (daysE f u ≠ 0 → n = []) ∧ Rd encIv 2 w' w'.heap.size A n ∧ Below w.heap.size w w'
theorem one_nf {f u : Int} (h : 0 ≤ f ∧ f < u ∧ u ≤ 68719476736) : NF [((f, u) : Iv)] ∧ ∀ t, Mem [((f, u) : Iv)] t ↔ Sh [] (f, u) t := by
  refine ⟨⟨?_, ?_⟩, fun t => ?_⟩
  · simp [vld]; omega
  · simp
  · rw [Mem.cons]
    unfold vld Sh hoursP
    simp only [Mem.nil, or_false, true_or, and_true]
    omega
theorem sw_sh {hs : List Wn} {f u : Int} (h : hs ≠ []) (t : Int) : (∃ x ∈ vws hs, Sw x.1 (f, u) t) ↔ Sh hs (f, u) t := by
  unfold Sh Sw hoursP
  constructor
  · rintro ⟨x, hx, a, b, c⟩
    exact ⟨a, b, .inr ⟨x.1, vws_mem hx, c⟩⟩
  · rintro ⟨a, b, e | ⟨x, hx, c⟩⟩
    · exact absurd e h
    · exact ⟨⟨x, c.1⟩, vws_of hx c.1, a, b, c⟩
set_option maxRecDepth 100000 in
set_option maxHeartbeats 4000000 in
theorem zenf_any (z : Zn) (f u : Int) {w : World} (h : ZOk w z) (hl : z.hs.length ≤ 9000000000000000000) :
    Calls Tryz.prog 116 #[ZV z, .agg #[.int .i64 f, .int .i64 u]] w fun e w' => EnfR z.hs f u w w' e := by
  have h1 : Rd encW 3 w w.heap.size z.hA z.hs := h.1
  clear h
  obtain ⟨nm, hA, hc, hs, sA, sc, ss, gr, fr, dm, ms⟩ := z
  simp only [ZV] at *
  have hB4 : Below w.heap.size w ((((w.alloc (.cells #[.string nm, .slice hA hs.length hc, .slice sA ss.length sc, .int .i64 gr, .int .i64 fr, .int .i64 dm, .int .i64 ms] 76)).alloc (.cells #[.int .i64 f, .int .i64 u] 59)).alloc (.cells #[.slice none 0 0] 62)).alloc (.cells #[.int .i64 0] 53)) := ((((Below.refl _ w).al _).al _).al _).al _
  cases hv : validB f u
  · have hn : ¬ (0 ≤ f ∧ f < u ∧ u ≤ 68719476736) := fun q => by rw [(validB_iff f u).2 q] at hv; cases hv
    have R := Lib.hid (daysE_12 hn)
    have HV := Lib.hid hv
    unfold EnfR
    generalize daysE f u = r at *
    clear hv h1 hn
    go_enter Tryz.func116, Tryz.ntmps116
    go_wp2_with (go_at_call 114; refine (valid_any _ _ _).mono ?_; rw [HV.out]; rintro e w' ⟨rfl, rfl⟩)
    refine bodyPost_ret (v := .tuple #[.slice none 0 0, .int .i64 12]) (by simp [results, Tryz.results116, go_sem]) rfl ?_
    rw [R.out]
    exact ⟨none, 0, [], rfl, (fun q => by cases q), fun _ => rfl, Rd.nil, (((((Below.refl _ w).al _).al _).al _).al _).al _⟩
  · have hq := (validB_iff f u).1 hv
    have HV := Lib.hid hv
    obtain ⟨q0, q1, q2⟩ : 0 ≤ f ∧ f < u ∧ u ≤ 68719476736 := hq
    by_cases h366 : 366 < (u - 1) / 86400 - f / 86400 + 1
    · have R := Lib.hid (daysE_3 ⟨q0, q1, q2⟩ h366)
      unfold EnfR
      generalize daysE f u = r at *
      clear hv h1
      go_enter Tryz.func116, Tryz.ntmps116
      go_wp2_with (go_at_call 114; refine (valid_any _ _ _).mono ?_; rw [HV.out]; rintro e w' ⟨rfl, rfl⟩)
      refine bodyPost_ret (v := .tuple #[.slice none 0 0, .int .i64 3]) (by simp [results, Tryz.results116, go_sem]) rfl ?_
      rw [R.out]
      exact ⟨none, 0, [], rfl, (fun q => by cases q), fun _ => rfl, Rd.nil, (((((Below.refl _ w).al _).al _).al _).al _).al _⟩
    · have R := Lib.hid (daysE_0 ⟨q0, q1, q2⟩ h366)
      unfold EnfR
      generalize daysE f u = r at *
      clear hv
      by_cases hl0 : hs.length = 0
      · obtain rfl := List.eq_nil_of_length_eq_zero hl0
        have HN := Lib.hid (one_nf ⟨q0, q1, q2⟩)
        go_enter Tryz.func116, Tryz.ntmps116
        go_wp2_with (go_at_call 114; refine (valid_any _ _ _).mono ?_; rw [HV.out]; rintro e w' ⟨rfl, rfl⟩)
        refine bodyPost_ret (v := .tuple #[.slice (some ⟨w.heap.size + 1 + 1 + 1 + 1 + 1, 0, none⟩) 1 1, .int .i64 0]) (by simp [results, Tryz.results116, go_sem]) rfl ?_
        rw [R.out]
        exact ⟨_, 1, [((f, u) : Iv)], rfl, fun _ => HN.out, fun q => absurd rfl q, (Own.lit _ 0 [((f, u) : Iv)] encIv_ok rfl (by simp) (by omega) (by simp)).rd encIv_ok, ((((((Below.refl _ w).al _).al _).al _).al _).al _).al _⟩
      · have hl1 : ((hs.length : Int) == 0) = false := beq_eq_false_iff_ne.2 (by omega)
        have Hiff := Lib.hid (sw_sh (f := f) (u := u) (show hs ≠ [] by rintro rfl; exact hl0 rfl))
        refine (callsIn_wide (n := 6)).1 ?_
        refine callsIn_of_wp_marks Tryz.func116 rfl trivial ?_ rfl
        simp only [Tryz.ntmps116, List.size_toArray, List.length_cons, List.length_nil, Nat.reduceAdd, Nat.reduceSub, Array.replicate_succ, Array.replicate_zero, List.push_toArray, List.append_toArray, List.nil_append, List.cons_append]
        gi_wp2_with (first | (refine ⟨trivial, ?_⟩; gi_at_call 114; refine (callsIn_wide.2 (valid_any _ _ _)).mono ?_; rw [HV.out]; rintro e w' ⟨rfl, rfl⟩) | (refine ⟨trivial, ?_⟩; gi_at_call 154; refine (hours_in _ ⟨nm, hA, hc, hs, sA, sc, ss, gr, fr, dm, ms⟩ _).mono ?_; rintro e w' ⟨rfl, rfl⟩))
        have bI := (((((Blk.new (w.alloc (.cells #[.string nm, .slice hA hs.length hc, .slice sA ss.length sc, .int .i64 gr, .int .i64 fr, .int .i64 dm, .int .i64 ms] 76)) #[.int .i64 f, .int .i64 u] 59).alloc (.cells #[.slice none 0 0] 62)).alloc (.cells #[.int .i64 0] 53)).alloc (.cells #[.int .i64 f, .int .i64 u] 59)).alloc (.cells #[.slice none 0 0] 62)).alloc (.cells #[.string nm, .slice hA hs.length hc, .slice sA ss.length sc, .int .i64 gr, .int .i64 fr, .int .i64 dm, .int .i64 ms] 76)
        have bE := ((((Boxed.new ((w.alloc (.cells #[.string nm, .slice hA hs.length hc, .slice sA ss.length sc, .int .i64 gr, .int .i64 fr, .int .i64 dm, .int .i64 ms] 76)).alloc (.cells #[.int .i64 f, .int .i64 u] 59)) 62 (.slice none 0 0)).alloc (.cells #[.int .i64 0] 53)).alloc (.cells #[.int .i64 f, .int .i64 u] 59)).alloc (.cells #[.slice none 0 0] 62)).alloc (.cells #[.string nm, .slice hA hs.length hc, .slice sA ss.length sc, .int .i64 gr, .int .i64 fr, .int .i64 dm, .int .i64 ms] 76)
        have bR := (((Boxed.new (((w.alloc (.cells #[.string nm, .slice hA hs.length hc, .slice sA ss.length sc, .int .i64 gr, .int .i64 fr, .int .i64 dm, .int .i64 ms] 76)).alloc (.cells #[.int .i64 f, .int .i64 u] 59)).alloc (.cells #[.slice none 0 0] 62)) 53 (.int .i64 0)).alloc (.cells #[.int .i64 f, .int .i64 u] 59)).alloc (.cells #[.slice none 0 0] 62)).alloc (.cells #[.string nm, .slice hA hs.length hc, .slice sA ss.length sc, .int .i64 gr, .int .i64 fr, .int .i64 dm, .int .i64 ms] 76)
        have bL := (Boxed.new (((((w.alloc (.cells #[.string nm, .slice hA hs.length hc, .slice sA ss.length sc, .int .i64 gr, .int .i64 fr, .int .i64 dm, .int .i64 ms] 76)).alloc (.cells #[.int .i64 f, .int .i64 u] 59)).alloc (.cells #[.slice none 0 0] 62)).alloc (.cells #[.int .i64 0] 53)).alloc (.cells #[.int .i64 f, .int .i64 u] 59)) 62 (.slice none 0 0)).alloc (.cells #[.string nm, .slice hA hs.length hc, .slice sA ss.length sc, .int .i64 gr, .int .i64 fr, .int .i64 dm, .int .i64 ms] 76)
        have bC := Blk.new ((((((w.alloc (.cells #[.string nm, .slice hA hs.length hc, .slice sA ss.length sc, .int .i64 gr, .int .i64 fr, .int .i64 dm, .int .i64 ms] 76)).alloc (.cells #[.int .i64 f, .int .i64 u] 59)).alloc (.cells #[.slice none 0 0] 62)).alloc (.cells #[.int .i64 0] 53)).alloc (.cells #[.int .i64 f, .int .i64 u] 59)).alloc (.cells #[.slice none 0 0] 62)) #[.string nm, .slice hA hs.length hc, .slice sA ss.length sc, .int .i64 gr, .int .i64 fr, .int .i64 dm, .int .i64 ms] 76
        simp only [World.size_alloc] at bI bE bR bL bC
        have hB0 : Below w.heap.size w (((((((w.alloc (.cells #[.string nm, .slice hA hs.length hc, .slice sA ss.length sc, .int .i64 gr, .int .i64 fr, .int .i64 dm, .int .i64 ms] 76)).alloc (.cells #[.int .i64 f, .int .i64 u] 59)).alloc (.cells #[.slice none 0 0] 62)).alloc (.cells #[.int .i64 0] 53)).alloc (.cells #[.int .i64 f, .int .i64 u] 59)).alloc (.cells #[.slice none 0 0] 62)).alloc (.cells #[.string nm, .slice hA hs.length hc, .slice sA ss.length sc, .int .i64 gr, .int .i64 fr, .int .i64 dm, .int .i64 ms] 76)) := (((hB4.al _).al _).al _)
        have hsz : (((((((w.alloc (.cells #[.string nm, .slice hA hs.length hc, .slice sA ss.length sc, .int .i64 gr, .int .i64 fr, .int .i64 dm, .int .i64 ms] 76)).alloc (.cells #[.int .i64 f, .int .i64 u] 59)).alloc (.cells #[.slice none 0 0] 62)).alloc (.cells #[.int .i64 0] 53)).alloc (.cells #[.int .i64 f, .int .i64 u] 59)).alloc (.cells #[.slice none 0 0] 62)).alloc (.cells #[.string nm, .slice hA hs.length hc, .slice sA ss.length sc, .int .i64 gr, .int .i64 fr, .int .i64 dm, .int .i64 ms] 76)).heap.size = w.heap.size + 7 := by simp
        obtain ⟨W0, hW0⟩ : ∃ W0, ((((((w.alloc (.cells #[.string nm, .slice hA hs.length hc, .slice sA ss.length sc, .int .i64 gr, .int .i64 fr, .int .i64 dm, .int .i64 ms] 76)).alloc (.cells #[.int .i64 f, .int .i64 u] 59)).alloc (.cells #[.slice none 0 0] 62)).alloc (.cells #[.int .i64 0] 53)).alloc (.cells #[.int .i64 f, .int .i64 u] 59)).alloc (.cells #[.slice none 0 0] 62)).alloc (.cells #[.string nm, .slice hA hs.length hc, .slice sA ss.length sc, .int .i64 gr, .int .i64 fr, .int .i64 dm, .int .i64 ms] 76) = W0 := ⟨_, rfl⟩
        rw [hW0] at bI bE bR bL bC hB0 hsz ⊢
        clear hW0 hB4
        refine wpIn_rangeFunc_ownH rfl (by omega) (gf := 166) (lb := #[.pointer (some ⟨w.heap.size + 1 + 1 + 1 + 1 + 1 + 1, 0, none⟩)]) rfl trivial (enters_of Tryz.func166 (by kernel_rfl) rfl)
          (hours_stops _ (by omega) (w.heap.size + 1 + 1 + 1 + 1 + 1 + 1) w.heap.size hc hs hl W0 (by omega) (by omega) (bC.cell 1 rfl) (h1.keep hB0)) belowK_t (belowK_b (by omega)) (Below.refl _ _) (fun _ => rfl)
          (fun pre W => ((((∃ A c n, Boxed W (w.heap.size + 1 + 1 + 1 + 1 + 1) 62 (.slice A (List.length n) c) ∧ Own 59 encIv 2 W (w.heap.size + 7) A c n ∧ NF n ∧ ∀ t, Mem n t ↔ ∃ x ∈ pre, Sw x.1 (f, u) t) ∧ Blk W (w.heap.size + 1) #[.int .i64 f, .int .i64 u] 59) ∧ Boxed W (w.heap.size + 1 + 1) 62 (.slice none 0 0)) ∧ Boxed W (w.heap.size + 1 + 1 + 1) 53 (.int .i64 0)) ∧ Below w.heap.size w W)
          (fun _ _ _ => False)
          (OwnFrom.and (OwnFrom.and (OwnFrom.and (OwnFrom.and (Own.from (fun s X Y row hs hg hr => by obtain ⟨A, c, n, e1, e2, e3⟩ := hs; exact ⟨A, c, n, boxed_own (w.heap.size + 1 + 1 + 1 + 1 + 1) 62 (fun (_ : Unit) => Value.slice A (List.length n) c) () X Y row e1 hg hr, own_kept e2 hg hr, e3⟩) _) (Own.from (blk_own _ _ _) _)) (Own.from (boxed_own _ _ _) _)) (Own.from (boxed_own _ _ _) _)) (ownFrom_below (Nat.le_refl _) (by omega)))
          (fun _ _ _ _ _ hs _ _ => hs)
          ⟨⟨⟨⟨⟨none, 0, [], bL, Own.nil _ _, NF.nil, fun t => by simp [Mem.nil]⟩, bI⟩, bE⟩, bR⟩, hB0⟩
          (fun x a' W => ∃ Bx, w.heap.size + 1 + 1 + 1 + 1 + 1 < Bx ∧ Blk W Bx #[.int .i64 x.1.1, .int .i64 x.1.2.1, .int .i64 x.1.2.2] 91 ∧ a' = { tmps := #[.agg #[.string nm, .slice hA hs.length hc, .slice sA ss.length sc, .int .i64 gr, .int .i64 fr, .int .i64 dm, .int .i64 ms], .agg #[.int .i64 f, .int .i64 u], .pointer (some ⟨w.heap.size, 0, none⟩), .pointer (some ⟨w.heap.size + 1, 0, none⟩), .pointer (some ⟨w.heap.size + 1 + 1, 0, none⟩), .pointer (some ⟨w.heap.size + 1 + 1 + 1, 0, none⟩), .pointer (some ⟨w.heap.size + 1 + 1 + 1 + 1 + 1, 0, none⟩), .pointer (some ⟨Bx, 0, none⟩), undef, undef, .agg #[.int .i64 f, .int .i64 u], .bool true, .bool false, .pointer (some ⟨w.heap.size + 1, 1, none⟩), .int .i64 u, .int .i64 (u - 1), .int .i64 ((u - 1) / 86400), .pointer (some ⟨w.heap.size + 1, 0, none⟩), .int .i64 f, .int .i64 (f / 86400), .int .i64 ((u - 1) / 86400 - f / 86400), .int .i64 ((u - 1) / 86400 - f / 86400 + 1), .bool (decide (366 < (u - 1) / 86400 - f / 86400 + 1)), .pointer (some ⟨w.heap.size, 1, none⟩), .slice hA hs.length hc, .int .i64 hs.length, .bool false, undef, undef, .agg #[.string nm, .slice hA hs.length hc, .slice sA ss.length sc, .int .i64 gr, .int .i64 fr, .int .i64 dm, .int .i64 ms], .func (.func 166) #[] #[.pointer (some ⟨w.heap.size + 1 + 1 + 1 + 1 + 1 + 1, 0, none⟩)], .agg #[.int .i64 x.1.1, .int .i64 x.1.2.1, .int .i64 x.1.2.2], undef, undef, undef, undef, undef, undef, undef, undef, undef, undef, undef, undef, undef], defers := [] })
          (fun x a' _ X Y row hs hg hr => by obtain ⟨Bx, e1, e2, e3⟩ := hs; exact ⟨Bx, e1, blk_own Bx (fun (_ : Unit) => #[.int .i64 x.1.1, .int .i64 x.1.2.1, .int .i64 x.1.2.2]) 91 () X Y row e2 hg (fun r e => (hr r e).2), e3⟩)
          ?assign ?body ?done ?stop
        case assign =>
          rintro l pre x W K ⟨⟨⟨⟨⟨A, c, n, bL1, ho1, hn1⟩, bI1⟩, bE1⟩, bR1⟩, hB1⟩ hK
          simp only [encV]
          gi_wp2
          exact hK _ _ ((KeepsOthers.alloc _ _).from _) ((Below.refl _ W).alloc hB1.size _) ⟨⟨⟨⟨⟨A, c, n, bL1.alloc _, ho1.alloc _, hn1⟩, bI1.alloc _⟩, bE1.alloc _⟩, bR1.alloc _⟩, hB1.alloc hB1.size _⟩ ⟨W.heap.size, bL1.lt, Blk.new W _ _, rfl⟩
        case body =>
          rintro l pre ⟨⟨x, y, z⟩, hv⟩ a' W hl2 ⟨r2, hr2⟩ ⟨⟨⟨⟨⟨A, c, n, bL1, ho1, hn1, hm1⟩, bI1⟩, bE1⟩, bR1⟩, hB1⟩ ⟨Bx, hBx, bX, rfl⟩ hlt
          have c0 := bX.cell 0 rfl
          have c1 := bX.cell 1 rfl
          have c2 := bX.cell 2 rfl
          have ci0 := bI1.cell 0 rfl
          have ci1 := bI1.cell 1 rfl
          have h1' : 1 ≤ 6 - 1 - 1 := by omega
          have hsW := hB1.size
          have hn1l := hn1.length_max
          simp only at c0 c1 c2
          have Hm1 := Lib.hid hm1
          clear hm1
          gi_wp2_with (first | (refine ⟨trivial, ?_⟩; gi_at_call 155; refine (CallsIn.inRound l (callsIn_wide.2 (spans_any x y z f u q0 q1 q2 (by omega)))).mono ?_; rintro e w3 ⟨A3, c3, n3, rfl, hn3, hm3, hl3, ho3, hb3⟩; have cL := (bL1.below hb3 bL1.lt).cell; have Hm3 := Lib.hid hm3; clear hm3) | (refine ⟨trivial, ?_⟩; gi_at_call 156; refine (CallsIn.inRound l (callsIn_wide.2 (union_any c c3 ((ho1.st hb3).rd encIv_ok) (ho3.rd encIv_ok) (by omega) (by omega)))).mono ?_; rintro e w4 ⟨A4, c4, n4, rfl, hn4, hm4, ho4, hb4⟩; have cL4 := ((bL1.below hb3 bL1.lt).below hb4 (Nat.lt_of_lt_of_le bL1.lt hb3.size)).cell; have fL4 := ((bL1.below hb3 bL1.lt).below hb4 (Nat.lt_of_lt_of_le bL1.lt hb3.size)).frozen; have Hm4 := Lib.hid hm4; clear hm4))
          have hb34 : Below W.heap.size W w4 := hb3.st hb4
          have bL4 := bL1.below hb34 bL1.lt
          refine ⟨((keepsFrom_below hb3).trans (keepsFrom_below hb4)).trans ((KeepsOthers.setCell _ _ _).from _), (hb34.mono hsW).setCell (p := ⟨w.heap.size + 1 + 1 + 1 + 1 + 1, 0, none⟩) (by simp; omega) _, ⟨⟨⟨⟨A4, c4, n4, bL4.set _, (ho4.mono (base' := w.heap.size + 7) (by have := hb3.size; have := bX.lt; omega)).other (by simp) _, hn4, fun t => ?_⟩, ?_⟩, ?_⟩, ?_⟩, ?_⟩
          · rw [Hm4.out, Hm1.out, Hm3.out]
            constructor
            · rintro (⟨v, hv1, hv2⟩ | hv2)
              · exact ⟨v, List.mem_append.2 (.inl hv1), hv2⟩
              · exact ⟨_, List.mem_append.2 (.inr (List.mem_singleton.2 rfl)), hv2⟩
            · rintro ⟨v, hv1, hv2⟩
              rcases List.mem_append.1 hv1 with hv1 | hv1
              · exact .inl ⟨v, hv1, hv2⟩
              · rw [List.mem_singleton.1 hv1] at hv2; exact .inr hv2
          · exact (bI1.below hb34 bI1.lt).other (by simp) _
          · exact Blk.other (bE1.below hb34 bE1.lt) (by simp) _
          · exact Blk.other (bR1.below hb34 bR1.lt) (by simp) _
          · exact (hB1.trans (hb34.mono hsW)).setCell (p := ⟨w.heap.size + 1 + 1 + 1 + 1 + 1, 0, none⟩) (by simp; omega) _
        case done =>
          rintro D zs W hD rfl ⟨⟨⟨⟨⟨A, c, n, bL1, ho1, hn1, hm1⟩, bI1⟩, bE1⟩, bR1⟩, hB1⟩ hK
          have cL := bL1.cell
          have cE := bE1.cell
          have fE := bE1.frozen
          have cR := bR1.cell
          have fR := bR1.frozen
          have Hm1 := Lib.hid hm1
          clear hm1
          gi_wp2
          have hK' := (KeepsOthers.setCell (W.setCell ⟨w.heap.size + 1 + 1, 0, none⟩ (.slice A n.length c)) ⟨w.heap.size + 1 + 1 + 1, 0, none⟩ (.int .i64 0)).same D _ ((KeepsOthers.setCell W ⟨w.heap.size + 1 + 1, 0, none⟩ (.slice A n.length c)).same D _ hK rfl) rfl
          refine ⟨by simp, .inl ⟨_, _, rfl, run_takeDeferred hK', ?_⟩⟩
          have e1 : Boxed ((W.setCell ⟨w.heap.size + 1 + 1, 0, none⟩ (.slice A n.length c)).setCell ⟨w.heap.size + 1 + 1 + 1, 0, none⟩ (.int .i64 0)) (w.heap.size + 1 + 1) 62 (.slice A n.length c) := Blk.other (bE1.set _) (by simp) _
          have e2 : Boxed ((W.setCell ⟨w.heap.size + 1 + 1, 0, none⟩ (.slice A n.length c)).setCell ⟨w.heap.size + 1 + 1 + 1, 0, none⟩ (.int .i64 0)) (w.heap.size + 1 + 1 + 1) 53 (.int .i64 0) := Boxed.set _ (v := .int .i64 0) (Blk.other bR1 (by simp) _)
          have hc4 := cell_kept e1.cell (grownBy_putObj' _ D (.deferred none)) (fun r e => by cases e; exact ⟨_, hK', rfl⟩)
          have hc5 := cell_kept e2.cell (grownBy_putObj' _ D (.deferred none)) (fun r e => by cases e; exact ⟨_, hK', rfl⟩)
          have o2 := own_kept ((ho1.other (p := ⟨w.heap.size + 1 + 1, 0, none⟩) (by simp) (.slice A n.length c)).other (p := ⟨w.heap.size + 1 + 1 + 1, 0, none⟩) (by simp) (.int .i64 0)) (grownBy_putObj' _ D (.deferred none)) (fun r e => by cases e; exact ⟨_, hK', rfl⟩)
          refine ⟨.tuple #[.slice A n.length c, .int .i64 0], ?_, A, c, n, by rw [R.out], fun _ => ⟨hn1, fun t => (Hm1.out t).trans (Hiff.out t)⟩, fun q => absurd R.out q, o2.rd encIv_ok, ?_⟩
          · simp [results, Tryz.results116, go_sem, hc4, hc5]
          · exact ((hB1.setCell (p := ⟨w.heap.size + 1 + 1, 0, none⟩) (by simp; omega) _).setCell (p := ⟨w.heap.size + 1 + 1 + 1, 0, none⟩) (by simp; omega) _).trans (belowK_b (w := w) (Nat.le_refl _) _ D _ _ (by omega) hK' rfl rfl)
        case stop =>
          rintro D c pre W _ _ h _
          exact h.elim
end Go.Proofs.YtcpfiiapfggmpaaGreat
