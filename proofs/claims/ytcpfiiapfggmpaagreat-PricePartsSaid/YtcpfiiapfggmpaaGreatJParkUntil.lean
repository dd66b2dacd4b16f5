/- Joined texts: ParkUntil, ParkDayFee, ParkEach. -/
import Derived.Test.YtcpfiiapfggmpaaGreatJParkSteps
import Derived.Test.YtcpfiiapfggmpaaGreatJFirst
import Derived.Deep.RegionHeld3
/- (stay).until, walked. -/
namespace Go.Proofs.YtcpfiiapfggmpaaGreat
open Go.RowKit Go.Lib

def SV (z : Zn) (A : Option Addr) (n c : Nat) : Value := .agg #[.string z.name, .slice z.hA z.hs.length z.hc, .slice z.sA z.ss.length z.sc, .int .i64 z.grace, .int .i64 z.free, .int .i64 z.dayMax, .int .i64 z.maxStay, .slice A n c]

theorem cell_heap {X Y : World} (h : X.heap = Y.heap) (p : Addr) : X.cell? p = Y.cell? p := by unfold World.cell?; rw [h]
theorem Rd.heap {α : Type} {enc : α → List Value} {k : Nat} {A : Option Addr} {l : List α} {X Y : World} (h : Rd enc k Y Y.heap.size A l) (hX : X.heap = Y.heap) : Rd enc k X X.heap.size A l := by
  have h1 : Rd enc k X Y.heap.size A l := h.keepW fun p _ => cell_heap hX p
  rwa [← hX] at h1

set_option maxRecDepth 100000 in
set_option maxHeartbeats 4000000 in
theorem until_any (z : Zn) (A : Option Addr) (c : Nat) (l : List Iv) (a b t : Int) {w : World} (h : ZOk w z) (hl : Rd encIv 2 w w.heap.size A l) (hE : EnfL z.hs a b l) (hb0 : 0 ≤ b) (hb1 : b ≤ 68719476736) (ht0 : 0 ≤ t) (ht1 : t ≤ 68719476736)
    (hc : checkE z = 0) (hv : V z.ss (U z.hs a b) ≤ 1125899906842624) :
    Calls Tryz.prog 158 #[SV z A l.length c, .int .i64 t] w fun e w' => e = .returned (.int .i64 (V z.ss (U z.hs a (min t b)))) ∧ Below w.heap.size w w' := by
  have hll : l.length ≤ 100000000000 := by have := hE.1.length_max; omega
  have hU0 := U_nonneg z.hs a (min t b)
  have hU1 := U_le z.hs a (b := min t b) (by omega)
  have hVm : V z.ss (U z.hs a (min t b)) ≤ 1125899906842624 := by
    have := V_mono (check_st hc).1 (U_mono z.hs a (show min t b ≤ b by omega))
    omega
  have CS : Hid (∀ W, Below w.heap.size w W → Calls Tryz.prog 117 #[ZV z, .int .i64 (U z.hs a (min t b))] W fun e w' => e = .returned (.tuple #[.int .i64 (V z.ss (U z.hs a (min t b))), .int .i64 0]) ∧ Below W.heap.size W w') := by
    intro W hW
    have := psteps_any z (U z.hs a (min t b)) (h.st hW)
    obtain ⟨e1, e2⟩ := stepsP_0 hc (s := U z.hs a (min t b)) ⟨hU0, by omega⟩ hVm
    rwa [e1, e2] at this
  obtain ⟨nm, hA, hc', hs, sA, sc, ss, gr, fr, dm, ms⟩ := z
  simp only [SV, ZV] at *
  generalize V ss (U hs a (min t b)) = r at *
  have hUN := Lib.hid (fun n hn hm => hE.until (t := t) (n := n) ⟨ht0, ht1⟩ hb0 hn hm)
  generalize U hs a (min t b) = u at *
  obtain ⟨Y1, hY1⟩ : ∃ Y, w.alloc (.cells #[.string nm, .slice hA hs.length hc', .slice sA ss.length sc, .int .i64 gr, .int .i64 fr, .int .i64 dm, .int .i64 ms, .slice A l.length c] 207) = Y := ⟨_, rfl⟩
  have bY1 : Below w.heap.size w Y1 := by rw [← hY1]; exact (Below.refl _ w).al _
  obtain ⟨Y2, hY2⟩ : ∃ Y, Y1.alloc (.cells #[.int .i64 0, .int .i64 t] 59) = Y := ⟨_, rfl⟩
  have bY2 : Below w.heap.size w Y2 := by rw [← hY2]; exact bY1.al _
  have sY1 : Y1.heap.size = w.heap.size + 1 := by rw [← hY1]; simp
  have sY2 : Y2.heap.size = w.heap.size + 2 := by rw [← hY2]; simp [sY1]
  have bZ1 : Blk Y1 w.heap.size #[.string nm, .slice hA hs.length hc', .slice sA ss.length sc, .int .i64 gr, .int .i64 fr, .int .i64 dm, .int .i64 ms, .slice A l.length c] 207 := by rw [← hY1]; exact Blk.new w _ _
  have q0 : World.cell? Y1 ⟨w.heap.size, 0, none⟩ = some (.string nm) := bZ1.cell 0 rfl; have q1 : World.cell? Y1 ⟨w.heap.size, 1, none⟩ = some (.slice hA hs.length hc') := bZ1.cell 1 rfl; have q2 : World.cell? Y1 ⟨w.heap.size, 2, none⟩ = some (.slice sA ss.length sc) := bZ1.cell 2 rfl; have q3 : World.cell? Y1 ⟨w.heap.size, 3, none⟩ = some (.int .i64 gr) := bZ1.cell 3 rfl; have q4 : World.cell? Y1 ⟨w.heap.size, 4, none⟩ = some (.int .i64 fr) := bZ1.cell 4 rfl; have q5 : World.cell? Y1 ⟨w.heap.size, 5, none⟩ = some (.int .i64 dm) := bZ1.cell 5 rfl; have q6 : World.cell? Y1 ⟨w.heap.size, 6, none⟩ = some (.int .i64 ms) := bZ1.cell 6 rfl; have q7 : World.cell? Y1 ⟨w.heap.size, 7, none⟩ = some (.slice A l.length c) := bZ1.cell 7 rfl
  have bZ2 : Blk Y2 w.heap.size #[.string nm, .slice hA hs.length hc', .slice sA ss.length sc, .int .i64 gr, .int .i64 fr, .int .i64 dm, .int .i64 ms, .slice A l.length c] 207 := by rw [← hY2, ← hY1]; exact (Blk.new w _ _).alloc _
  have q0 : World.cell? Y2 ⟨w.heap.size, 0, none⟩ = some (.string nm) := bZ2.cell 0 rfl; have q1 : World.cell? Y2 ⟨w.heap.size, 1, none⟩ = some (.slice hA hs.length hc') := bZ2.cell 1 rfl; have q2 : World.cell? Y2 ⟨w.heap.size, 2, none⟩ = some (.slice sA ss.length sc) := bZ2.cell 2 rfl; have q3 : World.cell? Y2 ⟨w.heap.size, 3, none⟩ = some (.int .i64 gr) := bZ2.cell 3 rfl; have q4 : World.cell? Y2 ⟨w.heap.size, 4, none⟩ = some (.int .i64 fr) := bZ2.cell 4 rfl; have q5 : World.cell? Y2 ⟨w.heap.size, 5, none⟩ = some (.int .i64 dm) := bZ2.cell 5 rfl; have q6 : World.cell? Y2 ⟨w.heap.size, 6, none⟩ = some (.int .i64 ms) := bZ2.cell 6 rfl; have q7 : World.cell? Y2 ⟨w.heap.size, 7, none⟩ = some (.slice A l.length c) := bZ2.cell 7 rfl
  have hone : Rd encIv 2 Y2 Y2.heap.size (some ⟨w.heap.size + 1, 0, none⟩) [((0, t) : Iv)] := by
    rw [← hY2]
    exact (Own.lit (e := 59) Y1 0 (cs := #[.int .i64 0, .int .i64 t]) [((0, t) : Iv)] encIv_ok rfl sY1 (Nat.zero_le _) (by simp)).rd encIv_ok
  have CM : Hid (∀ (X : World), X.heap = Y2.heap → Calls Tryz.prog 169 #[.slice A l.length c, .slice (some ⟨w.heap.size + 1, 0, none⟩) 1 1] X fun e w' => NFr (fun x => Mem l x ∧ Mem [((0, t) : Iv)] x) X w' e) := Lib.hid (fun (X : World) (hX : X.heap = Y2.heap) => meet_any c 1 (w := X) ((hl.st bY2).heap hX) (hone.heap hX) hll (by simp))
  have CL := Lib.hid (fun (A3 : Option Addr) (c3 : Nat) (n3 : List Iv) (X Y : World) (hX : X.heap = Y.heap) (h3 : Rd encIv 2 Y Y.heap.size A3 n3) (hn3 : NF n3) => length_any (w := X) c3 (h3.heap hX) (by have := hn3.length_max; omega))
  clear hE hl h hll hv hVm
  go_enter Tryz.func158, Tryz.ntmps158
  go_wp2_with fail
  go_region_held3 (fun w' => w'.cell? ⟨w.heap.size, 0, none⟩ = some (.string nm) ∧ w'.cell? ⟨w.heap.size, 1, none⟩ = some (.slice hA hs.length hc') ∧ w'.cell? ⟨w.heap.size, 2, none⟩ = some (.slice sA ss.length sc) ∧ w'.cell? ⟨w.heap.size, 3, none⟩ = some (.int .i64 gr) ∧ w'.cell? ⟨w.heap.size, 4, none⟩ = some (.int .i64 fr) ∧ w'.cell? ⟨w.heap.size, 5, none⟩ = some (.int .i64 dm) ∧ w'.cell? ⟨w.heap.size, 6, none⟩ = some (.int .i64 ms) ∧ w'.cell? ⟨w.heap.size, 7, none⟩ = some (.slice A l.length c)) (go_keep) (first | (go_at_call 169; (try rw [hY1]); (try rw [hY2]); (first | (with_reducible refine (CM.out Y2.drew rfl).mono ?_) | (with_reducible refine (CM.out Y2 rfl).mono ?_)); rintro e w3 ⟨A3, c3, n3, rfl, hn3, hm3, ho3, hb3⟩; have bW : Below w.heap.size w w3 := (by first | exact bY2.drew.st hb3 | exact bY2.st hb3); have bZ : Blk w3 w.heap.size #[.string nm, .slice hA hs.length hc', .slice sA ss.length sc, .int .i64 gr, .int .i64 fr, .int .i64 dm, .int .i64 ms, .slice A l.length c] 207 := (by first | exact bZ2.drew.below hb3 bZ2.lt | exact bZ2.below hb3 bZ2.lt); have q0 : World.cell? w3 ⟨w.heap.size, 0, none⟩ = some (.string nm) := bZ.cell 0 rfl; have q1 : World.cell? w3 ⟨w.heap.size, 1, none⟩ = some (.slice hA hs.length hc') := bZ.cell 1 rfl; have q2 : World.cell? w3 ⟨w.heap.size, 2, none⟩ = some (.slice sA ss.length sc) := bZ.cell 2 rfl; have q3 : World.cell? w3 ⟨w.heap.size, 3, none⟩ = some (.int .i64 gr) := bZ.cell 3 rfl; have q4 : World.cell? w3 ⟨w.heap.size, 4, none⟩ = some (.int .i64 fr) := bZ.cell 4 rfl; have q5 : World.cell? w3 ⟨w.heap.size, 5, none⟩ = some (.int .i64 dm) := bZ.cell 5 rfl; have q6 : World.cell? w3 ⟨w.heap.size, 6, none⟩ = some (.int .i64 ms) := bZ.cell 6 rfl; have q7 : World.cell? w3 ⟨w.heap.size, 7, none⟩ = some (.slice A l.length c) := bZ.cell 7 rfl) | (go_at_call 118; (first | (with_reducible refine (CL.out A3 c3 n3 w3.drew w3 rfl (ho3.rd encIv_ok) hn3).mono ?_) | (with_reducible refine (CL.out A3 c3 n3 w3 w3 rfl (ho3.rd encIv_ok) hn3).mono ?_)); rintro e w4 ⟨n4, rfl, hn4, hm4, hb4⟩; obtain rfl := hn4.unique hn3 hm4; have bW4 : Below w.heap.size w w4 := (by first | exact bW.drew.st hb4 | exact bW.st hb4); have bZ4 : Blk w4 w.heap.size #[.string nm, .slice hA hs.length hc', .slice sA ss.length sc, .int .i64 gr, .int .i64 fr, .int .i64 dm, .int .i64 ms, .slice A l.length c] 207 := (by first | exact bZ.drew.below hb4 bZ.lt | exact bZ.below hb4 bZ.lt); have q0 : World.cell? w4 ⟨w.heap.size, 0, none⟩ = some (.string nm) := bZ4.cell 0 rfl; have q1 : World.cell? w4 ⟨w.heap.size, 1, none⟩ = some (.slice hA hs.length hc') := bZ4.cell 1 rfl; have q2 : World.cell? w4 ⟨w.heap.size, 2, none⟩ = some (.slice sA ss.length sc) := bZ4.cell 2 rfl; have q3 : World.cell? w4 ⟨w.heap.size, 3, none⟩ = some (.int .i64 gr) := bZ4.cell 3 rfl; have q4 : World.cell? w4 ⟨w.heap.size, 4, none⟩ = some (.int .i64 fr) := bZ4.cell 4 rfl; have q5 : World.cell? w4 ⟨w.heap.size, 5, none⟩ = some (.int .i64 dm) := bZ4.cell 5 rfl; have q6 : World.cell? w4 ⟨w.heap.size, 6, none⟩ = some (.int .i64 ms) := bZ4.cell 6 rfl; have q7 : World.cell? w4 ⟨w.heap.size, 7, none⟩ = some (.slice A l.length c) := bZ4.cell 7 rfl) | (go_at_call 117; rw [hUN.out _ hn3 hm3]; (with_reducible refine (CS.out _ (by first | exact bW4 | exact bW4.drew)).mono ?_); rintro e w5 ⟨rfl, hb5⟩; have bW5 : Below w.heap.size w w5 := (by first | exact bW4.st hb5 | exact bW4.drew.st hb5); have bZ5 : Blk w5 w.heap.size #[.string nm, .slice hA hs.length hc', .slice sA ss.length sc, .int .i64 gr, .int .i64 fr, .int .i64 dm, .int .i64 ms, .slice A l.length c] 207 := (by first | exact bZ4.below hb5 bZ4.lt | exact bZ4.drew.below hb5 bZ4.lt); have q0 : World.cell? w5 ⟨w.heap.size, 0, none⟩ = some (.string nm) := bZ5.cell 0 rfl; have q1 : World.cell? w5 ⟨w.heap.size, 1, none⟩ = some (.slice hA hs.length hc') := bZ5.cell 1 rfl; have q2 : World.cell? w5 ⟨w.heap.size, 2, none⟩ = some (.slice sA ss.length sc) := bZ5.cell 2 rfl; have q3 : World.cell? w5 ⟨w.heap.size, 3, none⟩ = some (.int .i64 gr) := bZ5.cell 3 rfl; have q4 : World.cell? w5 ⟨w.heap.size, 4, none⟩ = some (.int .i64 fr) := bZ5.cell 4 rfl; have q5 : World.cell? w5 ⟨w.heap.size, 5, none⟩ = some (.int .i64 dm) := bZ5.cell 5 rfl; have q6 : World.cell? w5 ⟨w.heap.size, 6, none⟩ = some (.int .i64 ms) := bZ5.cell 6 rfl; have q7 : World.cell? w5 ⟨w.heap.size, 7, none⟩ = some (.slice A l.length c) := bZ5.cell 7 rfl))
  all_goals
    go_wp2
    go_ret
    exact ⟨rfl, by first | exact bW5 | exact bW5.drew⟩
end Go.Proofs.YtcpfiiapfggmpaaGreat
/- (stay).fee, walked. -/
namespace Go.Proofs.YtcpfiiapfggmpaaGreat
open Go.RowKit Go.Lib

set_option maxRecDepth 100000 in
set_option maxHeartbeats 4000000 in
theorem fee_any (z : Zn) (A : Option Addr) (c : Nat) (l : List Iv) (a b d : Int) {w : World} (h : ZOk w z) (hl : Rd encIv 2 w w.heap.size A l) (hE : EnfL z.hs a b l) (hb0 : 0 ≤ b) (hb1 : b ≤ 68719476736) (hd0 : 0 ≤ d) (hd1 : 86400 * d ≤ b)
    (hc : checkE z = 0) (hv : V z.ss (U z.hs a b) ≤ 1125899906842624) :
    Calls Tryz.prog 119 #[SV z A l.length c, .int .i64 d] w fun e w' => e = .returned (.int .i64 (feeD z a b d)) ∧ Below w.heap.size w w' := by
  have St := (check_st hc).1
  have r0 := V_nonneg St (U z.hs a (min (86400 * d) b))
  have r1 := V_nonneg St (U z.hs a (min (86400 * (d + 1)) b))
  have r2 := V_mono St (U_mono z.hs a (show min (86400 * d) b ≤ b by omega))
  have r3 := V_mono St (U_mono z.hs a (show min (86400 * (d + 1)) b ≤ b by omega))
  have C1 := Lib.hid (fun (X : World) (hX : Below w.heap.size w X) => until_any z A c l a b (min (86400 * (d + 1)) 68719476736) (w := X) (h.st hX) (hl.st hX) hE hb0 hb1 (by omega) (by omega) hc hv)
  have C2 := Lib.hid (fun (X : World) (hX : Below w.heap.size w X) => until_any z A c l a b (86400 * d) (w := X) (h.st hX) (hl.st hX) hE hb0 hb1 (by omega) (by omega) hc hv)
  rw [show min (min (86400 * (d + 1)) 68719476736) b = min (86400 * (d + 1)) b by omega] at C1
  unfold feeD capD
  generalize V z.ss (U z.hs a (min (86400 * d) b)) = v0 at *
  generalize V z.ss (U z.hs a (min (86400 * (d + 1)) b)) = v1 at *
  have g0 : v0 ≤ 1125899906842624 := by omega
  have g1 : v1 ≤ 1125899906842624 := by omega
  clear hE h hl hv hc St r2 r3
  obtain ⟨nm, hA, hc', hs, sA, sc, ss, gr, fr, dm, ms⟩ := z
  simp only [SV] at *
  have H1 : IntKind.i64.wrap (d + 1) = d + 1 := by rw [IntKind.wrap_i64]; omega
  have H2 : IntKind.i64.wrap (86400 * (d + 1)) = 86400 * (d + 1) := by rw [IntKind.wrap_i64]; omega
  have H3 : IntKind.i64.wrap (86400 * d) = 86400 * d := by rw [IntKind.wrap_i64]; omega
  have H4 : IntKind.i64.wrap (v1 - v0) = v1 - v0 := by rw [IntKind.wrap_i64]; omega
  obtain ⟨Y1, hY1⟩ : ∃ Y, w.alloc (.cells #[.string nm, .slice hA hs.length hc', .slice sA ss.length sc, .int .i64 gr, .int .i64 fr, .int .i64 dm, .int .i64 ms, .slice A l.length c] 207) = Y := ⟨_, rfl⟩
  have bW : Below w.heap.size w Y1 := by rw [← hY1]; exact (Below.refl _ w).al _
  have bZ : Blk Y1 w.heap.size #[.string nm, .slice hA hs.length hc', .slice sA ss.length sc, .int .i64 gr, .int .i64 fr, .int .i64 dm, .int .i64 ms, .slice A l.length c] 207 := by rw [← hY1]; exact Blk.new w _ _
  have q0 : World.cell? Y1 ⟨w.heap.size, 0, none⟩ = some (.string nm) := bZ.cell 0 rfl; have q1 : World.cell? Y1 ⟨w.heap.size, 1, none⟩ = some (.slice hA hs.length hc') := bZ.cell 1 rfl; have q2 : World.cell? Y1 ⟨w.heap.size, 2, none⟩ = some (.slice sA ss.length sc) := bZ.cell 2 rfl; have q3 : World.cell? Y1 ⟨w.heap.size, 3, none⟩ = some (.int .i64 gr) := bZ.cell 3 rfl; have q4 : World.cell? Y1 ⟨w.heap.size, 4, none⟩ = some (.int .i64 fr) := bZ.cell 4 rfl; have q5 : World.cell? Y1 ⟨w.heap.size, 5, none⟩ = some (.int .i64 dm) := bZ.cell 5 rfl; have q6 : World.cell? Y1 ⟨w.heap.size, 6, none⟩ = some (.int .i64 ms) := bZ.cell 6 rfl; have q7 : World.cell? Y1 ⟨w.heap.size, 7, none⟩ = some (.slice A l.length c) := bZ.cell 7 rfl
  go_enter Tryz.func119, Tryz.ntmps119
  go_wp2_with fail
  go_region_held3 (fun w' => w'.cell? ⟨w.heap.size, 0, none⟩ = some (.string nm) ∧ w'.cell? ⟨w.heap.size, 1, none⟩ = some (.slice hA hs.length hc') ∧ w'.cell? ⟨w.heap.size, 2, none⟩ = some (.slice sA ss.length sc) ∧ w'.cell? ⟨w.heap.size, 3, none⟩ = some (.int .i64 gr) ∧ w'.cell? ⟨w.heap.size, 4, none⟩ = some (.int .i64 fr) ∧ w'.cell? ⟨w.heap.size, 5, none⟩ = some (.int .i64 dm) ∧ w'.cell? ⟨w.heap.size, 6, none⟩ = some (.int .i64 ms) ∧ w'.cell? ⟨w.heap.size, 7, none⟩ = some (.slice A l.length c)) (go_keep) (first | (go_at_call 158; (with_reducible refine (C1.out _ (by first | exact bW | exact bW.drew)).mono ?_); rintro e wn ⟨rfl, hbn⟩; have bW : Below w.heap.size w wn := (by first | exact bW.st hbn | exact bW.drew.st hbn); have bZ : Blk wn w.heap.size #[.string nm, .slice hA hs.length hc', .slice sA ss.length sc, .int .i64 gr, .int .i64 fr, .int .i64 dm, .int .i64 ms, .slice A l.length c] 207 := (by first | exact bZ.below hbn bZ.lt | exact bZ.drew.below hbn bZ.lt); have q0 : World.cell? wn ⟨w.heap.size, 0, none⟩ = some (.string nm) := bZ.cell 0 rfl; have q1 : World.cell? wn ⟨w.heap.size, 1, none⟩ = some (.slice hA hs.length hc') := bZ.cell 1 rfl; have q2 : World.cell? wn ⟨w.heap.size, 2, none⟩ = some (.slice sA ss.length sc) := bZ.cell 2 rfl; have q3 : World.cell? wn ⟨w.heap.size, 3, none⟩ = some (.int .i64 gr) := bZ.cell 3 rfl; have q4 : World.cell? wn ⟨w.heap.size, 4, none⟩ = some (.int .i64 fr) := bZ.cell 4 rfl; have q5 : World.cell? wn ⟨w.heap.size, 5, none⟩ = some (.int .i64 dm) := bZ.cell 5 rfl; have q6 : World.cell? wn ⟨w.heap.size, 6, none⟩ = some (.int .i64 ms) := bZ.cell 6 rfl; have q7 : World.cell? wn ⟨w.heap.size, 7, none⟩ = some (.slice A l.length c) := bZ.cell 7 rfl) | (go_at_call 158; (with_reducible refine (C2.out _ (by first | exact bW | exact bW.drew)).mono ?_); rintro e wn ⟨rfl, hbn⟩; have bW : Below w.heap.size w wn := (by first | exact bW.st hbn | exact bW.drew.st hbn); have bZ : Blk wn w.heap.size #[.string nm, .slice hA hs.length hc', .slice sA ss.length sc, .int .i64 gr, .int .i64 fr, .int .i64 dm, .int .i64 ms, .slice A l.length c] 207 := (by first | exact bZ.below hbn bZ.lt | exact bZ.drew.below hbn bZ.lt); have q0 : World.cell? wn ⟨w.heap.size, 0, none⟩ = some (.string nm) := bZ.cell 0 rfl; have q1 : World.cell? wn ⟨w.heap.size, 1, none⟩ = some (.slice hA hs.length hc') := bZ.cell 1 rfl; have q2 : World.cell? wn ⟨w.heap.size, 2, none⟩ = some (.slice sA ss.length sc) := bZ.cell 2 rfl; have q3 : World.cell? wn ⟨w.heap.size, 3, none⟩ = some (.int .i64 gr) := bZ.cell 3 rfl; have q4 : World.cell? wn ⟨w.heap.size, 4, none⟩ = some (.int .i64 fr) := bZ.cell 4 rfl; have q5 : World.cell? wn ⟨w.heap.size, 5, none⟩ = some (.int .i64 dm) := bZ.cell 5 rfl; have q6 : World.cell? wn ⟨w.heap.size, 6, none⟩ = some (.int .i64 ms) := bZ.cell 6 rfl; have q7 : World.cell? wn ⟨w.heap.size, 7, none⟩ = some (.slice A l.length c) := bZ.cell 7 rfl))
  all_goals
    go_wp2
    all_goals (go_ret; exact ⟨rfl, by first | exact bW | exact bW.drew⟩)
end Go.Proofs.YtcpfiiapfggmpaaGreat
/- each over the fees of days, walked. -/
namespace Go.Proofs.YtcpfiiapfggmpaaGreat
open Go.RowKit Go.Lib

theorem days_last {a b : Int} (h : daysE a b = 0) : (dayN a b : Int) = (b - 1) / 86400 - a / 86400 + 1 ∧ dayN a b ≤ 366 ∧ 0 ≤ a / 86400 ∧ (b - 1) / 86400 ≤ 795365 := by
  have := daysE_rng h
  unfold dayN
  omega
theorem feesL_take {z : Zn} {a b : Int} {k : Nat} (h : k < dayN a b) : (feesL z a b).take (k + 1) = (feesL z a b).take k ++ [feeD z a b (a / 86400 + k)] := take_snoc (feesL_get h)

set_option maxRecDepth 100000 in
set_option maxHeartbeats 4000000 in
theorem each_any (z : Zn) (A : Option Addr) (c : Nat) (l : List Iv) (a b : Int) {w : World} (h : ZOk w z) (hl : Rd encIv 2 w w.heap.size A l) (hE : EnfL z.hs a b l) (hd : daysE a b = 0)
    (hc : checkE z = 0) (hv : V z.ss (U z.hs a b) ≤ 1125899906842624) :
    Calls Tryz.prog 120 #[.int .i64 (a / 86400), .int .i64 ((b - 1) / 86400), .func (.func 119) #[SV z A l.length c] #[]] w fun e w' =>
      ∃ A' c', e = .returned (.slice A' (feesL z a b).length c') ∧ Own 3 encI 1 w' w.heap.size A' c' (feesL z a b) ∧ Below w.heap.size w w' := by
  obtain ⟨hr0, hr1, hr2, hr3⟩ := daysE_rng hd
  obtain ⟨hn0, hn1, hn2, hn3⟩ := days_last hd
  have C := Lib.hid (fun (X : World) (hX : Below w.heap.size w X) (d : Int) (hd0 : 0 ≤ d) (hd1 : 86400 * d ≤ b) => fee_any z A c l a b d (w := X) (h.st hX) (hl.st hX) hE (by omega) hr2 hd0 hd1 hc hv)
  have HT := Lib.hid (fun k (hk : k < dayN a b) => feesL_take (z := z) hk)
  have HL := Lib.hid (feesL_length z a b)
  generalize feesL z a b = L at *
  generalize dayN a b = N at *
  have hda : a / 86400 * 86400 ≤ a := by omega
  have hdb : (b - 1) / 86400 * 86400 ≤ b - 1 := by omega
  generalize a / 86400 = d0 at *
  generalize (b - 1) / 86400 = d1 at *
  clear hE h hl hv hc hd
  generalize SV z A l.length c = sv at *
  go_enter Tryz.func120, Tryz.ntmps120
  go_wp2_with fail
  go_loopw [7, 8] (fun v i wr => ∃ (k : Nat) (A' : Option Addr) (c' : Nat) (o : List Int), k ≤ N ∧ i = .int .i64 (d0 + k) ∧ Hid (L.take k = o) ∧ Hid (o.length = k) ∧ v = .slice A' o.length c' ∧ Own 3 encI 1 wr w.heap.size A' c' o ∧ Below w.heap.size w wr) (fun _ i _ => (d1 + 1 - RowKit.intOf i).toNat)
  case atStart => exact ⟨0, none, 0, [], Nat.zero_le _, by simp, rfl, rfl, rfl, Own.nil _ _, Below.refl _ _⟩
  case round =>
    obtain ⟨k, A', c', o, hk, rfl, HO, HOL, rfl, hown, hbr⟩ := hrel
    have hol : o.length ≤ 366 := by have := HOL.out; omega
    by_cases hlt : k < N
    · have hle : d0 + (k : Int) ≤ d1 := by omega
      have C1 := Lib.hid (C.out wr hbr (d0 + k) (by omega) (by omega))
      have R0 := Lib.hid (HT.out k hlt)
      generalize feeD z a b (d0 + k) = x at *
      go_wp2_with fail
      refine (C1.out).mono ?_
      rintro e w1 ⟨rfl, hb1⟩
      have hown1 := hown.st hb1
      have hbr1 := hbr.st hb1
      go_wp2_with (at_builtin; refine wpList_app1 rfl (.tmp 15) (.tmp 19) tyI encI_ok rfl x rfl _ rfl (by simp) hown1 rfl (by first | rfl | simp) (by first | omega | (simp; omega)) (by first | omega | (simp; omega)) hbr1.size ?_; intro A4 c4 w4 hown4 hb4 hs4 hf4; have hbel4 := hbr1.trans hb4)
      go_roundw
      case rel => exact ⟨k + 1, A4, c4, _, by omega, (by rw [show d0 + ((k + 1 : Nat) : Int) = d0 + k + 1 by omega]), (by have := R0.out; rw [HO.out] at this; exact this), (by have := HOL.out; unfold Hid; simp; omega), by simp, hown4, hbel4⟩
      case measure => simp [RowKit.intOf]; omega
    · obtain rfl : k = N := by omega
      have hgt : ¬ d0 + (k : Int) ≤ d1 := by omega
      have R := Lib.hid (show L = o by have := HO.out; rwa [List.take_of_length_le (by rw [HL.out]; exact Nat.le_refl _)] at this)
      go_wp2
      go_ret
      rw [R.out]
      exact ⟨A', c', rfl, hown, hbr⟩
end Go.Proofs.YtcpfiiapfggmpaaGreat
