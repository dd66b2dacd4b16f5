/- The reference's Days and Enforced, walked. -/
import Derived.Test.YtcpfiiapfggmpaaGreatZoneWithin
import Derived.Test.YtcpfiiapfggmpaaGreatZoneEnforced
namespace Go.Proofs.YtcpfiiapfggmpaaGreat
open Go.RowKit Go.Lib

theorem rdays_any (f u : Int) (w : World) :
    Calls Tryz.prog 122 #[.agg #[.int .i64 f, .int .i64 u]] w fun e w' => e = .returned (.int .i64 (daysE f u)) ∧ Below w.heap.size w w' := by
  have hb2 : Below w.heap.size w ((w.alloc (.cells #[.int .i64 f, .int .i64 u] 59)).alloc (.cells #[.int .i64 f, .int .i64 u] 59)) := ((Below.refl _ w).al _).al _
  cases hv : validB f u
  · have hn : ¬ (0 ≤ f ∧ f < u ∧ u ≤ 68719476736) := fun q => by rw [(validB_iff f u).2 q] at hv; cases hv
    have R := Lib.hid (daysE_12 hn)
    have HV := Lib.hid hv
    generalize daysE f u = r at *
    clear hv hn
    go_enter Tryz.func122, Tryz.ntmps122
    go_wp2_with (go_at_call 159; refine (rIsSpan_any _ _ _).mono ?_; rw [HV.out]; rintro e w' ⟨rfl, rfl⟩)
    all_goals (go_ret; rw [R.out]; exact ⟨rfl, hb2⟩)
  · have hq := (validB_iff f u).1 hv
    have HV := Lib.hid hv
    obtain ⟨q0, q1, q2⟩ : 0 ≤ f ∧ f < u ∧ u ≤ 68719476736 := hq
    by_cases h366 : 366 < (u - 1) / 86400 - f / 86400 + 1
    · have R := Lib.hid (daysE_3 ⟨q0, q1, q2⟩ h366)
      generalize daysE f u = r at *
      clear hv
      go_enter Tryz.func122, Tryz.ntmps122
      go_wp2_with (go_at_call 159; refine (rIsSpan_any _ _ _).mono ?_; rw [HV.out]; rintro e w' ⟨rfl, rfl⟩)
      all_goals (go_ret; rw [R.out]; exact ⟨rfl, hb2⟩)
    · have R := Lib.hid (daysE_0 ⟨q0, q1, q2⟩ h366)
      generalize daysE f u = r at *
      clear hv
      go_enter Tryz.func122, Tryz.ntmps122
      go_wp2_with (go_at_call 159; refine (rIsSpan_any _ _ _).mono ?_; rw [HV.out]; rintro e w' ⟨rfl, rfl⟩)
      all_goals (go_ret; rw [R.out]; exact ⟨rfl, hb2⟩)
theorem daysE_range {f u : Int} (h : daysE f u = 0) : 0 ≤ f ∧ f < u ∧ u ≤ 68719476736 ∧ (u - 1) / 86400 - f / 86400 ≤ 365 := by
  unfold daysE at h
  split at h
  · cases h
  · split at h
    · cases h
    · omega

set_option maxHeartbeats 2000000 in
theorem renf_any (z : Zn) (f u : Int) {w : World} (h : ZOk w z) (hl : z.hs.length ≤ 100) :
    Calls Tryz.prog 87 #[ZV z, .agg #[.int .i64 f, .int .i64 u]] w fun e w' => EnfR z.hs f u w w' e := by
  have h1 : Rd encW 3 w w.heap.size z.hA z.hs := h.1
  clear h
  obtain ⟨nm, hA, hc, hs, sA, sc, ss, gr, fr, dm, ms⟩ := z
  simp only [ZV] at *
  have hb2 : Below w.heap.size w ((w.alloc (.cells #[.string nm, .slice hA hs.length hc, .slice sA ss.length sc, .int .i64 gr, .int .i64 fr, .int .i64 dm, .int .i64 ms] 76)).alloc (.cells #[.int .i64 f, .int .i64 u] 59)) := ((Below.refl _ w).al _).al _
  have hz1 : w.heap.size + 1 < ((w.alloc (.cells #[.string nm, .slice hA hs.length hc, .slice sA ss.length sc, .int .i64 gr, .int .i64 fr, .int .i64 dm, .int .i64 ms] 76)).alloc (.cells #[.int .i64 f, .int .i64 u] 59)).heap.size := by simp
  have c1 : ((w.alloc (.cells #[.string nm, .slice hA hs.length hc, .slice sA ss.length sc, .int .i64 gr, .int .i64 fr, .int .i64 dm, .int .i64 ms] 76)).alloc (.cells #[.int .i64 f, .int .i64 u] 59)).cell? ⟨w.heap.size, 1, none⟩ = some (.slice hA hs.length hc) := by simp
  have c2 : ((w.alloc (.cells #[.string nm, .slice hA hs.length hc, .slice sA ss.length sc, .int .i64 gr, .int .i64 fr, .int .i64 dm, .int .i64 ms] 76)).alloc (.cells #[.int .i64 f, .int .i64 u] 59)).cell? ⟨w.heap.size + 1, 0, none⟩ = some (.int .i64 f) := by simp
  have c3 : ((w.alloc (.cells #[.string nm, .slice hA hs.length hc, .slice sA ss.length sc, .int .i64 gr, .int .i64 fr, .int .i64 dm, .int .i64 ms] 76)).alloc (.cells #[.int .i64 f, .int .i64 u] 59)).cell? ⟨w.heap.size + 1, 1, none⟩ = some (.int .i64 u) := by simp
  have CD := Lib.hid (rdays_any f u ((w.alloc (.cells #[.string nm, .slice hA hs.length hc, .slice sA ss.length sc, .int .i64 gr, .int .i64 fr, .int .i64 dm, .int .i64 ms] 76)).alloc (.cells #[.int .i64 f, .int .i64 u] 59)))
  unfold EnfR
  by_cases he : daysE f u = 0
  · obtain ⟨q0, q1, q2, q3⟩ := daysE_range he
    have HE := Lib.hid he
    clear he
    go_enter Tryz.func87, Tryz.ntmps87
    go_wp2_with fail
    refine CD.out.mono ?_
    rw [HE.out]
    rintro e w2 ⟨rfl, hb3⟩
    have d1 := (hb3.cell (p := ⟨w.heap.size, 1, none⟩) (show w.heap.size < _ by omega)).trans c1
    have d2 := (hb3.cell (p := ⟨w.heap.size + 1, 0, none⟩) hz1).trans c2
    have d3 := (hb3.cell (p := ⟨w.heap.size + 1, 1, none⟩) hz1).trans c3
    have b3 := hb2.st hb3
    have C := Lib.hid (rwithin_any hc (h1.st b3) hl q0 q1 q2 (by omega))
    clear c1 c2 c3 CD hb3 hb2 h1
    go_wp2_with fail
    refine C.out.mono ?_
    rintro e w4 ⟨A, c, n, rfl, hn, hm, hr, hb4⟩
    have Hm := Lib.hid hm
    clear hm
    go_wp2_with fail
    go_ret2
    exact ⟨A, c, n, by rw [HE.out]; rfl, fun _ => ⟨hn, Hm.out⟩, fun q => absurd HE.out q, hr, b3.st hb4⟩
  · generalize daysE f u = v at *
    have hv : (v != 0) = true := by simp [he]
    clear h1
    go_enter Tryz.func87, Tryz.ntmps87
    go_wp2_with fail
    refine CD.out.mono ?_
    rintro e w2 ⟨rfl, hb3⟩
    have b3 := hb2.st hb3
    go_wp2_with fail
    go_ret2
    exact ⟨none, 0, [], rfl, fun q => absurd q he, fun _ => rfl, Rd.nil, b3⟩

end Go.Proofs.YtcpfiiapfggmpaaGreat
