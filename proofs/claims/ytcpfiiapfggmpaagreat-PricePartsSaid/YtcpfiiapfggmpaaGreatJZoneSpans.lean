/- clock.Spans, walked. -/
import Derived.Test.YtcpfiiapfggmpaaGreatJZoneLeaf
import Derived.IntWalk
import Derived.BigRegion
namespace Go.Proofs.YtcpfiiapfggmpaaGreat
open Go.RowKit Go.Lib

/-- what Spans hands back within the interval's bounds -/
def SpR (x : Wn) (i : Iv) (w w' : World) (e : Ending) : Prop :=
  ∃ A c n, e = .returned (.tuple #[.slice A n.length c, .int .i64 0]) ∧ NF n ∧ (∀ t, Mem n t ↔ Sw x i t) ∧ n.length ≤ 400 ∧ Own 59 encIv 2 w' w.heap.size A c n ∧ Below w.heap.size w w'
theorem Sw_bad {x : Wn} {i : Iv} (hv : vw x = false) : NF [] ∧ ∀ t, Mem [] t ↔ Sw x i t := ⟨NF.nil, fun t => by
  simp only [Mem.nil, false_iff]
  rintro ⟨_, _, q, _⟩
  rw [hv] at q; cases q⟩

set_option maxRecDepth 100000 in
set_option maxHeartbeats 4000000 in
theorem spans_any (x y z f u : Int) {w : World} (h0 : 0 ≤ f) (h1 : f < u) (h2 : u ≤ 68719476736) (h3 : (u - 1) / 86400 - f / 86400 + 1 ≤ 366) :
    Calls Tryz.prog 155 #[.agg #[.int .i64 x, .int .i64 y, .int .i64 z], .agg #[.int .i64 f, .int .i64 u]] w fun e w' => SpR (x, y, z) (f, u) w w' e := by
  have hb0 : Below w.heap.size w ((w.alloc (.cells #[.int .i64 x, .int .i64 y, .int .i64 z] 91)).alloc (.cells #[.int .i64 f, .int .i64 u] 59)) := ((Below.refl _ w).al _).al _
  have hz0 : w.heap.size + 1 < ((w.alloc (.cells #[.int .i64 x, .int .i64 y, .int .i64 z] 91)).alloc (.cells #[.int .i64 f, .int .i64 u] 59)).heap.size := by simp
  have hu1 : (u - 1).tdiv 86400 = (u - 1) / 86400 := Int.tdiv_eq_ediv_of_nonneg (by omega)
  have hf1 : f.tdiv 86400 = f / 86400 := Int.tdiv_eq_ediv_of_nonneg (by omega)
  have hw1 : IntKind.i64.wrap (u - 1) = u - 1 := IntWalk.i64_in _ (by omega)
  go_enter Tryz.func155, Tryz.ntmps155
  go_wp2_with fail
  go_quiet (fail)
  cases hv : vw (x, y, z)
  · have HV := Lib.hid hv
    have hS := Sw_bad (i := (f, u)) hv
    clear hv hu1 hf1 hw1
    go_wp2_with (go_at_call 129; (refine (cvalid_any (x, y, z) _).mono ?_); rw [HV.out]; rintro e w' ⟨rfl, rfl⟩)
    go_ret2
    exact ⟨none, 0, [], rfl, hS.1, hS.2, by simp, Own.nil _ _, ((below_drewN hb0 _).al _)⟩
  · have HV := Lib.hid hv
    have hw := (vw_iff _).1 hv
    obtain ⟨v1, v2, v3, v4, v5⟩ := hw
    simp only at v1 v2 v3 v4 v5
    clear hv hu1 hf1 hw1
    go_wp2_with (go_at_call 129; (refine (cvalid_any (x, y, z) _).mono ?_); rw [HV.out]; rintro e w' ⟨rfl, rfl⟩)
    have hb1 := (below_drewN hb0 nq).al (.cells #[.int .i64 x, .int .i64 y, .int .i64 z] 91)
    have hbW : Below (w.heap.size + 1) (w.alloc (.cells #[.int .i64 x, .int .i64 y, .int .i64 z] 91)) ((((w.alloc (.cells #[.int .i64 x, .int .i64 y, .int .i64 z] 91)).alloc (.cells #[.int .i64 f, .int .i64 u] 59)).drewN nq).alloc (.cells #[.int .i64 x, .int .i64 y, .int .i64 z] 91)) := by
      have := (below_drewN ((Below.refl _ (w.alloc (.cells #[.int .i64 x, .int .i64 y, .int .i64 z] 91))).al (.cells #[.int .i64 f, .int .i64 u] 59)) nq).al (.cells #[.int .i64 x, .int .i64 y, .int .i64 z] 91)
      rwa [World.size_alloc] at this
    have hbI : Below (w.heap.size + 2) ((w.alloc (.cells #[.int .i64 x, .int .i64 y, .int .i64 z] 91)).alloc (.cells #[.int .i64 f, .int .i64 u] 59)) ((((w.alloc (.cells #[.int .i64 x, .int .i64 y, .int .i64 z] 91)).alloc (.cells #[.int .i64 f, .int .i64 u] 59)).drewN nq).alloc (.cells #[.int .i64 x, .int .i64 y, .int .i64 z] 91)) := by
      have := (below_drewN (Below.refl _ ((w.alloc (.cells #[.int .i64 x, .int .i64 y, .int .i64 z] 91)).alloc (.cells #[.int .i64 f, .int .i64 u] 59))) nq).al (.cells #[.int .i64 x, .int .i64 y, .int .i64 z] 91)
      rwa [World.size_alloc, World.size_alloc] at this
    have c0 : ((((w.alloc (.cells #[.int .i64 x, .int .i64 y, .int .i64 z] 91)).alloc (.cells #[.int .i64 f, .int .i64 u] 59)).drewN nq).alloc (.cells #[.int .i64 x, .int .i64 y, .int .i64 z] 91)).cell? ⟨w.heap.size, 0, none⟩ = some (.int .i64 x) := box_cell hbW (by omega) 0 _ rfl
    have c1 : ((((w.alloc (.cells #[.int .i64 x, .int .i64 y, .int .i64 z] 91)).alloc (.cells #[.int .i64 f, .int .i64 u] 59)).drewN nq).alloc (.cells #[.int .i64 x, .int .i64 y, .int .i64 z] 91)).cell? ⟨w.heap.size, 1, none⟩ = some (.int .i64 y) := box_cell hbW (by omega) 1 _ rfl
    have c2 : ((((w.alloc (.cells #[.int .i64 x, .int .i64 y, .int .i64 z] 91)).alloc (.cells #[.int .i64 f, .int .i64 u] 59)).drewN nq).alloc (.cells #[.int .i64 x, .int .i64 y, .int .i64 z] 91)).cell? ⟨w.heap.size, 2, none⟩ = some (.int .i64 z) := box_cell hbW (by omega) 2 _ rfl
    have c3 : ((((w.alloc (.cells #[.int .i64 x, .int .i64 y, .int .i64 z] 91)).alloc (.cells #[.int .i64 f, .int .i64 u] 59)).drewN nq).alloc (.cells #[.int .i64 x, .int .i64 y, .int .i64 z] 91)).cell? ⟨w.heap.size + 1, 0, none⟩ = some (.int .i64 f) := by have := box_cell hbI (by simp) 0 _ rfl; rw [World.size_alloc] at this; exact this
    have c4 : ((((w.alloc (.cells #[.int .i64 x, .int .i64 y, .int .i64 z] 91)).alloc (.cells #[.int .i64 f, .int .i64 u] 59)).drewN nq).alloc (.cells #[.int .i64 x, .int .i64 y, .int .i64 z] 91)).cell? ⟨w.heap.size + 1, 1, none⟩ = some (.int .i64 u) := by have := box_cell hbI (by simp) 1 _ rfl; rw [World.size_alloc] at this; exact this
    clear hbW hbI
    have hz1 : w.heap.size + 1 < ((((w.alloc (.cells #[.int .i64 x, .int .i64 y, .int .i64 z] 91)).alloc (.cells #[.int .i64 f, .int .i64 u] 59)).drewN nq).alloc (.cells #[.int .i64 x, .int .i64 y, .int .i64 z] 91)).heap.size := by simp
    clear hb0 hz0
    generalize (((w.alloc (.cells #[.int .i64 x, .int .i64 y, .int .i64 z] 91)).alloc (.cells #[.int .i64 f, .int .i64 u] 59)).drewN nq).alloc (.cells #[.int .i64 x, .int .i64 y, .int .i64 z] 91) = w1 at *
    go_loopw [8, 9] (fun v i wr => ∃ (d : Int) (A : Option Addr) (c : Nat) (o : List Iv), f / 86400 ≤ d ∧ d ≤ (u - 1) / 86400 + 1 ∧ i = .int .i64 d ∧ v = .slice A o.length c ∧ Hid (SInv (Sw (x, y, z) (f, u)) o (86400 * d)) ∧ (o.length : Int) ≤ d - f / 86400 ∧ Own 59 encIv 2 wr w1.heap.size A c o ∧ Below w1.heap.size w1 wr) (fun _ i _ => ((u - 1) / 86400 + 1 - RowKit.intOf i).toNat)
    case atStart => exact ⟨f / 86400, none, 0, [], Int.le_refl _, by omega, rfl, rfl, Sw.start _ _, by simp, Own.nil _ _, Below.refl _ _⟩
    case round =>
      obtain ⟨d, A, c, o, hd1, hd2, rfl, rfl, HI, hol, hown, hbr⟩ := hrel
      have bel := hb1.st hbr
      have hz2 : w.heap.size + 1 < wr.heap.size := Nat.lt_of_lt_of_le hz1 hbr.size
      have d0 := (hbr.cell (p := ⟨w.heap.size, 0, none⟩) (show w.heap.size < w1.heap.size by omega)).trans c0
      have d1 := (hbr.cell (p := ⟨w.heap.size, 1, none⟩) (show w.heap.size < w1.heap.size by omega)).trans c1
      have d2 := (hbr.cell (p := ⟨w.heap.size, 2, none⟩) (show w.heap.size < w1.heap.size by omega)).trans c2
      have d3 := (hbr.cell (p := ⟨w.heap.size + 1, 0, none⟩) (show w.heap.size + 1 < w1.heap.size by omega)).trans c3
      have d4 := (hbr.cell (p := ⟨w.heap.size + 1, 1, none⟩) (show w.heap.size + 1 < w1.heap.size by omega)).trans c4
      by_cases hlt : d ≤ (u - 1) / 86400
      · have hd0 : 0 ≤ d := by omega
        have hbr2 := hbr.al (.cells #[.int .i64 x, .int .i64 y, .int .i64 z] 91)
        have hown2 := hown.alloc (.cells #[.int .i64 x, .int .i64 y, .int .i64 z] 91)
        cases ho : onD x d
        · have HO := Lib.hid ho
          have R := Lib.hid (Sw.off HI.out ho)
          clear ho c0 c1 c2 c3 c4
          go_wp2_with (go_at_call 130; (refine (on_any (x, y, z) _ _ HV.out hd0).mono ?_); rw [HO.out]; rintro e w' ⟨rfl, rfl⟩)
          go_roundw
          case rel => exact ⟨d + 1, A, c, o, by omega, by omega, rfl, rfl, R, by omega, hown2, hbr2⟩
          case measure => simp [RowKit.intOf]; omega
        · have HO := Lib.hid ho
          clear c0 c1 c2 c3 c4
          have hmul : IntKind.i64.wrap (d * 86400) = d * 86400 := IntWalk.i64_in _ (by omega)
          have hy60 : IntKind.i64.wrap (y * 60) = y * 60 := IntWalk.i64_in _ (by omega)
          have hz60 : IntKind.i64.wrap (z * 60) = z * 60 := IntWalk.i64_in _ (by omega)
          have hs1 : IntKind.i64.wrap (d * 86400 + y * 60) = d * 86400 + y * 60 := IntWalk.i64_in _ (by omega)
          have hs2 : IntKind.i64.wrap (d * 86400 + z * 60) = d * 86400 + z * 60 := IntWalk.i64_in _ (by omega)
          go_wp2_with (go_at_call 130; (refine (on_any (x, y, z) _ _ HV.out hd0).mono ?_); rw [HO.out]; rintro e w' ⟨rfl, rfl⟩)
          have e1 := (World.cell?_alloc_lt wr (.cells #[.int .i64 x, .int .i64 y, .int .i64 z] 91) ⟨w.heap.size, 1, none⟩ (show w.heap.size < wr.heap.size by omega)).trans d1
          have e2 := (World.cell?_alloc_lt wr (.cells #[.int .i64 x, .int .i64 y, .int .i64 z] 91) ⟨w.heap.size, 2, none⟩ (show w.heap.size < wr.heap.size by omega)).trans d2
          have e3 := (World.cell?_alloc_lt wr (.cells #[.int .i64 x, .int .i64 y, .int .i64 z] 91) ⟨w.heap.size + 1, 0, none⟩ hz2).trans d3
          have e4 := (World.cell?_alloc_lt wr (.cells #[.int .i64 x, .int .i64 y, .int .i64 z] 91) ⟨w.heap.size + 1, 1, none⟩ hz2).trans d4
          go_quiet (fail)
          obtain ⟨F, hF⟩ : ∃ F, F = max f (d * 86400 + y * 60) := ⟨_, rfl⟩
          obtain ⟨U, hU⟩ : ∃ U, U = min u (d * 86400 + z * 60) := ⟨_, rfl⟩
          have eF : (if f < d * 86400 + y * 60 then d * 86400 + y * 60 else f) = F := by rw [hF]; split <;> omega
          have eU : (if d * 86400 + z * 60 < u then d * 86400 + z * 60 else u) = U := by rw [hU]; split <;> omega
          have hF1 : 0 ≤ F := by omega
          have hF2 : F ≤ 1000000000000 := by omega
          have hU1 : -1000000000000 ≤ U := by omega
          have hU2 : U ≤ 1000000000000 := by omega
          have Hemp := Lib.hid (show ¬ F < U → SInv (Sw (x, y, z) (f, u)) o (86400 * (d + 1)) from fun h => Sw.empty HI.out HV.out HO.out (by simp only; rw [← hF, ← hU]; exact h))
          have Hadd := Lib.hid (show F < U → SInv (Sw (x, y, z) (f, u)) (jn o (F, U)) (86400 * (d + 1)) from fun h => by have := Sw.add HI.out HV.out HO.out hd0 h2 (by simp only; rw [← hF, ← hU]; exact h); simp only at this; rw [← hF, ← hU] at this; exact this)
          rw [eF, eU]
          clear hF hU eF eU hmul hy60 hz60 hs1 hs2 e1 e2 e3 e4 d0 d1 d2 d3 d4 HI
          have hown3 := hown2.drewN nq
          have hbr3 := below_drewN hbr2 nq
          by_cases hfu : F < U
          · have R0 := Hadd.out hfu
            clear Hemp Hadd
            rcases snoc_cases o with rfl | ⟨q, s, rfl⟩
            · rw [jn_nil] at R0
              have R := Lib.hid R0
              clear R0
              go_wp2_with (at_builtin; refine wpList_app1 rfl (.tmp 94) (.tmp 98) tyIv encIv_ok rfl ((F, U) : Iv) rfl _ rfl (by simp) hown3 rfl (by first | rfl | simp) (by first | omega | (simp; omega)) (by first | omega | (simp; omega)) hbr3.size ?_; intro A4 c4 w4 hown4 hb4 hs4 hf4; have hbel4 := hbr3.trans hb4)
              go_roundw
              case rel => exact ⟨d + 1, A4, c4, _, by omega, by omega, rfl, by simp, R, by simp; omega, hown4, hbel4⟩
              case measure => simp [RowKit.intOf]; omega
            · have hql : (q.length : Int) ≤ 366 := by simp at hol; omega
              have hol2 : (q.length : Int) + 1 ≤ d - f / 86400 := by simp at hol; omega
              rw [jn_snoc] at R0
              obtain ⟨hA, h00, _⟩ | ⟨g, hA, hg1, hg2⟩ := hown3.form
              · simp at h00
              · subst hA
                obtain ⟨s0, s1⟩ := s
                have k1 := hown3.cells encIv_ok rfl (i := q.length) (x := (s0, s1)) (by simp) (j := 1) (u := .int .i64 s1) rfl
                have k2 := hown3.frozen rfl (q.length * 2 + 1)
                by_cases he : s1 = F
                · rw [if_pos he] at R0
                  have R := Lib.hid R0
                  subst he
                  have hown4 := hown3.stored encIv_ok (g := g) (i := q.length) (j := 1) (x := (s0, s1)) (y := (s0, U)) (u := .int .i64 U) rfl (by simp) (by omega) rfl
                  have hset : (q ++ [(s0, s1)]).set q.length (s0, U) = q ++ [(s0, U)] := by simp
                  rw [hset] at hown4
                  have hbr4 := hbr3.setCell (p := ⟨g, q.length * 2 + 1, none⟩) hg1 (.int .i64 U)
                  clear hset R0 hown hown2 hown3 hbr hbr2
                  go_wp2_with fail
                  go_roundw
                  case rel => exact ⟨d + 1, _, c, _, by omega, by omega, rfl, by simp, R, by simp; omega, hown4, hbr4⟩
                  case measure => simp [RowKit.intOf]; omega
                · rw [if_neg he] at R0
                  have R := Lib.hid R0
                  have he2 : (s1 == F) = false := by simp [he]
                  clear R0
                  go_wp2_with (at_builtin; refine wpList_app1 rfl (.tmp 94) (.tmp 98) tyIv encIv_ok rfl ((F, U) : Iv) rfl _ rfl (by simp) hown3 rfl (by first | rfl | simp) (by first | omega | (simp; omega)) (by first | omega | (simp; omega)) hbr3.size ?_; intro A4 c4 w4 hown4 hb4 hs4 hf4; have hbel4 := hbr3.trans hb4)
                  go_roundw
                  case rel => exact ⟨d + 1, A4, c4, _, by omega, by omega, rfl, by simp, R, by simp; omega, hown4, hbel4⟩
                  case measure => simp [RowKit.intOf]; omega
          · have R := Lib.hid (Hemp.out hfu)
            clear Hemp Hadd
            go_wp2_with fail
            go_roundw
            case rel => exact ⟨d + 1, A, c, o, by omega, by omega, rfl, rfl, R, by omega, hown3, hbr3⟩
            case measure => simp [RowKit.intOf]; omega
      · obtain rfl : d = (u - 1) / 86400 + 1 := by omega
        have hS := Sw.finish HI.out (by simp only; omega)
        have H1 := Lib.hid hS.1
        have H2 := Lib.hid hS.2
        clear hS
        go_wp2
        go_ret2
        exact ⟨A, c, o, rfl, H1.out, H2.out, by omega, hown.mono (by omega), bel⟩
end Go.Proofs.YtcpfiiapfggmpaaGreat
