/- Scales that are valid: their checks say so; the part at a level. occupancy's and the reference's, walked. -/
import Derived.Test.YtelchfijalkibaaGreatDoorNetTop
import Derived.Test.YtelchfijalkibaaGreatDoorJRelMath
set_option linter.unusedSimpArgs false
namespace Go.Proofs.YtelchfijalkibaaGreatDoor
open Go.RowKit Go.Lib

/-- a valid scale -/
structure ScOk (pe : Int) (us ds qs : List Int) : Prop where
  ul : us.length ≤ 8
  p1 : 1 ≤ pe
  p2 : pe ≤ 86400
  dl : ds.length = us.length
  ql : qs.length = us.length + 1
  one : ∀ (k : Nat) (u d : Int), us[k]? = some u → ds[k]? = some d → 0 ≤ d ∧ d < u ∧ u ≤ 2147483648
  two : ∀ (k : Nat) (v u v2 d : Int), us[k]? = some v → us[k + 1]? = some u → ds[k]? = some v2 → ds[k + 1]? = some d → v < u ∧ v2 < d
  q : ∀ x ∈ qs, 0 ≤ x ∧ x ≤ 10000
/-- the part at a level -/
def partM (qs : List Int) (lv : Int) : Int := if lv < 0 ∨ (qs.length : Int) ≤ lv then 1000 else (qs[lv.toNat]?).getD 1000
theorem partM_out {qs : List Int} {lv : Int} (h : lv < 0 ∨ (qs.length : Int) ≤ lv) : partM qs lv = 1000 := if_pos h
theorem partM_in {qs : List Int} {k : Nat} {q : Int} (h : qs[k]? = some q) : partM qs (k : Int) = q := by
  have hk := (List.getElem?_eq_some_iff.1 h).1
  unfold partM
  rw [if_neg (by omega), Int.toNat_natCast, h]
  rfl
theorem partM_bnd {pe : Int} {us ds qs : List Int} (h : ScOk pe us ds qs) (lv : Int) : 0 ≤ partM qs lv ∧ partM qs lv ≤ 10000 := by
  by_cases c : lv < 0 ∨ (qs.length : Int) ≤ lv
  · rw [partM_out c]; omega
  · obtain ⟨k, rfl⟩ := Int.eq_ofNat_of_zero_le (show 0 ≤ lv by omega)
    have hk : k < qs.length := by omega
    have := List.getElem?_eq_getElem hk
    rw [partM_in this]
    exact h.q _ (List.getElem_mem hk)

set_option maxRecDepth 100000 in
set_option maxHeartbeats 16000000 in
theorem pscale_ok {uA dA qA : Option Addr} (uc dc qc : Nat) (pe : Int) {us ds qs : List Int} {w : World} (hok : ScOk pe us ds qs) (hu : Rd encI 1 w w.heap.size uA us) (hd : Rd encI 1 w w.heap.size dA ds) (hq : Rd encI 1 w w.heap.size qA qs) :
    Calls Tryz.prog 55 #[.agg #[.int .i64 pe, .slice uA us.length uc, .slice dA ds.length dc, .slice qA qs.length qc]] w fun e w' => e = .returned (.int .i64 0) ∧ Below w.heap.size w w' := by
  obtain ⟨Y, hY⟩ : ∃ Y, w.alloc (.cells #[.int .i64 pe, .slice uA us.length uc, .slice dA ds.length dc, .slice qA qs.length qc] 35) = Y := ⟨_, rfl⟩
  have bW : Below w.heap.size w Y := by rw [← hY]; exact (Below.refl _ w).al _
  have B1 : Blk Y w.heap.size #[.int .i64 pe, .slice uA us.length uc, .slice dA ds.length dc, .slice qA qs.length qc] 35 := by rw [← hY]; exact Blk.new w _ _
  have HU := Lib.hid (hu.st bW)
  have HD := Lib.hid (hd.st bW)
  have HQ := Lib.hid (hq.st bW)
  have z0 := B1.cell 0 (v := .int .i64 pe) rfl; have z1 := B1.cell 1 (v := .slice uA us.length uc) rfl; have z2 := B1.cell 2 (v := .slice dA ds.length dc) rfl; have z3 := B1.cell 3 (v := .slice qA qs.length qc) rfl
  have OK := Lib.hid hok
  have hul := hok.ul
  have q2 : ¬ (8 : Int) < (us.length : Int) := by omega
  have a1 : ¬ pe < 1 := by have := hok.p1; omega
  have a2 : ¬ 86400 < pe := by have := hok.p2; omega
  have hdl : ds.length = us.length := hok.dl
  have hqz : qs.length = us.length + 1 := hok.ql
  have HDL := Lib.hid hdl
  have HQL := Lib.hid hqz
  have a4 : ((ds.length : Int) != (us.length : Int)) = false := by simp; omega
  have a5 : (ds.length != us.length) = false := by simp [hdl]
  have a7 : ((qs.length : Int) != (us.length : Int) + 1) = false := by simp; omega
  clear hu hd hq hok hdl hqz
  go_enter Tryz.func55, Tryz.ntmps55
  go_wp2_with fail
  go_loopw [40] (fun j wr => ∃ k : Nat, k ≤ us.length ∧ j = .int .i64 k ∧ ∃ n, wr = Y.drewN n) (fun j _ => us.length - (RowKit.intOf j).toNat)
  case atStart => exact ⟨0, Nat.zero_le _, rfl, 0, rfl⟩
  case round =>
    obtain ⟨k, hk, rfl, n, rfl⟩ := hrel
    have k1 : (0 : Int) ≤ (k : Int) := by omega
    by_cases hi : k < us.length
    · have k2 : (k : Int) < (us.length : Int) := by omega
      have k3 : (k : Int) < (ds.length : Int) := by have := HDL.out; omega
      obtain ⟨ub, uo, u, hA, -, hx, c0⟩ := HU.out.i hi
      obtain ⟨db, do_, d, hA2, -, hx2, e0⟩ := HD.out.i (i := k) (by have := HDL.out; omega)
      have y1 := z1
      have y2 := z2
      rw [hA] at y1
      rw [hA2] at y2
      obtain ⟨o1, o2, o3⟩ := OK.out.one k u d hx hx2
      have t1d : decide (d < 0) = false := decide_eq_false (by omega)
      have t2d : decide (u ≤ d) = false := decide_eq_false (by omega)
      have t3d : decide (2147483648 < u) = false := decide_eq_false (by omega)
      have HI := Lib.hid hi
      have HX := Lib.hid (And.intro hx hx2)
      have HAU := Lib.hid hA
      have HAD := Lib.hid hA2
      clear hx hx2 hi hA hA2
      have hcap : ∀ p : Nat, p < us.length → ∃ v v2, us[p]? = some v ∧ ds[p]? = some v2 ∧ Y.cell? ⟨ub, uo + p, none⟩ = some (.int .i64 v) ∧ Y.cell? ⟨db, do_ + p, none⟩ = some (.int .i64 v2) := by
        intro p hp
        obtain ⟨b', o', v, hB, -, hv, g0⟩ := HU.out.i hp
        obtain ⟨b2', o2', v2, hB2, -, hv2, g2⟩ := HD.out.i (i := p) (by have := HDL.out; omega)
        have q := HAU.out.symm.trans hB
        injection q with q; injection q with q3 q4
        have q' := HAD.out.symm.trans hB2
        injection q' with q'; injection q' with q5 q6
        subst q3 q4 q5 q6
        exact ⟨v, v2, hv, hv2, g0, g2⟩
      have HCAP := Lib.hid hcap
      clear hcap z1 z2
      go_wp2_with fail
      go_quiet (fail)
      obtain ⟨m1, hm1⟩ : ∃ m, World.drewN (World.drewN Y n) nq = Y.drewN m := ⟨n + nq, World.drewN_drewN _ _ _⟩
      rw [hm1]
      clear hm1
      by_cases t4 : 0 < k
      case' neg =>
        have f1 : decide ((0 : Int) < (k : Int)) = false := decide_eq_false (by omega)
        have f2 : decide (0 < k) = false := decide_eq_false t4
        have f3 : ¬ (0 : Int) < (k : Int) := by omega
        go_wp2_with fail
        go_quiet (fail)
        go_wp2_with fail
        go_roundw
        case rel => exact ⟨k + 1, HI.out, by go_num, _, rfl⟩
        case measure => have := HI.out; simp [RowKit.intOf]; omega
      have f1 : decide ((0 : Int) < (k : Int)) = true := decide_eq_true (by omega)
      have f2 : decide (0 < k) = true := decide_eq_true t4
      obtain ⟨p, hp⟩ : ∃ p, p + 1 = k := ⟨k - 1, by omega⟩
      have hw : IntKind.i64.wrap ((k : Int) - 1) = (p : Int) := by rw [IntWalk.i64_in _ (by omega)]; omega
      have p0 : (0 : Int) ≤ (p : Int) := by omega
      have p1 : (p : Int) < (us.length : Int) := by have := HI.out; omega
      have p2 : (p : Int) < (ds.length : Int) := by have := HI.out; have := HDL.out; omega
      obtain ⟨v, v2, hv, hv2, g0, g2⟩ := HCAP.out p (by have := HI.out; omega)
      obtain ⟨o4, o5⟩ := OK.out.two p v u v2 d hv (by rw [hp]; exact HX.out.1) hv2 (by rw [hp]; exact HX.out.2)
      have t5d : decide (u ≤ v) = false := decide_eq_false (by omega)
      have t6d : decide (d ≤ v2) = false := decide_eq_false (by omega)
      clear hp hv hv2
      go_wp2_with fail
      go_quiet (fail)
      go_wp2_with fail
      go_roundw
      case rel => exact ⟨k + 1, HI.out, by go_num, _, rfl⟩
      case measure => have := HI.out; simp [RowKit.intOf]; omega
    · obtain rfl : k = us.length := by omega
      go_wp2_with fail
      go_loopw [104] (fun j wr => ∃ k : Nat, k ≤ qs.length ∧ j = .int .i64 k ∧ wr = Y.drewN n) (fun j _ => qs.length - (RowKit.intOf j).toNat)
      case atStart => exact ⟨0, Nat.zero_le _, rfl, rfl⟩
      case round =>
        obtain ⟨k, hk, rfl, hw⟩ := hrel
        rw [hw]
        clear hw
        have k1 : (0 : Int) ≤ (k : Int) := by omega
        by_cases hi : k < qs.length
        · have k2 : (k : Int) < (qs.length : Int) := by omega
          have hkb : k ≤ 100 := by have := HQL.out; omega
          obtain ⟨qb, qo, q, hA, -, hx, c0⟩ := HQ.out.i hi
          have hqb := OK.out.q q (List.mem_of_getElem? hx)
          have y3 := z3
          rw [hA] at y3
          have HI := Lib.hid hi
          have HAE := Lib.hid hA
          have t1 : ¬ q < 0 := by omega
          have t2 : ¬ 10000 < q := by omega
          clear hx hi z3 hqb
          rw [hA]
          clear hA
          go_wp2_with fail
          go_roundw
          case rel => exact ⟨k + 1, HI.out, by go_num, by first | rfl | trivial⟩
          case measure => have := HI.out; simp [RowKit.intOf]; omega
        · obtain rfl : k = qs.length := by omega
          go_wp2_with fail
          go_ret
          exact ⟨rfl, below_drewN bW _⟩
set_option maxRecDepth 100000 in
set_option maxHeartbeats 8000000 in
theorem ppart_any {uA dA qA : Option Addr} (uc dc qc : Nat) (pe lv : Int) {us ds qs : List Int} {w : World} (hok : ScOk pe us ds qs) (hu : Rd encI 1 w w.heap.size uA us) (hd : Rd encI 1 w w.heap.size dA ds) (hq : Rd encI 1 w w.heap.size qA qs) :
    Calls Tryz.prog 24 #[.agg #[.int .i64 pe, .slice uA us.length uc, .slice dA ds.length dc, .slice qA qs.length qc], .int .i64 lv] w fun e w' => e = .returned (.int .i64 (partM qs lv)) ∧ Below w.heap.size w w' := by
  obtain ⟨Y, hY⟩ : ∃ Y, w.alloc (.cells #[.int .i64 pe, .slice uA us.length uc, .slice dA ds.length dc, .slice qA qs.length qc] 35) = Y := ⟨_, rfl⟩
  have bW : Below w.heap.size w Y := by rw [← hY]; exact (Below.refl _ w).al _
  have B1 : Blk Y w.heap.size #[.int .i64 pe, .slice uA us.length uc, .slice dA ds.length dc, .slice qA qs.length qc] 35 := by rw [← hY]; exact Blk.new w _ _
  have CC := Lib.hid (pscale_ok uc dc qc pe hok (hu.st bW) (hd.st bW) (hq.st bW))
  have HQ := Lib.hid (hq.st bW)
  have z0 := B1.cell 0 (v := .int .i64 pe) rfl; have z1 := B1.cell 1 (v := .slice uA us.length uc) rfl; have z2 := B1.cell 2 (v := .slice dA ds.length dc) rfl; have z3 := B1.cell 3 (v := .slice qA qs.length qc) rfl
  clear hu hd hq hok
  go_enter Tryz.func24, Tryz.ntmps24
  go_wp2_with fail
  refine CC.out.mono ?_
  rintro e W2 ⟨rfl, hbn⟩
  have HB := Lib.hid (B1.below hbn B1.lt)
  have bW2 := bW.st hbn
  have HQ2 := Lib.hid (HQ.out.st hbn)
  clear hbn CC z0 z1 z2 z3 hY B1
  have z3 := HB.out.cell 3 (v := .slice qA qs.length qc) rfl
  by_cases h1 : lv < 0
  · have R := Lib.hid (partM_out (qs := qs) (lv := lv) (.inl h1))
    go_wp2_with fail
    go_ret
    rw [R.out]
    exact ⟨rfl, bW2⟩
  by_cases h2 : (qs.length : Int) ≤ lv
  · have R := Lib.hid (partM_out (qs := qs) (lv := lv) (.inr h2))
    go_wp2_with fail
    go_ret
    rw [R.out]
    exact ⟨rfl, bW2⟩
  obtain ⟨k, rfl⟩ := Int.eq_ofNat_of_zero_le (show 0 ≤ lv by omega)
  obtain ⟨qb, qo, q, rfl, -, hx, c0⟩ := HQ2.out.i (i := k) (by omega)
  have R := Lib.hid (partM_in hx)
  have k1 : (0 : Int) ≤ (k : Int) := by omega
  have k2 : (k : Int) < (qs.length : Int) := by omega
  clear hx
  go_wp2_with fail
  go_ret
  rw [R.out]
  exact ⟨rfl, bW2⟩
end Go.Proofs.YtelchfijalkibaaGreatDoor
