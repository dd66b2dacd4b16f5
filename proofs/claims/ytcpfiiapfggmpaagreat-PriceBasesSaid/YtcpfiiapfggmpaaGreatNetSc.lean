/- The reference's check of a scale, walked. -/
import Derived.Test.YtcpfiiapfggmpaaGreatNetTop
import Derived.Test.YtcpfiiapfggmpaaGreatJRelMath
set_option linter.unusedSimpArgs false
namespace Go.Proofs.YtcpfiiapfggmpaaGreat
open Go.RowKit Go.Lib

set_option maxRecDepth 100000 in
set_option maxHeartbeats 16000000 in
theorem scale_any {uA dA qA : Option Addr} (uc dc qc : Nat) (pe : Int) {us ds qs : List Int} {w : World} (hu : Rd encI 1 w w.heap.size uA us) (hd : Rd encI 1 w w.heap.size dA ds) (hq : Rd encI 1 w w.heap.size qA qs) (hql : qs.length ≤ 9223372036854775807) :
    Calls Tryz.prog 28 #[.agg #[.int .i64 pe, .slice uA us.length uc, .slice dA ds.length dc, .slice qA qs.length qc]] w fun e w' => IntR e ∧ Below w.heap.size w w' := by
  obtain ⟨Y, hY⟩ : ∃ Y, w.alloc (.cells #[.int .i64 pe, .slice uA us.length uc, .slice dA ds.length dc, .slice qA qs.length qc] 35) = Y := ⟨_, rfl⟩
  have bW : Below w.heap.size w Y := by rw [← hY]; exact (Below.refl _ w).al _
  have B1 : Blk Y w.heap.size #[.int .i64 pe, .slice uA us.length uc, .slice dA ds.length dc, .slice qA qs.length qc] 35 := by rw [← hY]; exact Blk.new w _ _
  have HU := Lib.hid (hu.st bW)
  have HD := Lib.hid (hd.st bW)
  have HQ := Lib.hid (hq.st bW)
  have z0 := B1.cell 0 (v := .int .i64 pe) rfl; have z1 := B1.cell 1 (v := .slice uA us.length uc) rfl; have z2 := B1.cell 2 (v := .slice dA ds.length dc) rfl; have z3 := B1.cell 3 (v := .slice qA qs.length qc) rfl
  clear hu hd hq
  by_cases q1 : 8 < us.length
  · have q2 : (8 : Int) < (us.length : Int) := by omega
    go_enter Tryz.func28, Tryz.ntmps28
    go_wp2_with fail
    go_ret
    exact ⟨⟨_, rfl⟩, bW⟩
  have q2 : ¬ (8 : Int) < (us.length : Int) := by omega
  by_cases a1 : pe < 1
  · go_enter Tryz.func28, Tryz.ntmps28
    go_wp2_with fail
    go_ret
    exact ⟨⟨_, rfl⟩, bW⟩
  by_cases a2 : 86400 < pe
  · go_enter Tryz.func28, Tryz.ntmps28
    go_wp2_with fail
    go_ret
    exact ⟨⟨_, rfl⟩, bW⟩
  by_cases a3 : ds.length = us.length
  case' neg =>
    have a4 : ((ds.length : Int) != (us.length : Int)) = true := by simp; omega
    have a5 : (ds.length != us.length) = true := by simp [a3]
    go_enter Tryz.func28, Tryz.ntmps28
    go_wp2_with fail
    go_ret
    exact ⟨⟨_, rfl⟩, bW⟩
  have HDL := Lib.hid a3
  have a4 : ((ds.length : Int) != (us.length : Int)) = false := by simp; omega
  have a5 : (ds.length != us.length) = false := by simp [a3]
  by_cases a6 : qs.length = us.length + 1
  case' neg =>
    have a7 : ((qs.length : Int) != (us.length : Int) + 1) = true := by simp; omega
    clear a3 a6
    go_enter Tryz.func28, Tryz.ntmps28
    go_wp2_with fail
    go_ret
    exact ⟨⟨_, rfl⟩, bW⟩
  have a7 : ((qs.length : Int) != (us.length : Int) + 1) = false := by simp; omega
  clear a3 a6
  have hul : us.length ≤ 8 := by omega
  go_enter Tryz.func28, Tryz.ntmps28
  go_wp2_with fail
  go_loopw [3] (fun j wr => ∃ k : Nat, k ≤ us.length ∧ j = .int .i64 k ∧ ∃ n, wr = Y.drewN n) (fun j _ => us.length - (RowKit.intOf j).toNat)
  case atStart => exact ⟨0, Nat.zero_le _, rfl, 0, rfl⟩
  case round =>
    obtain ⟨k, hk, rfl, n, rfl⟩ := hrel
    have k1 : (0 : Int) ≤ (k : Int) := by omega
    by_cases hi : k < us.length
    · have k2 : (k : Int) < (us.length : Int) := by omega
      have k3 : (k : Int) < (ds.length : Int) := by have := HDL.out; omega
      obtain ⟨ub, uo, u, hA, -, hx, c0⟩ := HU.out.i hi
      obtain ⟨db, do_, d, hA2, -, hx2, e0⟩ := HD.out.i (i := k) (by have := HDL.out; omega)
      have y1 := z1
      have y2 := z2
      rw [hA] at y1
      rw [hA2] at y2
      have HI := Lib.hid hi
      have HAU := Lib.hid hA
      have HAD := Lib.hid hA2
      clear hx hx2 hi hA hA2
      have hcap : ∀ p : Nat, p < us.length → ∃ v v2, Y.cell? ⟨ub, uo + p, none⟩ = some (.int .i64 v) ∧ Y.cell? ⟨db, do_ + p, none⟩ = some (.int .i64 v2) := by
        intro p hp
        obtain ⟨b', o', v, hB, -, -, g0⟩ := HU.out.i hp
        obtain ⟨b2', o2', v2, hB2, -, -, g2⟩ := HD.out.i (i := p) (by have := HDL.out; omega)
        have q := HAU.out.symm.trans hB
        injection q with q; injection q with q3 q4
        have q' := HAD.out.symm.trans hB2
        injection q' with q'; injection q' with q5 q6
        subst q3 q4 q5 q6
        exact ⟨v, v2, g0, g2⟩
      have HCAP := Lib.hid hcap
      clear hcap
      by_cases t1 : d < 0
      · have t1d : decide (d < 0) = true := decide_eq_true t1
        clear z1 z2
        go_wp2_with fail; go_quiet (fail); go_wp2_with fail; go_ret; exact ⟨⟨_, rfl⟩, by first | exact below_drewN bW _ | exact below_drewN (below_drewN bW _) _⟩
      have t1d : decide (d < 0) = false := decide_eq_false t1
      by_cases t2 : u ≤ d
      · have t2d : decide (u ≤ d) = true := decide_eq_true t2
        clear z1 z2
        go_wp2_with fail; go_quiet (fail); go_wp2_with fail; go_ret; exact ⟨⟨_, rfl⟩, by first | exact below_drewN bW _ | exact below_drewN (below_drewN bW _) _⟩
      have t2d : decide (u ≤ d) = false := decide_eq_false t2
      by_cases t3 : 2147483648 < u
      · have t3d : decide (2147483648 < u) = true := decide_eq_true t3
        clear z1 z2
        go_wp2_with fail; go_quiet (fail); go_wp2_with fail; go_ret; exact ⟨⟨_, rfl⟩, by first | exact below_drewN bW _ | exact below_drewN (below_drewN bW _) _⟩
      have t3d : decide (2147483648 < u) = false := decide_eq_false t3
      clear z1 z2
      go_wp2_with fail
      go_quiet (fail)
      obtain ⟨m1, hm1⟩ : ∃ m, World.drewN (World.drewN Y n) nq = Y.drewN m := ⟨n + nq, World.drewN_drewN _ _ _⟩
      rw [hm1]
      clear hm1
      by_cases t4 : 0 < k
      case' neg =>
        have f1 : decide ((0 : Int) < (k : Int)) = false := decide_eq_false (by omega)
        have f2 : decide (0 < k) = false := decide_eq_false t4
        have f3 : ¬ (0 : Int) < (k : Int) := by omega
        go_wp2_with fail
        go_quiet (fail)
        go_wp2_with fail
        go_roundw
        case rel => exact ⟨k + 1, HI.out, by go_num, _, rfl⟩
        case measure => have := HI.out; simp [RowKit.intOf]; omega
      have f1 : decide ((0 : Int) < (k : Int)) = true := decide_eq_true (by omega)
      have f2 : decide (0 < k) = true := decide_eq_true t4
      obtain ⟨p, hp⟩ : ∃ p, k - 1 = p := ⟨_, rfl⟩
      have hw : IntKind.i64.wrap ((k : Int) - 1) = (p : Int) := by rw [IntWalk.i64_in _ (by omega)]; omega
      have p0 : (0 : Int) ≤ (p : Int) := by omega
      have p1 : (p : Int) < (us.length : Int) := by have := HI.out; omega
      have p2 : (p : Int) < (ds.length : Int) := by have := HI.out; have := HDL.out; omega
      obtain ⟨v, v2, g0, g2⟩ := HCAP.out p (by have := HI.out; omega)
      clear hp
      by_cases t5 : u ≤ v
      · have t5d : decide (u ≤ v) = true := decide_eq_true t5
        go_wp2_with fail; go_quiet (fail); go_wp2_with fail; go_ret; exact ⟨⟨_, rfl⟩, by first | exact below_drewN bW _ | exact below_drewN (below_drewN bW _) _⟩
      have t5d : decide (u ≤ v) = false := decide_eq_false t5
      by_cases t6 : d ≤ v2
      · have t6d : decide (d ≤ v2) = true := decide_eq_true t6
        go_wp2_with fail; go_quiet (fail); go_wp2_with fail; go_ret; exact ⟨⟨_, rfl⟩, by first | exact below_drewN bW _ | exact below_drewN (below_drewN bW _) _⟩
      have t6d : decide (d ≤ v2) = false := decide_eq_false t6
      go_wp2_with fail
      go_quiet (fail)
      go_wp2_with fail
      go_roundw
      case rel => exact ⟨k + 1, HI.out, by go_num, _, rfl⟩
      case measure => have := HI.out; simp [RowKit.intOf]; omega
    · obtain rfl : k = us.length := by omega
      go_wp2_with fail
      go_loopw [4] (fun j wr => ∃ k : Nat, k ≤ qs.length ∧ j = .int .i64 k ∧ wr = Y.drewN n) (fun j _ => qs.length - (RowKit.intOf j).toNat)
      case atStart => exact ⟨0, Nat.zero_le _, rfl, rfl⟩
      case round =>
        obtain ⟨k, hk, rfl, hw⟩ := hrel
        rw [hw]
        clear hw
        have k1 : (0 : Int) ≤ (k : Int) := by omega
        by_cases hi : k < qs.length
        · have k2 : (k : Int) < (qs.length : Int) := by omega
          obtain ⟨qb, qo, q, hA, -, hx, c0⟩ := HQ.out.i hi
          have y3 := z3
          rw [hA] at y3
          have HI := Lib.hid hi
          clear hx hi hA
          by_cases t1 : q < 0
          · clear z3
            go_wp2_with fail
            go_ret
            exact ⟨⟨_, rfl⟩, below_drewN bW _⟩
          · by_cases t2 : 10000 < q
            · clear z3
              go_wp2_with fail
              go_ret
              exact ⟨⟨_, rfl⟩, below_drewN bW _⟩
            · clear z3
              go_wp2_with fail
              go_roundw
              case rel => exact ⟨k + 1, HI.out, by go_num, by first | rfl | trivial⟩
              case measure => have := HI.out; simp [RowKit.intOf]; omega
        · obtain rfl : k = qs.length := by omega
          go_wp2_with fail
          go_ret
          exact ⟨⟨_, rfl⟩, below_drewN bW _⟩
end Go.Proofs.YtcpfiiapfggmpaaGreat
