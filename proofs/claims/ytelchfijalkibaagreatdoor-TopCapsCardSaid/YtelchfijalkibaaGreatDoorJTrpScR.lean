/- Joined texts: TrpScR, NetDis. -/
import Derived.Test.YtelchfijalkibaaGreatDoorTrpSc
import Derived.Test.YtelchfijalkibaaGreatDoorJValid
/- The reference's check of a scale, walked: what it tells. -/
set_option linter.unusedSimpArgs false
namespace Go.Proofs.YtelchfijalkibaaGreatDoor
open Go.RowKit Go.Lib

/-- what the check hands back, and tells -/
def ScR (pe : Int) (us ds qs : List Int) (e : Ending) : Prop := ∃ n : Int, e = .returned (.int .i64 n) ∧ (n = 0 → ScOk pe us ds qs)
def OneT (us ds : List Int) (k : Nat) : Prop := (∀ (j : Nat) (u d : Int), j < k → us[j]? = some u → ds[j]? = some d → 0 ≤ d ∧ d < u ∧ u ≤ 2147483648) ∧
  (∀ (j : Nat) (v u v2 d : Int), j + 1 < k → us[j]? = some v → us[j + 1]? = some u → ds[j]? = some v2 → ds[j + 1]? = some d → v < u ∧ v2 < d)
theorem OneT.zero (us ds : List Int) : OneT us ds 0 := ⟨fun _ _ _ h => absurd h (Nat.not_lt_zero _), fun _ _ _ _ _ h => absurd h (Nat.not_lt_zero _)⟩
theorem OneT.next {us ds : List Int} {k : Nat} {u d : Int} (h : OneT us ds k) (hu : us[k]? = some u) (hd : ds[k]? = some d) (h1 : 0 ≤ d ∧ d < u ∧ u ≤ 2147483648) (h2 : ∀ (p : Nat) (v v2 : Int), p + 1 = k → us[p]? = some v → ds[p]? = some v2 → v < u ∧ v2 < d) : OneT us ds (k + 1) := by
  refine ⟨fun j u' d' hj e1 e2 => ?_, fun j v u' v2 d' hj e1 e2 e3 e4 => ?_⟩
  · by_cases q : j = k
    · subst q; rw [hu] at e1; rw [hd] at e2
      obtain rfl := Option.some.inj e1
      obtain rfl := Option.some.inj e2
      exact h1
    · exact h.1 j u' d' (by omega) e1 e2
  · by_cases q : j + 1 = k
    · rw [q, hu] at e2; rw [q, hd] at e4
      obtain rfl := Option.some.inj e2
      obtain rfl := Option.some.inj e4
      exact h2 j v v2 q e1 e3
    · exact h.2 j v u' v2 d' (by omega) e1 e2 e3 e4

set_option maxRecDepth 100000 in
set_option maxHeartbeats 16000000 in
theorem scale2_any {uA dA qA : Option Addr} (uc dc qc : Nat) (pe : Int) {us ds qs : List Int} {w : World} (hu : Rd encI 1 w w.heap.size uA us) (hd : Rd encI 1 w w.heap.size dA ds) (hq : Rd encI 1 w w.heap.size qA qs) (hql : qs.length ≤ 9223372036854775807) :
    Calls Tryz.prog 13 #[.agg #[.int .i64 pe, .slice uA us.length uc, .slice dA ds.length dc, .slice qA qs.length qc]] w fun e w' => ScR pe us ds qs e ∧ Below w.heap.size w w' := by
  obtain ⟨Y, hY⟩ : ∃ Y, w.alloc (.cells #[.int .i64 pe, .slice uA us.length uc, .slice dA ds.length dc, .slice qA qs.length qc] 35) = Y := ⟨_, rfl⟩
  have bW : Below w.heap.size w Y := by rw [← hY]; exact (Below.refl _ w).al _
  have B1 : Blk Y w.heap.size #[.int .i64 pe, .slice uA us.length uc, .slice dA ds.length dc, .slice qA qs.length qc] 35 := by rw [← hY]; exact Blk.new w _ _
  have HU := Lib.hid (hu.st bW)
  have HD := Lib.hid (hd.st bW)
  have HQ := Lib.hid (hq.st bW)
  have z0 := B1.cell 0 (v := .int .i64 pe) rfl; have z1 := B1.cell 1 (v := .slice uA us.length uc) rfl; have z2 := B1.cell 2 (v := .slice dA ds.length dc) rfl; have z3 := B1.cell 3 (v := .slice qA qs.length qc) rfl
  clear hu hd hq
  by_cases q1 : 8 < us.length
  · have q2 : (8 : Int) < (us.length : Int) := by omega
    go_enter Tryz.func13, Tryz.ntmps13
    go_wp2_with fail
    go_ret
    exact ⟨⟨_, rfl, fun q => absurd q (by decide)⟩, bW⟩
  have q2 : ¬ (8 : Int) < (us.length : Int) := by omega
  by_cases a1 : pe < 1
  · go_enter Tryz.func13, Tryz.ntmps13
    go_wp2_with fail
    go_ret
    exact ⟨⟨_, rfl, fun q => absurd q (by decide)⟩, bW⟩
  by_cases a2 : 86400 < pe
  · go_enter Tryz.func13, Tryz.ntmps13
    go_wp2_with fail
    go_ret
    exact ⟨⟨_, rfl, fun q => absurd q (by decide)⟩, bW⟩
  by_cases a3 : ds.length = us.length
  case' neg =>
    have a4 : ((ds.length : Int) != (us.length : Int)) = true := by simp; omega
    have a5 : (ds.length != us.length) = true := by simp [a3]
    go_enter Tryz.func13, Tryz.ntmps13
    go_wp2_with fail
    go_ret
    exact ⟨⟨_, rfl, fun q => absurd q (by decide)⟩, bW⟩
  have HDL := Lib.hid a3
  have a4 : ((ds.length : Int) != (us.length : Int)) = false := by simp; omega
  have a5 : (ds.length != us.length) = false := by simp [a3]
  by_cases a6 : qs.length = us.length + 1
  case' neg =>
    have a7 : ((qs.length : Int) != (us.length : Int) + 1) = true := by simp; omega
    clear a3 a6
    go_enter Tryz.func13, Tryz.ntmps13
    go_wp2_with fail
    go_ret
    exact ⟨⟨_, rfl, fun q => absurd q (by decide)⟩, bW⟩
  have a7 : ((qs.length : Int) != (us.length : Int) + 1) = false := by simp; omega
  have HQL := Lib.hid a6
  clear a3 a6
  have hul : us.length ≤ 8 := by omega
  go_enter Tryz.func13, Tryz.ntmps13
  go_wp2_with fail
  go_loopw [3] (fun j wr => ∃ k : Nat, k ≤ us.length ∧ j = .int .i64 k ∧ Hid (OneT us ds k) ∧ ∃ n, wr = Y.drewN n) (fun j _ => us.length - (RowKit.intOf j).toNat)
  case atStart => exact ⟨0, Nat.zero_le _, rfl, Lib.hid (OneT.zero _ _), 0, rfl⟩
  case round =>
    obtain ⟨k, hk, rfl, HT, n, rfl⟩ := hrel
    have k1 : (0 : Int) ≤ (k : Int) := by omega
    by_cases hi : k < us.length
    · have k2 : (k : Int) < (us.length : Int) := by omega
      have k3 : (k : Int) < (ds.length : Int) := by have := HDL.out; omega
      obtain ⟨ub, uo, u, hA, -, hx, c0⟩ := HU.out.i hi
      obtain ⟨db, do_, d, hA2, -, hx2, e0⟩ := HD.out.i (i := k) (by have := HDL.out; omega)
      have y1 := z1
      have y2 := z2
      rw [hA] at y1
      rw [hA2] at y2
      have HI := Lib.hid hi
      have HX := Lib.hid (And.intro hx hx2)
      have HAU := Lib.hid hA
      have HAD := Lib.hid hA2
      clear hx hx2 hi hA hA2
      have hcap : ∀ p : Nat, p < us.length → ∃ v v2, us[p]? = some v ∧ ds[p]? = some v2 ∧ Y.cell? ⟨ub, uo + p, none⟩ = some (.int .i64 v) ∧ Y.cell? ⟨db, do_ + p, none⟩ = some (.int .i64 v2) := by
        intro p hp
        obtain ⟨b', o', v, hB, -, hv, g0⟩ := HU.out.i hp
        obtain ⟨b2', o2', v2, hB2, -, hv2, g2⟩ := HD.out.i (i := p) (by have := HDL.out; omega)
        have q := HAU.out.symm.trans hB
        injection q with q; injection q with q3 q4
        have q' := HAD.out.symm.trans hB2
        injection q' with q'; injection q' with q5 q6
        subst q3 q4 q5 q6
        exact ⟨v, v2, hv, hv2, g0, g2⟩
      have HCAP := Lib.hid hcap
      clear hcap
      by_cases t1 : d < 0
      · have t1d : decide (d < 0) = true := decide_eq_true t1
        clear z1 z2
        go_wp2_with fail; go_quiet (fail); go_wp2_with fail; go_ret; exact ⟨⟨_, rfl, fun q => absurd q (by decide)⟩, by first | exact below_drewN bW _ | exact below_drewN (below_drewN bW _) _⟩
      have t1d : decide (d < 0) = false := decide_eq_false t1
      by_cases t2 : u ≤ d
      · have t2d : decide (u ≤ d) = true := decide_eq_true t2
        clear z1 z2
        go_wp2_with fail; go_quiet (fail); go_wp2_with fail; go_ret; exact ⟨⟨_, rfl, fun q => absurd q (by decide)⟩, by first | exact below_drewN bW _ | exact below_drewN (below_drewN bW _) _⟩
      have t2d : decide (u ≤ d) = false := decide_eq_false t2
      by_cases t3 : 2147483648 < u
      · have t3d : decide (2147483648 < u) = true := decide_eq_true t3
        clear z1 z2
        go_wp2_with fail; go_quiet (fail); go_wp2_with fail; go_ret; exact ⟨⟨_, rfl, fun q => absurd q (by decide)⟩, by first | exact below_drewN bW _ | exact below_drewN (below_drewN bW _) _⟩
      have t3d : decide (2147483648 < u) = false := decide_eq_false t3
      clear z1 z2
      go_wp2_with fail
      go_quiet (fail)
      obtain ⟨m1, hm1⟩ : ∃ m, World.drewN (World.drewN Y n) nq = Y.drewN m := ⟨n + nq, World.drewN_drewN _ _ _⟩
      rw [hm1]
      clear hm1
      by_cases t4 : 0 < k
      case' neg =>
        have f1 : decide ((0 : Int) < (k : Int)) = false := decide_eq_false (by omega)
        have f2 : decide (0 < k) = false := decide_eq_false t4
        have f3 : ¬ (0 : Int) < (k : Int) := by omega
        have HN := Lib.hid (HT.out.next HX.out.1 HX.out.2 ⟨by omega, by omega, by omega⟩ (fun p v v2 hp => by omega))
        clear HT
        go_wp2_with fail
        go_quiet (fail)
        go_wp2_with fail
        go_roundw
        case rel => exact ⟨k + 1, HI.out, by go_num, HN, _, rfl⟩
        case measure => have := HI.out; simp [RowKit.intOf]; omega
      have f1 : decide ((0 : Int) < (k : Int)) = true := decide_eq_true (by omega)
      have f2 : decide (0 < k) = true := decide_eq_true t4
      obtain ⟨p, hp⟩ : ∃ p, k - 1 = p := ⟨_, rfl⟩
      have hw : IntKind.i64.wrap ((k : Int) - 1) = (p : Int) := by rw [IntWalk.i64_in _ (by omega)]; omega
      have p0 : (0 : Int) ≤ (p : Int) := by omega
      have p1 : (p : Int) < (us.length : Int) := by have := HI.out; omega
      have p2 : (p : Int) < (ds.length : Int) := by have := HI.out; have := HDL.out; omega
      obtain ⟨v, v2, hv, hv2, g0, g2⟩ := HCAP.out p (by have := HI.out; omega)
      have HV := Lib.hid (And.intro hp (And.intro hv hv2))
      clear hp hv hv2
      by_cases t5 : u ≤ v
      · have t5d : decide (u ≤ v) = true := decide_eq_true t5
        go_wp2_with fail; go_quiet (fail); go_wp2_with fail; go_ret; exact ⟨⟨_, rfl, fun q => absurd q (by decide)⟩, by first | exact below_drewN bW _ | exact below_drewN (below_drewN bW _) _⟩
      have t5d : decide (u ≤ v) = false := decide_eq_false t5
      by_cases t6 : d ≤ v2
      · have t6d : decide (d ≤ v2) = true := decide_eq_true t6
        go_wp2_with fail; go_quiet (fail); go_wp2_with fail; go_ret; exact ⟨⟨_, rfl, fun q => absurd q (by decide)⟩, by first | exact below_drewN bW _ | exact below_drewN (below_drewN bW _) _⟩
      have t6d : decide (d ≤ v2) = false := decide_eq_false t6
      have HN := Lib.hid (HT.out.next HX.out.1 HX.out.2 ⟨by omega, by omega, by omega⟩ (fun p' v' v2' hp' e1 e2 => by
        obtain ⟨h1, h2, h3⟩ := HV.out
        obtain rfl : p' = p := by omega
        rw [h2] at e1
        rw [h3] at e2
        obtain rfl := Option.some.inj e1
        obtain rfl := Option.some.inj e2
        omega))
      clear HT HV
      go_wp2_with fail
      go_quiet (fail)
      go_wp2_with fail
      go_roundw
      case rel => exact ⟨k + 1, HI.out, by go_num, HN, _, rfl⟩
      case measure => have := HI.out; simp [RowKit.intOf]; omega
    · obtain rfl : k = us.length := by omega
      go_wp2_with fail
      go_loopw [4] (fun j wr => ∃ k : Nat, k ≤ qs.length ∧ j = .int .i64 k ∧ Hid (∀ x ∈ qs.take k, 0 ≤ x ∧ x ≤ 10000) ∧ wr = Y.drewN n) (fun j _ => qs.length - (RowKit.intOf j).toNat)
      case atStart => exact ⟨0, Nat.zero_le _, rfl, (by unfold Hid; simp), rfl⟩
      case round =>
        obtain ⟨k, hk, rfl, HQT, hw⟩ := hrel
        rw [hw]
        clear hw
        have k1 : (0 : Int) ≤ (k : Int) := by omega
        by_cases hi : k < qs.length
        · have k2 : (k : Int) < (qs.length : Int) := by omega
          obtain ⟨qb, qo, q, hA, -, hx, c0⟩ := HQ.out.i hi
          have y3 := z3
          rw [hA] at y3
          have HI := Lib.hid hi
          have HX := Lib.hid hx
          clear hx hi hA
          by_cases t1 : q < 0
          · clear z3
            go_wp2_with fail
            go_ret
            exact ⟨⟨_, rfl, fun q => absurd q (by decide)⟩, below_drewN bW _⟩
          · by_cases t2 : 10000 < q
            · clear z3
              go_wp2_with fail
              go_ret
              exact ⟨⟨_, rfl, fun q => absurd q (by decide)⟩, below_drewN bW _⟩
            · clear z3
              have HN : Hid (∀ x ∈ qs.take (k + 1), 0 ≤ x ∧ x ≤ 10000) := Lib.hid (by
                intro y hy
                rw [take_snoc HX.out] at hy
                rcases List.mem_append.1 hy with q | q
                · exact HQT.out y q
                · rw [List.mem_singleton] at q; subst q; omega)
              clear HQT
              go_wp2_with fail
              go_roundw
              case rel => exact ⟨k + 1, HI.out, by go_num, HN, by first | rfl | trivial⟩
              case measure => have := HI.out; simp [RowKit.intOf]; omega
        · obtain rfl : k = qs.length := by omega
          have HF : Hid (ScOk pe us ds qs) := Lib.hid ⟨hul, by omega, by omega, HDL.out, HQL.out, fun k u d h1 h2 => HT.out.1 k u d (List.getElem?_eq_some_iff.1 h1).1 h1 h2, fun k v u v2 d h1 h2 h3 h4 => HT.out.2 k v u v2 d (List.getElem?_eq_some_iff.1 h2).1 h1 h2 h3 h4, by have := HQT.out; rwa [List.take_length] at this⟩
          clear HT HQT
          go_wp2_with fail
          go_ret
          exact ⟨⟨_, rfl, fun _ => HF.out⟩, below_drewN bW _⟩
end Go.Proofs.YtelchfijalkibaaGreatDoor
/- The reference's checks of discounts, walked. -/
set_option linter.unusedSimpArgs false
namespace Go.Proofs.YtelchfijalkibaaGreatDoor
open Go.RowKit Go.Lib

structure Dc where
  nm : ByteArray
  kd : Int
  am : Int
  gr : ByteArray
  sy : ByteArray
  cl : Int
  wd : Int
  wf : Int
  wt : Int
  le : Int
def encDc (x : Dc) : List Value := [.string x.nm, .int .i64 x.kd, .int .i64 x.am, .string x.gr, .string x.sy, .int .i64 x.cl, .int .i64 x.wd, .int .i64 x.wf, .int .i64 x.wt, .int .i64 x.le]
theorem encDc_ok : Enc encDc 10 := ⟨fun _ => rfl, fun x u hu => by simp [encDc] at hu; rcases hu with rfl | rfl | rfl | rfl | rfl | rfl | rfl | rfl | rfl | rfl <;> rfl⟩
end Go.Proofs.YtelchfijalkibaaGreatDoor
