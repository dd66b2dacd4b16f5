/- The reference's CheckAll, walked. -/
import Derived.Test.YtcpfiiapfggmpaaGreatJZoneAllMath
import Derived.Test.YtcpfiiapfggmpaaGreatZoneRCheck
import Derived.IntWalk
namespace Go.Proofs.YtcpfiiapfggmpaaGreat
open Go.RowKit Go.Lib

set_option maxRecDepth 100000 in
set_option maxHeartbeats 2000000 in
theorem rall_any {A : Option Addr} (c : Nat) {l : List Zn} {w : World} (h : Rd encZ 7 w w.heap.size A l) (hz : ZsOk w l) (hlen : l.length ≤ 9223372036854775807) :
    Calls Tryz.prog 30 #[.slice A l.length c] w fun e w' => e = .returned (.int .i64 (checkAllE l)) ∧ Below w.heap.size w w' := by
  have Hbig := Lib.hid (@checkAllE_big l)
  have Hat := Lib.hid (show ∀ k, ¬ 1024 < l.length → (∀ j, j < k → allE l j = 0) → k < l.length → allE l k ≠ 0 → checkAllE l = allE l k from fun k => checkAllE_at)
  have Hno := Lib.hid (@checkAllE_none l)
  generalize checkAllE l = r at *
  by_cases hbig : 1024 < l.length
  · have R := Lib.hid (Hbig.out hbig)
    clear Hbig Hat Hno h hz
    go_enter Tryz.func30, Tryz.ntmps30
    go_wp2
    all_goals (go_ret; rw [R.out]; exact ⟨rfl, Below.refl _ _⟩)
  · go_enter Tryz.func30, Tryz.ntmps30
    go_wp2
    go_loopw [3] (fun i wr => ∃ k : Nat, k ≤ l.length ∧ i = .int .i64 k ∧ Hid (∀ j, j < k → allE l j = 0) ∧ Below w.heap.size w wr) (fun i _ => l.length - (RowKit.intOf i).toNat)
    case atStart => exact ⟨0, Nat.zero_le _, rfl, fun j hj => absurd hj (Nat.not_lt_zero _), Below.refl _ _⟩
    case round =>
      obtain ⟨k, hk, rfl, HZ, hbr⟩ := hrel
      by_cases hi : k < l.length
      · obtain ⟨b, off, z, hA, hb, hx, d0, d1, d2, d3, d4, d5, d6⟩ := (h.keep hbr).z hi
        subst hA
        have hzk := hz z (List.mem_of_getElem? hx)
        have C := Lib.hid (rcheck_any z (hzk.st hbr))
        have hi1 : (0 : Int) ≤ (k : Int) := by omega
        have hi2 : (k : Int) < (l.length : Int) := by omega
        by_cases he : checkE z = 0
        · have HE := Lib.hid he
          have Hf1 := Lib.hid (show ∀ j y, l[j]? = some y → j < k → (∀ y ∈ (l.take k).take j, eqS y.name z.name = false) → eqS y.name z.name = true → (findZ (l.take k) z.name).isSome = true from fun j y h1 h2 h3 h4 => by rw [findZ_at (take_get h1 h2) h3 h4]; rfl)
          have Hf0 := Lib.hid (show (∀ y ∈ (l.take k).take k, eqS y.name z.name = false) → (findZ (l.take k) z.name).isSome = false from fun h3 => by rw [findZ_none (by rw [List.length_take, Nat.min_eq_left (by omega)]; exact h3)]; rfl)
          have R9 := Lib.hid (show (findZ (l.take k) z.name).isSome = true → r = 9 from fun hf => by rw [Hat.out k hbig HZ.out hi (by rw [allE_two hx he hf]; decide), allE_two hx he hf])
          have R0 := Lib.hid (show (findZ (l.take k) z.name).isSome = false → ∀ j, j < k + 1 → allE l j = 0 from fun hf => firstE_up HZ.out (allE_ok hx he hf))
          generalize (findZ (l.take k) z.name).isSome = q at *
          clear he hz
          obtain ⟨wo, rfl⟩ : ∃ wo : World, wo = wr := ⟨_, rfl⟩
          go_wp2_with fail
          refine C.out.mono ?_
          rw [HE.out]
          rintro e w2 ⟨rfl, hbz⟩
          have hb2 := hbr.st hbz
          go_wp2_with fail
          go_loopw [5] (fun i wr => ∃ j : Nat, j ≤ k ∧ i = .int .i64 j ∧ Hid (∀ y ∈ (l.take k).take j, eqS y.name z.name = false) ∧ ∃ n, wr = w2.drewN n) (fun i _ => k - (RowKit.intOf i).toNat)
          case atStart => exact ⟨0, Nat.zero_le _, rfl, (by unfold Hid; simp), 0, rfl⟩
          case round =>
            obtain ⟨j, hj, rfl, HN, n, rfl⟩ := hrel
            by_cases hjk : j < k
            · obtain ⟨b', off', y, hA, hb', hy, e0, -, -, -, -, -, -⟩ := (h.keep hb2).z (show j < l.length by omega)
              injection hA with hA
              injection hA with hA1 hA2
              subst hA1 hA2
              have d0' := ((h.keep hb2).z hi)
              obtain ⟨b', off', z', hA, hb', hz', f0, -, -, -, -, -, -⟩ := d0'
              injection hA with hA
              injection hA with hA1 hA2
              subst hA1 hA2
              rw [hx] at hz'
              injection hz' with hz'
              subst hz'
              have hj1 : (0 : Int) ≤ (j : Int) := by omega
              have hj2 : (j : Int) < (l.length : Int) := by omega
              cases hq : eqS y.name z.name
              · have R := Lib.hid (all_succ' (take_get hy hjk) HN.out hq)
                have hq2 : (y.name.toList == z.name.toList) = false := hq
                clear hq hy hx h d0 d1 d2 d3 d4 d5 d6
                go_wp2_with fail
                go_quiet (fail)
                go_wp2
                go_roundw
                case rel => exact ⟨j + 1, by omega, by go_num, R, _, rfl⟩
                case measure => simp [RowKit.intOf]; omega
              · have R := Lib.hid (R9.out (Hf1.out j y hy hjk HN.out hq))
                have hq2 : (y.name.toList == z.name.toList) = true := hq
                clear hq hy hx h d0 d1 d2 d3 d4 d5 d6
                go_wp2_with fail
                go_quiet (fail)
                go_wp2
                all_goals (go_ret; rw [R.out]; exact ⟨rfl, below_drewN (below_drewN hb2 _) _⟩)
            · obtain rfl : j = k := by omega
              have R := Lib.hid (R0.out (Hf0.out HN.out))
              clear hx h d0 d1 d2 d3 d4 d5 d6
              go_wp2
              go_roundw
              case rel => exact ⟨j + 1, by omega, by go_num, R, below_drewN hb2 _⟩
              case measure => simp [RowKit.intOf]; omega
        · have R := Lib.hid (show r = checkE z by rw [Hat.out k hbig HZ.out hi (by rw [allE_bad hx he]; exact he), allE_bad hx he])
          generalize checkE z = v at *
          have hv : (v != 0) = true := by simp [he]
          clear he h hz hx
          go_wp2_with fail
          refine C.out.mono ?_
          rintro e w2 ⟨rfl, hbz⟩
          go_wp2_with fail
          all_goals (go_ret; rw [R.out]; exact ⟨rfl, hbr.st hbz⟩)
      · obtain rfl : k = l.length := by omega
        have R := Lib.hid (Hno.out hbig HZ.out)
        go_wp2
        go_ret
        rw [R.out]
        exact ⟨rfl, hbr⟩
end Go.Proofs.YtcpfiiapfggmpaaGreat
