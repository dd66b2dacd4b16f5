/- relief.Check and the reference's Check, walked. -/
import Derived.Test.YtekdppnlgkfcdaaJRelEnc
import Derived.Test.YtekdppnlgkfcdaaJFirst
import Derived.Test.YtekdppnlgkfcdaaBlk
import Derived.BigQuiet
import Derived.IntWalk
namespace Go.Proofs.Ytekdppnlgkfcdaa
open Go.RowKit Go.Lib

def arrB (l : List Iv) : Array Value := #[.bool (hasK l 0), .bool (hasK l 1), .bool (hasK l 2), .bool (hasK l 3)]
theorem arrB_0 (l : List Iv) (y : Int) : (arrB l).setIfInBounds 0 (.bool true) = arrB (l ++ [(0, y)]) := by simp [arrB, hasK_snoc]
theorem arrB_1 (l : List Iv) (y : Int) : (arrB l).setIfInBounds 1 (.bool true) = arrB (l ++ [(1, y)]) := by simp [arrB, hasK_snoc]
theorem arrB_2 (l : List Iv) (y : Int) : (arrB l).setIfInBounds 2 (.bool true) = arrB (l ++ [(2, y)]) := by simp [arrB, hasK_snoc]
theorem arrB_3 (l : List Iv) (y : Int) : (arrB l).setIfInBounds 3 (.bool true) = arrB (l ++ [(3, y)]) := by simp [arrB, hasK_snoc]

set_option maxRecDepth 100000 in
set_option maxHeartbeats 4000000 in
theorem qcheck_any {A : Option Addr} (c : Nat) {l : List Iv} {w : World} (h : Rd encIv 2 w w.heap.size A l) :
    Calls Try.prog 10 #[.slice A l.length c] w fun e w' => e = .returned (.int .i64 (relsE l)) ∧ Below w.heap.size w w' := by
  have H := Lib.hid h
  have HB := Lib.hid (show 12 < l.length → relsE l = 3 from fun h => by unfold relsE; rw [if_pos h])
  have HR := Lib.hid (show ¬ 12 < l.length → relsE l = firstE (relE l) l.length from fun h => by unfold relsE; rw [if_neg h])
  generalize relsE l = r at *
  clear h
  by_cases hbig : 12 < l.length
  · have R := HB.out hbig
    subst R
    clear HR HB
    go_enter Try.func10, Try.ntmps10
    go_wp2
    go_ret
    exact ⟨rfl, Below.refl _ _⟩
  · have HR2 := Lib.hid (HR.out hbig)
    clear HR HB
    obtain ⟨Y, hY⟩ : ∃ Y, w.alloc (.cells #[.bool false, .bool false, .bool false, .bool false] 87) = Y := ⟨_, rfl⟩
    have bW : Below w.heap.size w Y := by rw [← hY]; exact (Below.refl _ w).al _
    have bA0 : Blk Y w.heap.size (arrB (l.take 0)) 87 := by rw [← hY]; exact Blk.new w _ _
    go_enter Try.func10, Try.ntmps10
    go_wp2_with fail
    clear hY
    go_loopw [11] (fun i wr => ∃ k : Nat, k ≤ l.length ∧ i = .int .i64 k ∧ Hid (∀ j, j < k → relE l j = 0) ∧ Blk wr w.heap.size (arrB (l.take k)) 87 ∧ Below w.heap.size w wr) (fun i _ => l.length - (intOf i).toNat)
    case atStart => exact ⟨0, Nat.zero_le _, rfl, fun j hj => absurd hj (Nat.not_lt_zero _), bA0, bW⟩
    case round =>
      clear bA0 bW
      obtain ⟨k, hk, rfl, HZ, bA, bX⟩ := hrel
      by_cases hi : k < l.length
      · obtain ⟨b, off, x, y, rfl, hg, hx, d0, d1⟩ := (H.out.keep bX).iv hi
        obtain ⟨Z, hZ⟩ : ∃ Z, wr.alloc (.cells #[.int .i64 x, .int .i64 y] 74) = Z := ⟨_, rfl⟩
        have gZ : Below wr.heap.size wr Z := by rw [← hZ]; exact (Below.refl _ wr).al _
        have bR : Blk Z wr.heap.size #[.int .i64 x, .int .i64 y] 74 := by rw [← hZ]; exact Blk.new wr _ _
        have ltA := bA.lt
        have bA := bA.below gZ bA.lt
        have bX := bX.st gZ
        have e0 : World.cell? Z ⟨wr.heap.size, 0, none⟩ = some (.int .i64 x) := bR.cell 0 rfl
        have e1 : World.cell? Z ⟨wr.heap.size, 1, none⟩ = some (.int .i64 y) := bR.cell 1 rfl
        have fA := bA.frozen 0
        have fB := bA.frozen 1
        have fC := bA.frozen 2
        have fD := bA.frozen 3
        have a0 : World.cell? Z ⟨w.heap.size, 0, none⟩ = some (.bool (hasK (l.take k) 0)) := bA.cell 0 rfl; have a1 : World.cell? Z ⟨w.heap.size, 1, none⟩ = some (.bool (hasK (l.take k) 1)) := bA.cell 1 rfl; have a2 : World.cell? Z ⟨w.heap.size, 2, none⟩ = some (.bool (hasK (l.take k) 2)) := bA.cell 2 rfl; have a3 : World.cell? Z ⟨w.heap.size, 3, none⟩ = some (.bool (hasK (l.take k) 3)) := bA.cell 3 rfl
        have HL := Lib.hid hi
        cases hb : badR (x, y)
        · obtain ⟨x0, x1, y0, y1⟩ := badR_no hb
          simp only at x0 x1 y0 y1
          have HT := Lib.hid (take_snoc hx)
          cases hk2 : hasK (l.take k) x
          · have HK := Lib.hid (firstE_up HZ.out (relE_0 hx hb hk2))
            clear hx hb HZ
            have hw : x = 0 ∨ x = 1 ∨ x = 2 ∨ x = 3 := by omega
            rcases hw with rfl | rfl | rfl | rfl
            · have bA2 := bA.set 0 (.bool true)
              rw [arrB_0 _ y, ← HT.out] at bA2
              rw [hk2] at a0
              have bX2 := bX.setCell (p := ⟨w.heap.size, 0, none⟩) (Nat.le_refl _) (.bool true)
              clear a1 a2 a3 hk2
              go_wp2_with fail
              go_roundw
              case rel => exact ⟨k + 1, HL.out, by go_num, HK, bA2, bX2⟩
              case measure => have := HL.out; simp [intOf]; omega
            · have bA2 := bA.set 1 (.bool true)
              rw [arrB_1 _ y, ← HT.out] at bA2
              rw [hk2] at a1
              have bX2 := bX.setCell (p := ⟨w.heap.size, 1, none⟩) (Nat.le_refl _) (.bool true)
              clear a0 a2 a3 hk2
              go_wp2_with fail
              go_roundw
              case rel => exact ⟨k + 1, HL.out, by go_num, HK, bA2, bX2⟩
              case measure => have := HL.out; simp [intOf]; omega
            · have bA2 := bA.set 2 (.bool true)
              rw [arrB_2 _ y, ← HT.out] at bA2
              rw [hk2] at a2
              have bX2 := bX.setCell (p := ⟨w.heap.size, 2, none⟩) (Nat.le_refl _) (.bool true)
              clear a0 a1 a3 hk2
              go_wp2_with fail
              go_roundw
              case rel => exact ⟨k + 1, HL.out, by go_num, HK, bA2, bX2⟩
              case measure => have := HL.out; simp [intOf]; omega
            · have bA2 := bA.set 3 (.bool true)
              rw [arrB_3 _ y, ← HT.out] at bA2
              rw [hk2] at a3
              have bX2 := bX.setCell (p := ⟨w.heap.size, 3, none⟩) (Nat.le_refl _) (.bool true)
              clear a0 a1 a2 hk2
              go_wp2_with fail
              go_roundw
              case rel => exact ⟨k + 1, HL.out, by go_num, HK, bA2, bX2⟩
              case measure => have := HL.out; simp [intOf]; omega
          · have he := relE_9 hx hb hk2
            have R := Lib.hid (show r = 9 by rw [HR2.out, firstE_some HZ.out hi (by rw [he]; decide), he])
            clear hx hb he
            have hw : x = 0 ∨ x = 1 ∨ x = 2 ∨ x = 3 := by omega
            rcases hw with rfl | rfl | rfl | rfl
            · rw [hk2] at a0
              clear a1 a2 a3 hk2
              go_wp2_with fail
              go_ret
              exact ⟨by rw [R.out]; rfl, bX⟩
            · rw [hk2] at a1
              clear a0 a2 a3 hk2
              go_wp2_with fail
              go_ret
              exact ⟨by rw [R.out]; rfl, bX⟩
            · rw [hk2] at a2
              clear a0 a1 a3 hk2
              go_wp2_with fail
              go_ret
              exact ⟨by rw [R.out]; rfl, bX⟩
            · rw [hk2] at a3
              clear a0 a1 a2 hk2
              go_wp2_with fail
              go_ret
              exact ⟨by rw [R.out]; rfl, bX⟩
        · have he := relE_1 hx hb
          have R := Lib.hid (show r = 1 by rw [HR2.out, firstE_some HZ.out hi (by rw [he]; decide), he])
          have hw : x < 0 ∨ (¬ x < 0 ∧ 3 < x) ∨ (¬ x < 0 ∧ ¬ 3 < x ∧ y < 0) ∨ (¬ x < 0 ∧ ¬ 3 < x ∧ ¬ y < 0 ∧ 1000 < y) := by
            have := badR_yes hb
            simp only at this
            omega
          clear hx hb he a0 a1 a2 a3
          rcases hw with k1 | ⟨k1, k2⟩ | ⟨k1, k2, k3⟩ | ⟨k1, k2, k3, k4⟩
          all_goals
            go_wp2_with fail
            go_ret
            exact ⟨by rw [R.out]; rfl, bX⟩
      · obtain rfl : k = l.length := by omega
        have R := Lib.hid (show r = 0 by rw [HR2.out, firstE_none HZ.out])
        go_wp2
        go_ret
        exact ⟨by rw [R.out]; rfl, bX⟩

set_option maxRecDepth 100000 in
set_option maxHeartbeats 4000000 in
theorem rqcheck_any {A : Option Addr} (c : Nat) {l : List Iv} {w : World} (h : Rd encIv 2 w w.heap.size A l) :
    Calls Try.prog 11 #[.slice A l.length c] w fun e w' => e = .returned (.int .i64 (relsE l)) ∧ Below w.heap.size w w' := by
  have H := Lib.hid h
  have HB := Lib.hid (show 12 < l.length → relsE l = 3 from fun h => by unfold relsE; rw [if_pos h])
  have HR := Lib.hid (show ¬ 12 < l.length → relsE l = firstE (relE l) l.length from fun h => by unfold relsE; rw [if_neg h])
  generalize relsE l = r at *
  clear h
  by_cases hbig : 12 < l.length
  · have R := HB.out hbig
    subst R
    clear HR HB
    go_enter Try.func11, Try.ntmps11
    go_wp2
    go_ret
    exact ⟨rfl, Below.refl _ _⟩
  · have HR2 := Lib.hid (HR.out hbig)
    clear HR HB
    go_enter Try.func11, Try.ntmps11
    go_wp2_with fail
    go_loopw [3] (fun i wr => ∃ k m : Nat, k ≤ l.length ∧ i = .int .i64 k ∧ Hid (∀ j, j < k → relE l j = 0) ∧ wr = w.drewN m) (fun i _ => l.length - (intOf i).toNat)
    case atStart => exact ⟨0, 0, Nat.zero_le _, rfl, fun j hj => absurd hj (Nat.not_lt_zero _), rfl⟩
    case round =>
      obtain ⟨k, m, hk, rfl, HZ, rfl⟩ := hrel
      by_cases hi : k < l.length
      · obtain ⟨b, off, x, y, rfl, hg, hx, d0, d1⟩ := H.out.iv hi
        have HL := Lib.hid hi
        have hi1 : (0 : Int) ≤ (k : Int) := by omega
        have hi2 : (k : Int) < (l.length : Int) := by omega
        cases hb : badR (x, y)
        · obtain ⟨x0, x1, y0, y1⟩ := badR_no hb
          simp only at x0 x1 y0 y1
          have HX := Lib.hid hx
          have HBR := Lib.hid hb
          clear hx hb
          obtain ⟨wo, hwo⟩ : ∃ wo : World, wo = w.drewN m := ⟨_, rfl⟩
          go_wp2_with fail
          go_loopw [4] (fun i wr => ∃ j n : Nat, j ≤ k ∧ i = .int .i64 j ∧ Hid (∀ z ∈ (l.take k).take j, (z.1 == x) = false) ∧ wr = w.drewN n) (fun i _ => k - (intOf i).toNat)
          case atStart => exact ⟨0, m, Nat.zero_le _, rfl, (by unfold Hid; simp), by first | rfl | exact hwo.symm | trivial⟩
          case round =>
            obtain ⟨j, n, hj, rfl, HQ, rfl⟩ := hrel
            by_cases hjk : j < k
            · obtain ⟨b', off', x', y', hA, hg', hy, f0, f1⟩ := H.out.iv (show j < l.length by omega)
              injection hA with hA
              injection hA with hA1 hA2
              subst hA1 hA2
              have hj1 : (0 : Int) ≤ (j : Int) := by omega
              have hj2 : (j : Int) < (l.length : Int) := by omega
              have hdj : decide ((j : Int) < (k : Int)) = true := decide_eq_true (by omega)
              have hy2 := take_get hy hjk
              cases hq : (x' == x)
              · have R := Lib.hid (all_succ' (p := fun z : Iv => z.1 == x) hy2 HQ.out hq)
                have HJ := Lib.hid hjk
                clear hy hy2 HX hwo
                go_wp2_with fail
                go_quiet (fail)
                go_wp2
                go_roundw
                case rel => exact ⟨j + 1, _, HJ.out, by go_num, R, rfl⟩
                case measure => have := HJ.out; simp [intOf]; omega
              · have hk9 : hasK (l.take k) x = true := List.any_eq_true.2 ⟨_, List.mem_of_getElem? hy2, hq⟩
                have he := relE_9 HX.out HBR.out hk9
                have R := Lib.hid (show r = 9 by rw [HR2.out, firstE_some HZ.out HL.out (by rw [he]; decide), he])
                clear hy hy2 HX hwo he hk9
                go_wp2_with fail
                go_quiet (fail)
                go_wp2
                all_goals (go_ret; exact ⟨by rw [R.out]; rfl, by first | exact below_drewN (Below.refl _ w) _ | exact below_drewN (below_drewN (Below.refl _ w) _) _⟩)
            · obtain rfl : j = k := by omega
              have hk0 : hasK (l.take j) x = false := by
                unfold hasK
                rw [List.any_eq_false]
                intro z hz
                have := HQ.out z (by rw [List.take_take, Nat.min_self]; exact hz)
                rw [this]; simp
              have HK := Lib.hid (firstE_up HZ.out (relE_0 HX.out HBR.out hk0))
              have hdj : decide ((j : Int) < (j : Int)) = false := decide_eq_false (by omega)
              clear hk0 HX HQ hwo
              go_wp2_with fail
              go_roundw
              case rel => exact ⟨j + 1, n, HL.out, by go_num, HK, by first | rfl | trivial⟩
              case measure => have := HL.out; simp [intOf]; omega
        · have he := relE_1 hx hb
          have R := Lib.hid (show r = 1 by rw [HR2.out, firstE_some HZ.out hi (by rw [he]; decide), he])
          have hw : x < 0 ∨ (¬ x < 0 ∧ 3 < x) ∨ (¬ x < 0 ∧ ¬ 3 < x ∧ y < 0) ∨ (¬ x < 0 ∧ ¬ 3 < x ∧ ¬ y < 0 ∧ 1000 < y) := by
            have := badR_yes hb
            simp only at this
            omega
          clear hx hb he
          rcases hw with k1 | ⟨k1, k2⟩ | ⟨k1, k2, k3⟩ | ⟨k1, k2, k3, k4⟩
          all_goals
            go_wp2_with fail
            go_ret
            exact ⟨by rw [R.out]; rfl, by first | exact below_drewN (Below.refl _ w) _ | exact below_drewN (below_drewN (Below.refl _ w) _) _⟩
      · obtain rfl : k = l.length := by omega
        have R := Lib.hid (show r = 0 by rw [HR2.out, firstE_none HZ.out])
        go_wp2
        go_ret
        exact ⟨by rw [R.out]; rfl, by first | exact below_drewN (Below.refl _ w) _ | exact below_drewN (below_drewN (Below.refl _ w) _) _⟩
end Go.Proofs.Ytekdppnlgkfcdaa
