/- relief.Part and the reference's Part, walked. -/
import Derived.Test.YtekdppnlgkfcdaaRelCheck
import Derived.Test.YtekdppnlgkfcdaaJFirst
namespace Go.Proofs.Ytekdppnlgkfcdaa
open Go.RowKit Go.Lib

def arrD (ks : List Int) : Array Value := #[.bool (dnB ks 0), .bool (dnB ks 1), .bool (dnB ks 2), .bool (dnB ks 3)]
theorem arrD_1 (ks : List Int) : ((arrD ks).setIfInBounds 1 (.bool true)).setIfInBounds 0 (.bool true) = arrD (ks ++ [1]) := by simp [arrD, dnB_snoc, knK]
theorem arrD_2 (ks : List Int) : ((arrD ks).setIfInBounds 2 (.bool true)).setIfInBounds 0 (.bool true) = arrD (ks ++ [2]) := by simp [arrD, dnB_snoc, knK]
theorem arrD_3 (ks : List Int) : ((arrD ks).setIfInBounds 3 (.bool true)).setIfInBounds 0 (.bool true) = arrD (ks ++ [3]) := by simp [arrD, dnB_snoc, knK]
theorem arrD_no (ks : List Int) {x : Int} (h : knK x = false) : arrD ks = arrD (ks ++ [x]) := by simp [arrD, dnB_snoc, h]
theorem knK_no {x : Int} (h : knK x = false) : x < 1 ∨ 3 < x := by unfold knK at h; rw [decide_eq_false_iff_not] at h; omega
theorem knK_yes {x : Int} (h : knK x = true) : x = 1 ∨ x = 2 ∨ x = 3 := by unfold knK at h; rw [decide_eq_true_eq] at h; omega

set_option maxRecDepth 100000 in
set_option maxHeartbeats 8000000 in
theorem qpart_any {A B : Option Addr} (c d : Nat) {l : List Iv} {ks : List Int} {w : World} (h : Rd encIv 2 w w.heap.size A l) (hk : Rd encI 1 w w.heap.size B ks) (hl : ks.length ≤ 100000000000) :
    Calls Try.prog 12 #[.slice A l.length c, .slice B ks.length d] w fun e w' => e = .returned (.int .i64 (partN l ks)) ∧ Below w.heap.size w w' := by
  have H := Lib.hid h
  have HK := Lib.hid hk
  have CC := Lib.hid (qcheck_any c h)
  have HE := Lib.hid (show relsE l ≠ 0 → partN l ks = 0 from fun h => by unfold partN; rw [if_pos h])
  have HN := Lib.hid (show relsE l = 0 → partN l ks = partL ks l from fun h => by unfold partN; rw [if_neg (by rw [h]; simp)])
  have HO := Lib.hid (@relsE_ok l)
  generalize partN l ks = r at *
  clear h hk
  by_cases he : relsE l = 0
  · have HN2 := Lib.hid (HN.out he)
    have HO2 := Lib.hid (HO.out he).2
    have hll := (HO.out he).1
    rw [he] at CC
    clear HE HN HO he
    go_enter Try.func12, Try.ntmps12
    go_wp2_with fail
    refine CC.out.mono ?_
    rintro e w1 ⟨rfl, hb1⟩
    obtain ⟨Y, hY⟩ : ∃ Y, w1.alloc (.cells #[.bool false, .bool false, .bool false, .bool false] 87) = Y := ⟨_, rfl⟩
    have bW : Below w.heap.size w Y := by rw [← hY]; exact hb1.al _
    have bA0 : Blk Y w1.heap.size (arrD (ks.take 0)) 87 := by rw [← hY]; exact Blk.new w1 _ _
    have hsz := hb1.size
    have hsY : w1.heap.size < Y.heap.size := bA0.lt
    go_wp2_with fail
    clear hY CC
    go_loopw [16] (fun i wr => ∃ k : Nat, k ≤ ks.length ∧ i = .int .i64 k ∧ Blk wr w1.heap.size (arrD (ks.take k)) 87 ∧ Below w.heap.size w wr) (fun i _ => ks.length - (intOf i).toNat)
    case atStart => exact ⟨0, Nat.zero_le _, rfl, bA0, bW⟩
    case round =>
      clear bA0 bW hsY
      obtain ⟨k, hk, rfl, bA, bX⟩ := hrel
      by_cases hi : k < ks.length
      · obtain ⟨b, off, x, rfl, hg, hx, d0⟩ := (HK.out.keep bX).i hi
        have HT := Lib.hid (take_snoc hx)
        have HL := Lib.hid hi
        have fA := bA.frozen 0
        have fB := bA.frozen 1
        have fC := bA.frozen 2
        have fD := bA.frozen 3
        have a0 : World.cell? wr ⟨w1.heap.size, 0, none⟩ = some (.bool (dnB (ks.take k) 0)) := bA.cell 0 rfl
        have a1 : World.cell? wr ⟨w1.heap.size, 1, none⟩ = some (.bool (dnB (ks.take k) 1)) := bA.cell 1 rfl
        have a2 : World.cell? wr ⟨w1.heap.size, 2, none⟩ = some (.bool (dnB (ks.take k) 2)) := bA.cell 2 rfl
        have a3 : World.cell? wr ⟨w1.heap.size, 3, none⟩ = some (.bool (dnB (ks.take k) 3)) := bA.cell 3 rfl
        clear hx
        cases hq : knK x
        · have bA2 := bA
          rw [arrD_no _ hq, ← HT.out] at bA2
          have hw := knK_no hq
          clear hq a0 a1 a2 a3
          rcases hw with k1 | k1
          all_goals
            go_wp2_with fail
            go_roundw
            case rel => exact ⟨k + 1, HL.out, by go_num, bA2, bX⟩
            case measure => have := HL.out; simp [intOf]; omega
        · have hw := knK_yes hq
          clear hq
          rcases hw with rfl | rfl | rfl
          · have bA2 := (bA.set 1 (.bool true)).set 0 (.bool true)
            rw [arrD_1, ← HT.out] at bA2
            have bX2 := (bX.setCell (p := ⟨w1.heap.size, 1, none⟩) hsz (.bool true)).setCell (p := ⟨w1.heap.size, 0, none⟩) hsz (.bool true)
            go_wp2_with fail
            go_roundw
            case rel => exact ⟨k + 1, HL.out, by go_num, bA2, bX2⟩
            case measure => have := HL.out; simp [intOf]; omega
          · have bA2 := (bA.set 2 (.bool true)).set 0 (.bool true)
            rw [arrD_2, ← HT.out] at bA2
            have bX2 := (bX.setCell (p := ⟨w1.heap.size, 2, none⟩) hsz (.bool true)).setCell (p := ⟨w1.heap.size, 0, none⟩) hsz (.bool true)
            go_wp2_with fail
            go_roundw
            case rel => exact ⟨k + 1, HL.out, by go_num, bA2, bX2⟩
            case measure => have := HL.out; simp [intOf]; omega
          · have bA2 := (bA.set 3 (.bool true)).set 0 (.bool true)
            rw [arrD_3, ← HT.out] at bA2
            have bX2 := (bX.setCell (p := ⟨w1.heap.size, 3, none⟩) hsz (.bool true)).setCell (p := ⟨w1.heap.size, 0, none⟩) hsz (.bool true)
            go_wp2_with fail
            go_roundw
            case rel => exact ⟨k + 1, HL.out, by go_num, bA2, bX2⟩
            case measure => have := HL.out; simp [intOf]; omega
      · obtain rfl : k = ks.length := by omega
        have bA3 : Blk wr w1.heap.size (arrD ks) 87 := by have := bA; rwa [List.take_length] at this
        clear bA HK
        obtain ⟨wE, hwE⟩ : ∃ wE, wE = wr := ⟨_, rfl⟩
        rw [← hwE] at bA3 bX ⊢
        clear hwE
        go_wp2_with fail
        go_loopw [8, 32] (fun v i wr => ∃ (k : Nat) (n : Int), k ≤ l.length ∧ i = .int .i64 k ∧ v = .int .i64 n ∧ 0 ≤ n ∧ n ≤ 1000 ∧ Hid (partL ks (l.take k) = n) ∧ Below wE.heap.size wE wr) (fun _ i _ => l.length - (intOf i).toNat)
        case atStart => exact ⟨0, 0, Nat.zero_le _, rfl, rfl, by omega, by omega, rfl, Below.refl _ _⟩
        case round =>
          obtain ⟨k, n, hk, rfl, rfl, n0, n1, HP, hbr⟩ := hrel
          have bX := bX.st hbr
          by_cases hi : k < l.length
          · obtain ⟨b, off, x, y, rfl, hg, hx, d0, d1⟩ := (H.out.keep bX).iv hi
            obtain ⟨Z, hZ⟩ : ∃ Z, wr.alloc (.cells #[.int .i64 x, .int .i64 y] 74) = Z := ⟨_, rfl⟩
            have gZ : Below wr.heap.size wr Z := by rw [← hZ]; exact (Below.refl _ wr).al _
            have bR : Blk Z wr.heap.size #[.int .i64 x, .int .i64 y] 74 := by rw [← hZ]; exact Blk.new wr _ _
            have hbr := hbr.st gZ
            have bA := bA3.below hbr bA3.lt
            have e0 : World.cell? Z ⟨wr.heap.size, 0, none⟩ = some (.int .i64 x) := bR.cell 0 rfl
            have e1 : World.cell? Z ⟨wr.heap.size, 1, none⟩ = some (.int .i64 y) := bR.cell 1 rfl
            have a0 : World.cell? Z ⟨w1.heap.size, 0, none⟩ = some (.bool (dnB ks 0)) := bA.cell 0 rfl; have a1 : World.cell? Z ⟨w1.heap.size, 1, none⟩ = some (.bool (dnB ks 1)) := bA.cell 1 rfl; have a2 : World.cell? Z ⟨w1.heap.size, 2, none⟩ = some (.bool (dnB ks 2)) := bA.cell 2 rfl; have a3 : World.cell? Z ⟨w1.heap.size, 3, none⟩ = some (.bool (dnB ks 3)) := bA.cell 3 rfl
            obtain ⟨x0, x1, y0, y1⟩ := HO2.out _ (List.mem_of_getElem? hx)
            simp only at x0 x1 y0 y1
            have HS := Lib.hid (show partL ks (l.take (k + 1)) = partF ks n (x, y) by rw [take_snoc hx, partL_snoc, HP.out])
            have HL := Lib.hid hi
            clear hx HP
            have hw : x = 0 ∨ x = 1 ∨ x = 2 ∨ x = 3 := by omega
            cases hdn : dnB ks x
            · have HS2 := Lib.hid (show partL ks (l.take (k + 1)) = n by rw [HS.out]; unfold partF; rw [if_neg (by rw [hdn]; simp)])
              clear HS
              rcases hw with rfl | rfl | rfl | rfl
              · rw [hdn] at a0
                clear hdn a1 a2 a3
                go_wp2_with fail
                go_roundw
                case rel => exact ⟨k + 1, n, HL.out, by go_num, rfl, n0, n1, HS2, hbr⟩
                case measure => have := HL.out; simp [intOf]; omega
              · rw [hdn] at a1
                clear hdn a0 a2 a3
                go_wp2_with fail
                go_roundw
                case rel => exact ⟨k + 1, n, HL.out, by go_num, rfl, n0, n1, HS2, hbr⟩
                case measure => have := HL.out; simp [intOf]; omega
              · rw [hdn] at a2
                clear hdn a0 a1 a3
                go_wp2_with fail
                go_roundw
                case rel => exact ⟨k + 1, n, HL.out, by go_num, rfl, n0, n1, HS2, hbr⟩
                case measure => have := HL.out; simp [intOf]; omega
              · rw [hdn] at a3
                clear hdn a0 a1 a2
                go_wp2_with fail
                go_roundw
                case rel => exact ⟨k + 1, n, HL.out, by go_num, rfl, n0, n1, HS2, hbr⟩
                case measure => have := HL.out; simp [intOf]; omega
            · have HS2 := Lib.hid (show partL ks (l.take (k + 1)) = max n y by rw [HS.out]; unfold partF; rw [if_pos hdn])
              clear HS
              rcases hw with rfl | rfl | rfl | rfl
              · rw [hdn] at a0
                clear hdn a1 a2 a3
                go_wp2_with fail
                go_roundw
                case rel => exact ⟨k + 1, max n y, HL.out, by go_num, by first | rfl | go_num, by omega, by omega, HS2, hbr⟩
                case measure => have := HL.out; simp [intOf]; omega
              · rw [hdn] at a1
                clear hdn a0 a2 a3
                go_wp2_with fail
                go_roundw
                case rel => exact ⟨k + 1, max n y, HL.out, by go_num, by first | rfl | go_num, by omega, by omega, HS2, hbr⟩
                case measure => have := HL.out; simp [intOf]; omega
              · rw [hdn] at a2
                clear hdn a0 a1 a3
                go_wp2_with fail
                go_roundw
                case rel => exact ⟨k + 1, max n y, HL.out, by go_num, by first | rfl | go_num, by omega, by omega, HS2, hbr⟩
                case measure => have := HL.out; simp [intOf]; omega
              · rw [hdn] at a3
                clear hdn a0 a1 a2
                go_wp2_with fail
                go_roundw
                case rel => exact ⟨k + 1, max n y, HL.out, by go_num, by first | rfl | go_num, by omega, by omega, HS2, hbr⟩
                case measure => have := HL.out; simp [intOf]; omega
          · obtain rfl : k = l.length := by omega
            have R := Lib.hid (show r = n by rw [HN2.out]; have := HP.out; rwa [List.take_length] at this)
            clear HP
            go_wp2
            go_ret
            exact ⟨by rw [R.out]; rfl, bX⟩
  · have R := HE.out he
    subst R
    have he2 : (relsE l != 0) = true := by simp [he]
    generalize relsE l = v at *
    clear HE HN HO he
    go_enter Try.func12, Try.ntmps12
    go_wp2_with fail
    refine CC.out.mono ?_
    rintro e w1 ⟨rfl, hb1⟩
    go_wp2_with fail
    go_ret
    exact ⟨rfl, hb1⟩
end Go.Proofs.Ytekdppnlgkfcdaa
