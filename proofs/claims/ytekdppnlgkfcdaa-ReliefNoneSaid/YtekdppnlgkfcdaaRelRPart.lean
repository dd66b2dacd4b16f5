/- The reference's Part, walked. -/
import Derived.Test.YtekdppnlgkfcdaaRelCheck
import Derived.Test.YtekdppnlgkfcdaaJFirst
namespace Go.Proofs.Ytekdppnlgkfcdaa
open Go.RowKit Go.Lib

theorem knK_noR {x : Int} (h : knK x = false) : x < 1 ∨ (¬ x < 1 ∧ 3 < x) := by unfold knK at h; rw [decide_eq_false_iff_not] at h; omega
theorem knK_yesR {x : Int} (h : knK x = true) : 1 ≤ x ∧ x ≤ 3 := by unfold knK at h; rw [decide_eq_true_eq] at h; exact h
/-- one step of the inner loop -/
theorem partF_snoc {ks : List Int} {n : Int} {r : Iv} {x : Int} (q : Bool) (h : (knK x && (r.1 == 0 || r.1 == x)) = q) : partF (ks ++ [x]) n r = if q = true then max (partF ks n r) r.2 else partF ks n r := by
  unfold partF
  rw [dnB_snoc, h]
  cases q
  · simp
  · cases dnB ks r.1 <;> simp
theorem partF_nil (n : Int) (r : Iv) : partF [] n r = n := by simp [partF, dnB]

set_option maxRecDepth 100000 in
set_option maxHeartbeats 8000000 in
theorem rqpart_any {A B : Option Addr} (c d : Nat) {l : List Iv} {ks : List Int} {w : World} (h : Rd encIv 2 w w.heap.size A l) (hk : Rd encI 1 w w.heap.size B ks) (hl : ks.length ≤ 100000000000) :
    Calls Try.prog 13 #[.slice A l.length c, .slice B ks.length d] w fun e w' => e = .returned (.int .i64 (partN l ks)) ∧ Below w.heap.size w w' := by
  have CC := Lib.hid (rqcheck_any c h)
  have HE := Lib.hid (show relsE l ≠ 0 → partN l ks = 0 from fun h => by unfold partN; rw [if_pos h])
  have HN := Lib.hid (show relsE l = 0 → partN l ks = partL ks l from fun h => by unfold partN; rw [if_neg (by rw [h]; simp)])
  have HO := Lib.hid (@relsE_ok l)
  have H0 := Lib.hid h
  have HK0 := Lib.hid hk
  generalize partN l ks = r at *
  clear h hk
  by_cases he : relsE l = 0
  · have HN2 := Lib.hid (HN.out he)
    have HO2 := Lib.hid (HO.out he).2
    have hll := (HO.out he).1
    rw [he] at CC
    clear HE HN HO he
    go_enter Try.func13, Try.ntmps13
    go_wp2_with fail
    refine CC.out.mono ?_
    rintro e w1 ⟨rfl, hb1⟩
    have H := Lib.hid (H0.out.st hb1)
    have HK := Lib.hid (HK0.out.st hb1)
    clear CC H0 HK0
    go_wp2_with fail
    go_loopw [5, 6] (fun v i wr => ∃ (k : Nat) (n : Int) (m : Nat), k ≤ l.length ∧ i = .int .i64 k ∧ v = .int .i64 n ∧ 0 ≤ n ∧ n ≤ 1000 ∧ Hid (partL ks (l.take k) = n) ∧ wr = w1.drewN m) (fun _ i _ => l.length - (intOf i).toNat)
    case atStart => exact ⟨0, 0, 0, Nat.zero_le _, rfl, rfl, by omega, by omega, rfl, rfl⟩
    case round =>
      obtain ⟨k, n, m, hk, rfl, rfl, n0, n1, HP, rfl⟩ := hrel
      by_cases hi : k < l.length
      · obtain ⟨b, off, x, y, rfl, hg, hx, d0, d1⟩ := H.out.iv hi
        obtain ⟨x0, x1, y0, y1⟩ := HO2.out _ (List.mem_of_getElem? hx)
        simp only at x0 x1 y0 y1
        have HS := Lib.hid (show partL ks (l.take (k + 1)) = partF ks n (x, y) by rw [take_snoc hx, partL_snoc, HP.out])
        have HL := Lib.hid hi
        have hi1 : (0 : Int) ≤ (k : Int) := by omega
        have hi2 : (k : Int) < (l.length : Int) := by omega
        clear hx HP
        obtain ⟨wo, hwo⟩ : ∃ wo : World, wo = w1.drewN m := ⟨_, rfl⟩
        go_wp2_with fail
        go_loopw [5, 7] (fun v i wr => ∃ (j : Nat) (z : Int) (q : Nat), j ≤ ks.length ∧ i = .int .i64 j ∧ v = .int .i64 z ∧ 0 ≤ z ∧ z ≤ 1000 ∧ Hid (partF (ks.take j) n (x, y) = z) ∧ wr = w1.drewN q) (fun _ i _ => ks.length - (intOf i).toNat)
        case atStart => exact ⟨0, n, m, Nat.zero_le _, rfl, rfl, n0, n1, partF_nil n (x, y), by first | rfl | exact hwo.symm | trivial⟩
        case round =>
          obtain ⟨j, z, q, hj, rfl, rfl, z0, z1, HZ, rfl⟩ := hrel
          by_cases hjl : j < ks.length
          · obtain ⟨b', off', s, rfl, hg', hs, f0⟩ := HK.out.i hjl
            have hj1 : (0 : Int) ≤ (j : Int) := by omega
            have hj2 : (j : Int) < (ks.length : Int) := by omega
            have HJ := Lib.hid hjl
            have HF := Lib.hid (fun (q : Bool) (e : (knK s && (x == 0 || x == s)) = q) => show partF (ks.take (j + 1)) n (x, y) = if q = true then max z y else z by rw [take_snoc hs, partF_snoc q e, HZ.out])
            clear hs HZ hwo
            cases hq : knK s
            · have HF2 := Lib.hid (HF.out false (by rw [hq]; rfl))
              have hw := knK_noR hq
              clear HF hq
              have hw2 : (decide (1 ≤ s) = false) ∨ (decide (1 ≤ s) = true ∧ decide (s ≤ 3) = false) := by
                rcases hw with k1 | ⟨k1, k2⟩
                · exact .inl (decide_eq_false (by omega))
                · exact .inr ⟨decide_eq_true (by omega), decide_eq_false (by omega)⟩
              clear hw
              rcases hw2 with k1 | ⟨k1, k2⟩
              all_goals
                go_wp2_with fail
                go_quiet (fail)
                go_wp2
                go_roundw
                case rel => exact ⟨j + 1, z, _, HJ.out, by go_num, rfl, z0, z1, HF2, rfl⟩
                case measure => have := HJ.out; simp [intOf]; omega
            · have s1 : decide (1 ≤ s) = true := decide_eq_true (knK_yesR hq).1
              have s2 : decide (s ≤ 3) = true := decide_eq_true (knK_yesR hq).2
              by_cases g1 : (x == 0) = true
              · have HF2 := Lib.hid (HF.out true (by rw [hq, g1]; rfl))
                clear HF hq
                by_cases g3 : z < y
                · have g4 : decide (z < y) = true := decide_eq_true g3
                  have HF3 := Lib.hid (show partF (ks.take (j + 1)) n (x, y) = y by rw [HF2.out, if_pos rfl]; omega)
                  clear HF2
                  go_wp2_with fail
                  go_quiet (fail)
                  go_wp2
                  go_roundw
                  case rel => exact ⟨j + 1, y, _, HJ.out, by go_num, rfl, y0, y1, HF3, rfl⟩
                  case measure => have := HJ.out; simp [intOf]; omega
                · have g4 : decide (z < y) = false := decide_eq_false g3
                  have HF3 := Lib.hid (show partF (ks.take (j + 1)) n (x, y) = z by rw [HF2.out, if_pos rfl]; omega)
                  clear HF2
                  go_wp2_with fail
                  go_quiet (fail)
                  go_wp2
                  go_roundw
                  case rel => exact ⟨j + 1, z, _, HJ.out, by go_num, rfl, z0, z1, HF3, rfl⟩
                  case measure => have := HJ.out; simp [intOf]; omega
              · have g1' : (x == 0) = false := by simpa using g1
                by_cases g2 : (x == s) = true
                · have HF2 := Lib.hid (HF.out true (by rw [hq, g1', g2]; rfl))
                  clear HF hq g1
                  by_cases g3 : z < y
                  · have g4 : decide (z < y) = true := decide_eq_true g3
                    have HF3 := Lib.hid (show partF (ks.take (j + 1)) n (x, y) = y by rw [HF2.out, if_pos rfl]; omega)
                    clear HF2
                    go_wp2_with fail
                    go_quiet (fail)
                    go_wp2
                    go_roundw
                    case rel => exact ⟨j + 1, y, _, HJ.out, by go_num, rfl, y0, y1, HF3, rfl⟩
                    case measure => have := HJ.out; simp [intOf]; omega
                  · have g4 : decide (z < y) = false := decide_eq_false g3
                    have HF3 := Lib.hid (show partF (ks.take (j + 1)) n (x, y) = z by rw [HF2.out, if_pos rfl]; omega)
                    clear HF2
                    go_wp2_with fail
                    go_quiet (fail)
                    go_wp2
                    go_roundw
                    case rel => exact ⟨j + 1, z, _, HJ.out, by go_num, rfl, z0, z1, HF3, rfl⟩
                    case measure => have := HJ.out; simp [intOf]; omega
                · have g2' : (x == s) = false := by simpa using g2
                  have HF2 := Lib.hid (HF.out false (by rw [hq, g1', g2']; rfl))
                  clear HF hq g1 g2
                  go_wp2_with fail
                  go_quiet (fail)
                  go_wp2
                  go_roundw
                  case rel => exact ⟨j + 1, z, _, HJ.out, by go_num, rfl, z0, z1, HF2, rfl⟩
                  case measure => have := HJ.out; simp [intOf]; omega
          · obtain rfl : j = ks.length := by omega
            have HS2 := Lib.hid (show partL ks (l.take (k + 1)) = z by rw [HS.out]; have := HZ.out; rwa [List.take_length] at this)
            clear HS HZ hwo
            go_wp2_with fail
            go_roundw
            case rel => exact ⟨k + 1, z, q, HL.out, by go_num, rfl, z0, z1, HS2, by first | rfl | trivial⟩
            case measure => have := HL.out; simp [intOf]; omega
      · obtain rfl : k = l.length := by omega
        have R := Lib.hid (show r = n by rw [HN2.out]; have := HP.out; rwa [List.take_length] at this)
        clear HP
        go_wp2
        go_ret
        exact ⟨by rw [R.out]; rfl, below_drewN hb1 _⟩
  · have R := HE.out he
    subst R
    have he2 : (relsE l != 0) = true := by simp [he]
    generalize relsE l = v at *
    clear HE HN HO he
    go_enter Try.func13, Try.ntmps13
    go_wp2_with fail
    refine CC.out.mono ?_
    rintro e w1 ⟨rfl, hb1⟩
    go_wp2_with fail
    go_ret
    exact ⟨rfl, hb1⟩
end Go.Proofs.Ytekdppnlgkfcdaa
