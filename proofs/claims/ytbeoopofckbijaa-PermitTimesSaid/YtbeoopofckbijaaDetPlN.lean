/- plate.Normal, walked. -/
import Derived.Test.YtbeoopofckbijaaDetPl
import Derived.IntWalk
namespace Go.Proofs.Ytbeoopofckbijaa
open Go.RowKit Go.Lib

theorem plb_no {s : ByteArray} (h : plB s = false) : plS s = ⟨#[]⟩ ∧ plE s = 19 := by unfold plS plE; rw [h]; exact ⟨rfl, rfl⟩
theorem plb_yes {s : ByteArray} (h : plB s = true) : plS s = ⟨(plOut s s.size).toArray⟩ ∧ plE s = 0 := by unfold plS plE; rw [if_pos h, if_pos h]; exact ⟨rfl, rfl⟩

set_option maxRecDepth 100000 in
set_option maxHeartbeats 8000000 in
theorem normal_any (s : ByteArray) (hs : s.size ≤ 1000000) (w : World) :
    Calls Try.prog 33 #[.string s] w fun e w' => e = .returned (.tuple #[.string (plS s), .int .i64 (plE s)]) ∧ Below w.heap.size w w' := by
  have HNO := Lib.hid (fun h => plb_no (s := s) h)
  have HYES := Lib.hid (fun h => plb_yes (s := s) h)
  generalize plS s = rs at *
  generalize plE s = re at *
  go_enter Try.func33, Try.ntmps33
  go_wp2_with fail
  go_loopw [4, 9] (fun v i wr => ∃ (k : Nat) (A : Option Addr) (c : Nat), k ≤ s.size ∧ i = .int .i64 k ∧ v = .slice A (plOut s k).length c ∧ Own 5 encB 1 wr w.heap.size A c (plOut s k) ∧ Below w.heap.size w wr ∧ Hid (plAll s k) ∧ (plOut s k).length ≤ 10) (fun _ i _ => s.size - (intOf i).toNat)
  case atStart => exact ⟨0, none, 0, Nat.zero_le _, rfl, rfl, Own.nil _ _, Below.refl _ _, (fun i _ h => absurd h (Nat.not_lt_zero _)), Nat.zero_le _⟩
  case round =>
    obtain ⟨k, A, c, hk, rfl, rfl, hown, bW, HA, hl⟩ := hrel
    by_cases hp : k < s.size
    · obtain ⟨y, hy⟩ : ∃ y : UInt8, s[k]'hp = y := ⟨_, rfl⟩
      have HA2 := Lib.hid (fun q => plAll_succ HA.out hp q)
      have HB := Lib.hid (fun q => plB_bad hp q)
      have HSK := Lib.hid (fun q => plOut_skip hp q)
      have HAD := Lib.hid (fun q => plOut_add hp q)
      have HK := Lib.hid (show k + 1 ≤ s.size by omega)
      have HLG := Lib.hid (fun q => plB_long (s := s) (k := k + 1) (by omega) q)
      rw [hy] at HA2 HB HSK HAD
      have hi1 : (0 : Int) ≤ (k : Int) := by omega
      have hi2 : (k : Int) < (s.size : Int) := by omega
      have hw := pl_ways y
      have hyl : (y.toNat : Int) < 256 := by have := y.toNat_lt; omega
      clear hk HYES
      rcases hw with ⟨x, h1, h2, h3, h4, h5, h6⟩ | ⟨h1, h5, h6⟩ | ⟨h1, h5, h6⟩ | ⟨h1, h2, h3, h5, h6⟩ | ⟨h1, h2, h3, h5, h6⟩ | ⟨h6, n1, n2, n3, n4, n5⟩
      · have HA2 := Lib.hid (HA2.out h6)
        have HO := Lib.hid (HAD.out h5)
        have e1 : IntKind.u8.wrap ((y.toNat : Int) - 32) = (x.toNat : Int) := by rw [h4]; unfold IntKind.wrap; simp [IntKind.signed, IntKind.bits]; omega
        rw [h3] at HO
        have t3 : ((x.toNat : Int) == 32) = false := by simp; omega
        have t4 : ((x.toNat : Int) == 45) = false := by simp; omega
        have t5 : ¬ (x.toNat : Int) < 65 := by omega
        have t6 : ¬ 90 < (x.toNat : Int) := by omega
        have HLN := Lib.hid (show (plOut s (k + 1)).length = (plOut s k).length + 1 by rw [HO.out]; simp)
        clear h3 h4 h5 h6 HB HSK HAD
        by_cases hten : (plOut s k).length = 10
        · have R := Lib.hid (HNO.out (HLG.out (by rw [HLN.out, hten]; omega)))
          have t9 : (((plOut s k).length : Int) == 10) = true := by simp; omega
          clear hten
          go_wp2_with fail; go_ret2; exact ⟨by rw [R.out.1, R.out.2]; rfl, bW⟩
        · have t9 : (((plOut s k).length : Int) == 10) = false := by simp; omega
          have hl9 : (plOut s k).length ≤ 9 := by omega
          clear hten
          go_wp2_with ((at_builtin; refine wpList_app1 rfl (.tmp 48) (.tmp 50) tyB encB_ok rfl x rfl _ rfl (by simp) hown rfl (by first | rfl | simp) (by first | omega | (simp; omega)) (by first | omega | (simp; omega)) bW.size ?_; intro A1 c1 w1 hown1 hb1 hs1 hf1; have hbel1 := bW.trans hb1)); go_roundw; (case rel => exact ⟨k + 1, A1, c1, HK.out, by go_num, by show _ = Value.slice A1 (plOut s (k + 1)).length c1; rw [HO.out]; simp, by show Own 5 encB 1 _ w.heap.size A1 c1 (plOut s (k + 1)); rw [HO.out]; exact hown1, hbel1, HA2, by rw [HO.out, List.length_append]; simp only [List.length_cons, List.length_nil]; omega⟩); (case measure => have := HK.out; simp [intOf]; omega)
      · have HA2 := Lib.hid (HA2.out h6)
        have HO := Lib.hid (HSK.out h5)
        have t1 : ¬ 97 ≤ (y.toNat : Int) := by omega
        have t3 : ((y.toNat : Int) == 32) = true := by simp [h1]
        clear h5 h6 HB HSK HAD h1
        go_wp2_with fail; go_roundw; (case rel => exact ⟨k + 1, A, c, HK.out, by go_num, by show _ = Value.slice A (plOut s (k + 1)).length c; rw [HO.out], by show Own 5 encB 1 _ w.heap.size A c (plOut s (k + 1)); rw [HO.out]; exact hown, bW, HA2, by rw [HO.out]; exact hl⟩); (case measure => have := HK.out; simp [intOf]; omega)
      · have HA2 := Lib.hid (HA2.out h6)
        have HO := Lib.hid (HSK.out h5)
        have t1 : ¬ 97 ≤ (y.toNat : Int) := by omega
        have t3 : ((y.toNat : Int) == 32) = false := by simp [h1]
        have t4 : ((y.toNat : Int) == 45) = true := by simp [h1]
        clear h5 h6 HB HSK HAD h1
        go_wp2_with fail; go_roundw; (case rel => exact ⟨k + 1, A, c, HK.out, by go_num, by show _ = Value.slice A (plOut s (k + 1)).length c; rw [HO.out], by show Own 5 encB 1 _ w.heap.size A c (plOut s (k + 1)); rw [HO.out]; exact hown, bW, HA2, by rw [HO.out]; exact hl⟩); (case measure => have := HK.out; simp [intOf]; omega)
      · have HA2 := Lib.hid (HA2.out h6)
        have HO := Lib.hid (HAD.out h5)
        rw [h3] at HO
        have t3 : ((y.toNat : Int) == 32) = false := by simp; omega
        have t4 : ((y.toNat : Int) == 45) = false := by simp; omega
        have t1 : ¬ 97 ≤ (y.toNat : Int) := by omega
        have t5 : ¬ (y.toNat : Int) < 65 := by omega
        have t6 : ¬ 90 < (y.toNat : Int) := by omega
        have HLN := Lib.hid (show (plOut s (k + 1)).length = (plOut s k).length + 1 by rw [HO.out]; simp)
        clear h3 h5 h6 HB HSK HAD
        by_cases hten : (plOut s k).length = 10
        · have R := Lib.hid (HNO.out (HLG.out (by rw [HLN.out, hten]; omega)))
          have t9 : (((plOut s k).length : Int) == 10) = true := by simp; omega
          clear hten
          go_wp2_with fail; go_ret2; exact ⟨by rw [R.out.1, R.out.2]; rfl, bW⟩
        · have t9 : (((plOut s k).length : Int) == 10) = false := by simp; omega
          have hl9 : (plOut s k).length ≤ 9 := by omega
          clear hten
          go_wp2_with ((at_builtin; refine wpList_app1 rfl (.tmp 48) (.tmp 50) tyB encB_ok rfl y rfl _ rfl (by simp) hown rfl (by first | rfl | simp) (by first | omega | (simp; omega)) (by first | omega | (simp; omega)) bW.size ?_; intro A1 c1 w1 hown1 hb1 hs1 hf1; have hbel1 := bW.trans hb1)); go_roundw; (case rel => exact ⟨k + 1, A1, c1, HK.out, by go_num, by show _ = Value.slice A1 (plOut s (k + 1)).length c1; rw [HO.out]; simp, by show Own 5 encB 1 _ w.heap.size A1 c1 (plOut s (k + 1)); rw [HO.out]; exact hown1, hbel1, HA2, by rw [HO.out, List.length_append]; simp only [List.length_cons, List.length_nil]; omega⟩); (case measure => have := HK.out; simp [intOf]; omega)
      · have HA2 := Lib.hid (HA2.out h6)
        have HO := Lib.hid (HAD.out h5)
        rw [h3] at HO
        have t3 : ((y.toNat : Int) == 32) = false := by simp; omega
        have t4 : ((y.toNat : Int) == 45) = false := by simp; omega
        have t1 : ¬ 97 ≤ (y.toNat : Int) := by omega
        have t5 : (y.toNat : Int) < 65 := by omega
        have t7 : ¬ (y.toNat : Int) < 48 := by omega
        have t8 : ¬ 57 < (y.toNat : Int) := by omega
        have HLN := Lib.hid (show (plOut s (k + 1)).length = (plOut s k).length + 1 by rw [HO.out]; simp)
        clear h3 h5 h6 HB HSK HAD
        by_cases hten : (plOut s k).length = 10
        · have R := Lib.hid (HNO.out (HLG.out (by rw [HLN.out, hten]; omega)))
          have t9 : (((plOut s k).length : Int) == 10) = true := by simp; omega
          clear hten
          go_wp2_with fail; go_ret2; exact ⟨by rw [R.out.1, R.out.2]; rfl, bW⟩
        · have t9 : (((plOut s k).length : Int) == 10) = false := by simp; omega
          have hl9 : (plOut s k).length ≤ 9 := by omega
          clear hten
          go_wp2_with ((at_builtin; refine wpList_app1 rfl (.tmp 48) (.tmp 50) tyB encB_ok rfl y rfl _ rfl (by simp) hown rfl (by first | rfl | simp) (by first | omega | (simp; omega)) (by first | omega | (simp; omega)) bW.size ?_; intro A1 c1 w1 hown1 hb1 hs1 hf1; have hbel1 := bW.trans hb1)); go_roundw; (case rel => exact ⟨k + 1, A1, c1, HK.out, by go_num, by show _ = Value.slice A1 (plOut s (k + 1)).length c1; rw [HO.out]; simp, by show Own 5 encB 1 _ w.heap.size A1 c1 (plOut s (k + 1)); rw [HO.out]; exact hown1, hbel1, HA2, by rw [HO.out, List.length_append]; simp only [List.length_cons, List.length_nil]; omega⟩); (case measure => have := HK.out; simp [intOf]; omega)
      · have R := Lib.hid (HNO.out (HB.out h6))
        have t3 : ((y.toNat : Int) == 32) = false := by simp; omega
        have t4 : ((y.toNat : Int) == 45) = false := by simp; omega
        have hw2 : (y.toNat : Int) < 48 ∨ (57 < (y.toNat : Int) ∧ (y.toNat : Int) < 65) ∨ (90 < (y.toNat : Int) ∧ (y.toNat : Int) < 97) ∨ 122 < (y.toNat : Int) := by omega
        clear h6 n1 n2 n3 n4 n5 HB HSK HAD
        rcases hw2 with u1 | ⟨u1, u2⟩ | ⟨u1, u2⟩ | u1
        · have t1 : ¬ 97 ≤ (y.toNat : Int) := by omega
          have t5 : (y.toNat : Int) < 65 := by omega
          go_wp2_with fail; go_ret2; exact ⟨by rw [R.out.1, R.out.2]; rfl, bW⟩
        · have t1 : ¬ 97 ≤ (y.toNat : Int) := by omega
          have t7 : ¬ (y.toNat : Int) < 48 := by omega
          go_wp2_with fail; go_ret2; exact ⟨by rw [R.out.1, R.out.2]; rfl, bW⟩
        · have t1 : ¬ 97 ≤ (y.toNat : Int) := by omega
          have t5 : ¬ (y.toNat : Int) < 65 := by omega
          have t7 : ¬ (y.toNat : Int) < 48 := by omega
          have t8 : 57 < (y.toNat : Int) := by omega
          go_wp2_with fail; go_ret2; exact ⟨by rw [R.out.1, R.out.2]; rfl, bW⟩
        · have t1 : 97 ≤ (y.toNat : Int) := by omega
          have t2 : ¬ (y.toNat : Int) ≤ 122 := by omega
          have t5 : ¬ (y.toNat : Int) < 65 := by omega
          have t6 : 90 < (y.toNat : Int) := by omega
          have t7 : ¬ (y.toNat : Int) < 48 := by omega
          have t8 : 57 < (y.toNat : Int) := by omega
          go_wp2_with fail; go_ret2; exact ⟨by rw [R.out.1, R.out.2]; rfl, bW⟩
    · obtain rfl : k = s.size := by omega
      have HE := Lib.hid (plB_end HA.out)
      have hi2 : ¬ (s.size : Int) < (s.size : Int) := by omega
      clear HA hk hp
      by_cases h2 : (plOut s s.size).length < 2
      · have R := Lib.hid (HNO.out (by rw [HE.out, decide_eq_false (by omega : ¬ 2 ≤ (plOut s s.size).length)]; rfl))
        have t2 : ((plOut s s.size).length : Int) < 2 := by omega
        clear h2 HYES
        go_wp2_with fail; go_ret2; exact ⟨by rw [R.out.1, R.out.2]; rfl, bW⟩
      · have R := Lib.hid (HYES.out (by rw [HE.out, decide_eq_true (by omega : 2 ≤ (plOut s s.size).length), decide_eq_true hl]; rfl))
        have t2 : ¬ ((plOut s s.size).length : Int) < 2 := by omega
        rcases hown.form with ⟨_, hn, _⟩ | ⟨g, hA, _⟩
        · rw [hn] at h2; simp at h2
        · subst hA
          have hcv : (convert 80 9 (.slice (some ⟨g, 0, none⟩) (plOut s s.size).length c)).run Try.prog wr = .ok (.string ⟨(plOut s s.size).toArray⟩) wr :=
            run_convert_bytes_back wr 80 9 5 ⟨g, 0, none⟩ c (plOut s s.size) Try.underlying80 Try.underlying5 Try.underlying9 (fun j hj => by
              have := hown.cells encB_ok rfl (i := j) (x := (plOut s s.size)[j]) (List.getElem?_eq_getElem hj) (j := 0) (u := .int .u8 ((plOut s s.size)[j].toNat : Int)) rfl
              rw [show (⟨g, 0, none⟩ : Addr).add j = ⟨g, j, none⟩ by unfold Addr.add; split <;> simp_all]
              simpa using this)
          clear h2 HNO
          go_wp2_with fail
          go_ret2
          exact ⟨by rw [R.out.1, R.out.2]; rfl, bW⟩
end Go.Proofs.Ytbeoopofckbijaa
