/- The reference's Normal of plates, walked. -/
import Derived.Test.YtgkppjkmakomnaaDetPlN
namespace Go.Proofs.Ytgkppjkmakomnaa
open Go.RowKit Go.Lib

set_option maxRecDepth 100000 in
set_option maxHeartbeats 8000000 in
theorem rnormal_any (s : ByteArray) (hs : s.size ≤ 1000000) (w : World) :
    Calls Try.prog 63 #[.string s] w fun e w' => e = .returned (.tuple #[.string (plS s), .int .i64 (plE s)]) ∧ Below w.heap.size w w' := by
  have HNO := Lib.hid (fun h => plb_no (s := s) h)
  have HYES := Lib.hid (fun h => plb_yes (s := s) h)
  generalize plS s = rs at *
  generalize plE s = re at *
  go_enter Try.func63, Try.ntmps63
  go_wp2_with fail
  go_loopw [4, 5] (fun v i wr => ∃ (k : Nat) (A : Option Addr) (c : Nat), k ≤ s.size ∧ i = .int .i64 k ∧ v = .slice A (plOut s k).length c ∧ Own 5 encB 1 wr w.heap.size A c (plOut s k) ∧ Below w.heap.size w wr ∧ Hid (plAll s k)) (fun _ i _ => s.size - (intOf i).toNat)
  case atStart => exact ⟨0, none, 0, Nat.zero_le _, rfl, rfl, Own.nil _ _, Below.refl _ _, (fun i _ h => absurd h (Nat.not_lt_zero _))⟩
  case round =>
    obtain ⟨k, A, c, hk, rfl, rfl, hown, bW, HA⟩ := hrel
    have hl := plOut_le s k
    by_cases hp : k < s.size
    · obtain ⟨y, hy⟩ : ∃ y : UInt8, s[k]'hp = y := ⟨_, rfl⟩
      have HA2 := Lib.hid (fun q => plAll_succ HA.out hp q)
      have HB := Lib.hid (fun q => plB_bad hp q)
      have HSK := Lib.hid (fun q => plOut_skip hp q)
      have HAD := Lib.hid (fun q => plOut_add hp q)
      have HK := Lib.hid (show k + 1 ≤ s.size by omega)
      rw [hy] at HA2 HB HSK HAD
      have hi1 : (0 : Int) ≤ (k : Int) := by omega
      have hi2 : (k : Int) < (s.size : Int) := by omega
      have hw := pl_ways y
      have hyl : (y.toNat : Int) < 256 := by have := y.toNat_lt; omega
      clear hk HYES
      rcases hw with ⟨x, h1, h2, h3, h4, h5, h6⟩ | ⟨h1, h5, h6⟩ | ⟨h1, h5, h6⟩ | ⟨h1, h2, h3, h5, h6⟩ | ⟨h1, h2, h3, h5, h6⟩ | ⟨h6, n1, n2, n3, n4, n5⟩
      · have HA2 := Lib.hid (HA2.out h6)
        have HO := Lib.hid (HAD.out h5)
        have e1 : IntKind.u8.wrap ((y.toNat : Int) - 32) = (x.toNat : Int) := by rw [h4]; unfold IntKind.wrap; simp [IntKind.signed, IntKind.bits]; omega
        rw [h3] at HO
        have t3 : ((y.toNat : Int) == 32) = false := by simp; omega
        have t4 : ((y.toNat : Int) == 45) = false := by simp; omega
        have t5 : 65 ≤ (x.toNat : Int) := by omega
        have t6 : (x.toNat : Int) ≤ 90 := by omega
        clear h3 h4 h5 h6 HB HSK HAD
        go_wp2_with ((at_builtin; refine wpList_app1 rfl (.tmp 45) (.tmp 47) tyB encB_ok rfl x rfl _ rfl (by simp) hown rfl (by first | rfl | simp) (by first | omega | (simp; omega)) (by first | omega | (simp; omega)) bW.size ?_; intro A1 c1 w1 hown1 hb1 hs1 hf1; have hbel1 := bW.trans hb1)); go_roundw; (case rel => exact ⟨k + 1, A1, c1, HK.out, by go_num, by show _ = Value.slice A1 (plOut s (k + 1)).length c1; rw [HO.out]; simp, by show Own 5 encB 1 _ w.heap.size A1 c1 (plOut s (k + 1)); rw [HO.out]; exact hown1, hbel1, HA2⟩); (case measure => have := HK.out; simp [intOf]; omega)
      · have HA2 := Lib.hid (HA2.out h6)
        have HO := Lib.hid (HSK.out h5)
        have t3 : ((y.toNat : Int) == 32) = true := by simp [h1]
        clear h5 h6 HB HSK HAD h1
        go_wp2_with fail; go_roundw; (case rel => exact ⟨k + 1, A, c, HK.out, by go_num, by show _ = Value.slice A (plOut s (k + 1)).length c; rw [HO.out], by show Own 5 encB 1 _ w.heap.size A c (plOut s (k + 1)); rw [HO.out]; exact hown, bW, HA2⟩); (case measure => have := HK.out; simp [intOf]; omega)
      · have HA2 := Lib.hid (HA2.out h6)
        have HO := Lib.hid (HSK.out h5)
        have t3 : ((y.toNat : Int) == 32) = false := by simp [h1]
        have t4 : ((y.toNat : Int) == 45) = true := by simp [h1]
        clear h5 h6 HB HSK HAD h1
        go_wp2_with fail; go_roundw; (case rel => exact ⟨k + 1, A, c, HK.out, by go_num, by show _ = Value.slice A (plOut s (k + 1)).length c; rw [HO.out], by show Own 5 encB 1 _ w.heap.size A c (plOut s (k + 1)); rw [HO.out]; exact hown, bW, HA2⟩); (case measure => have := HK.out; simp [intOf]; omega)
      · have HA2 := Lib.hid (HA2.out h6)
        have HO := Lib.hid (HAD.out h5)
        rw [h3] at HO
        have t3 : ((y.toNat : Int) == 32) = false := by simp; omega
        have t4 : ((y.toNat : Int) == 45) = false := by simp; omega
        have t1 : ¬ 97 ≤ (y.toNat : Int) := by omega
        clear h3 h5 h6 HB HSK HAD
        go_wp2_with ((at_builtin; refine wpList_app1 rfl (.tmp 45) (.tmp 47) tyB encB_ok rfl y rfl _ rfl (by simp) hown rfl (by first | rfl | simp) (by first | omega | (simp; omega)) (by first | omega | (simp; omega)) bW.size ?_; intro A1 c1 w1 hown1 hb1 hs1 hf1; have hbel1 := bW.trans hb1)); go_roundw; (case rel => exact ⟨k + 1, A1, c1, HK.out, by go_num, by show _ = Value.slice A1 (plOut s (k + 1)).length c1; rw [HO.out]; simp, by show Own 5 encB 1 _ w.heap.size A1 c1 (plOut s (k + 1)); rw [HO.out]; exact hown1, hbel1, HA2⟩); (case measure => have := HK.out; simp [intOf]; omega)
      · have HA2 := Lib.hid (HA2.out h6)
        have HO := Lib.hid (HAD.out h5)
        rw [h3] at HO
        have t3 : ((y.toNat : Int) == 32) = false := by simp; omega
        have t4 : ((y.toNat : Int) == 45) = false := by simp; omega
        have t1 : ¬ 97 ≤ (y.toNat : Int) := by omega
        have t5 : ¬ 65 ≤ (y.toNat : Int) := by omega
        clear h3 h5 h6 HB HSK HAD
        go_wp2_with ((at_builtin; refine wpList_app1 rfl (.tmp 45) (.tmp 47) tyB encB_ok rfl y rfl _ rfl (by simp) hown rfl (by first | rfl | simp) (by first | omega | (simp; omega)) (by first | omega | (simp; omega)) bW.size ?_; intro A1 c1 w1 hown1 hb1 hs1 hf1; have hbel1 := bW.trans hb1)); go_roundw; (case rel => exact ⟨k + 1, A1, c1, HK.out, by go_num, by show _ = Value.slice A1 (plOut s (k + 1)).length c1; rw [HO.out]; simp, by show Own 5 encB 1 _ w.heap.size A1 c1 (plOut s (k + 1)); rw [HO.out]; exact hown1, hbel1, HA2⟩); (case measure => have := HK.out; simp [intOf]; omega)
      · have R := Lib.hid (HNO.out (HB.out h6))
        have t3 : ((y.toNat : Int) == 32) = false := by simp; omega
        have t4 : ((y.toNat : Int) == 45) = false := by simp; omega
        have hw2 : (y.toNat : Int) < 48 ∨ (57 < (y.toNat : Int) ∧ (y.toNat : Int) < 65) ∨ (90 < (y.toNat : Int) ∧ (y.toNat : Int) < 97) ∨ 122 < (y.toNat : Int) := by omega
        clear h6 n1 n2 n3 n4 n5 HB HSK HAD
        rcases hw2 with u1 | ⟨u1, u2⟩ | ⟨u1, u2⟩ | u1
        · have t1 : ¬ 97 ≤ (y.toNat : Int) := by omega
          have t5 : ¬ 65 ≤ (y.toNat : Int) := by omega
          have t7 : ¬ 48 ≤ (y.toNat : Int) := by omega
          go_wp2_with fail; go_ret2; exact ⟨by rw [R.out.1, R.out.2]; rfl, bW⟩
        · have t1 : ¬ 97 ≤ (y.toNat : Int) := by omega
          have t5 : ¬ 65 ≤ (y.toNat : Int) := by omega
          have t7 : 48 ≤ (y.toNat : Int) := by omega
          have t8 : ¬ (y.toNat : Int) ≤ 57 := by omega
          go_wp2_with fail; go_ret2; exact ⟨by rw [R.out.1, R.out.2]; rfl, bW⟩
        · have t1 : ¬ 97 ≤ (y.toNat : Int) := by omega
          have t5 : 65 ≤ (y.toNat : Int) := by omega
          have t6 : ¬ (y.toNat : Int) ≤ 90 := by omega
          have t7 : 48 ≤ (y.toNat : Int) := by omega
          have t8 : ¬ (y.toNat : Int) ≤ 57 := by omega
          go_wp2_with fail; go_ret2; exact ⟨by rw [R.out.1, R.out.2]; rfl, bW⟩
        · have t1 : 97 ≤ (y.toNat : Int) := by omega
          have t2 : ¬ (y.toNat : Int) ≤ 122 := by omega
          have t5 : 65 ≤ (y.toNat : Int) := by omega
          have t6 : ¬ (y.toNat : Int) ≤ 90 := by omega
          have t7 : 48 ≤ (y.toNat : Int) := by omega
          have t8 : ¬ (y.toNat : Int) ≤ 57 := by omega
          go_wp2_with fail; go_ret2; exact ⟨by rw [R.out.1, R.out.2]; rfl, bW⟩
    · obtain rfl : k = s.size := by omega
      have HE := Lib.hid (plB_end HA.out)
      have hi2 : ¬ (s.size : Int) < (s.size : Int) := by omega
      clear HA hk hp
      by_cases h2 : (plOut s s.size).length < 2
      · have R := Lib.hid (HNO.out (by rw [HE.out, decide_eq_false (by omega : ¬ 2 ≤ (plOut s s.size).length)]; rfl))
        have t2 : ((plOut s s.size).length : Int) < 2 := by omega
        clear h2 HYES
        go_wp2_with fail; go_ret2; exact ⟨by rw [R.out.1, R.out.2]; rfl, bW⟩
      · by_cases h10 : 10 < (plOut s s.size).length
        · have R := Lib.hid (HNO.out (by rw [HE.out, decide_eq_false (by omega : ¬ (plOut s s.size).length ≤ 10), Bool.and_false]))
          have t2 : ¬ ((plOut s s.size).length : Int) < 2 := by omega
          have t3 : 10 < ((plOut s s.size).length : Int) := by omega
          clear h2 h10 HYES
          go_wp2_with fail; go_ret2; exact ⟨by rw [R.out.1, R.out.2]; rfl, bW⟩
        · have R := Lib.hid (HYES.out (by rw [HE.out, decide_eq_true (by omega : 2 ≤ (plOut s s.size).length), decide_eq_true (by omega : (plOut s s.size).length ≤ 10)]; rfl))
          have t2 : ¬ ((plOut s s.size).length : Int) < 2 := by omega
          have t3 : ¬ 10 < ((plOut s s.size).length : Int) := by omega
          rcases hown.form with ⟨_, hn, _⟩ | ⟨g, hA, _⟩
          · rw [hn] at h2; simp at h2
          · subst hA
            have hcv : (convert 109 9 (.slice (some ⟨g, 0, none⟩) (plOut s s.size).length c)).run Try.prog wr = .ok (.string ⟨(plOut s s.size).toArray⟩) wr :=
              run_convert_bytes_back wr 109 9 5 ⟨g, 0, none⟩ c (plOut s s.size) Try.underlying109 Try.underlying5 Try.underlying9 (fun j hj => by
                have := hown.cells encB_ok rfl (i := j) (x := (plOut s s.size)[j]) (List.getElem?_eq_getElem hj) (j := 0) (u := .int .u8 ((plOut s s.size)[j].toNat : Int)) rfl
                rw [show (⟨g, 0, none⟩ : Addr).add j = ⟨g, j, none⟩ by unfold Addr.add; split <;> simp_all]
                simpa using this)
            clear h2 h10 HNO
            go_wp2_with fail
            go_ret2
            exact ⟨by rw [R.out.1, R.out.2]; rfl, bW⟩
end Go.Proofs.Ytgkppjkmakomnaa
