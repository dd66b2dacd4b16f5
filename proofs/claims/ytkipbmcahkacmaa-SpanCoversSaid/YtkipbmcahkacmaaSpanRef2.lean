/- The reference's functions of chapter 05, walked: put, ends, combine. -/
import Derived.Test.YtkipbmcahkacmaaSpanRef1
namespace Go.Proofs.Ytkipbmcahkacmaa
open Go.RowKit Go.Lib

theorem putS_bound {n : Int} {l : List Int} {k : Nat} {o : List Int} {b : Bool} (h : putS n (l.take k) = (o, b)) : o.length ≤ k + 1 := by
  have := putS_length n (l.take k)
  rw [h] at this
  have h2 : (l.take k).length ≤ k := List.length_take_le _ _
  simp only at this
  split at this <;> omega

set_option maxHeartbeats 1000000 in
theorem rput_any (A : Option Addr) (c : Nat) (l : List Int) (n : Int) (w : World) (h : Rd encI 1 w w.heap.size A l) (hl : l.length ≤ 1000000000000) :
    Calls Try.prog 45 #[.slice A l.length c, .int .i64 n] w fun e w' => ∃ A' c', e = .returned (.slice A' (putL l n).length c') ∧ Own 3 encI 1 w' w.heap.size A' c' (putL l n) ∧ Below w.heap.size w w' := by
  go_enter Try.func45, Try.ntmps45
  go_wp2
  go_loopw [5, 6, 7] (fun v d i wr => ∃ (k : Nat) (A' : Option Addr) (c' : Nat) (o : List Int) (b : Bool), k ≤ l.length ∧ i = .int .i64 k ∧ Hid (putS n (l.take k) = (o, b)) ∧ v = .slice A' o.length c' ∧ d = .bool b ∧ Own 3 encI 1 wr w.heap.size A' c' o ∧ Below w.heap.size w wr) (fun _ _ i _ => l.length - (intOf i).toNat)
  case atStart => exact ⟨0, none, 0, [], false, Nat.zero_le _, rfl, rfl, rfl, rfl, Own.nil _ _, Below.refl _ _⟩
  case round =>
    obtain ⟨k, A', c', o, b, hk, rfl, HS, rfl, rfl, hown, hbel⟩ := hrel
    have hol := putS_bound HS.out
    by_cases hlt : k < l.length
    · obtain ⟨g, off, x, rfl, hg, hx, hc⟩ := (h.keep hbel).i hlt
      have hrd := Lib.hid h
      clear h
      have hst : putS n (l.take (k + 1)) = putStep n (o, b) x := by rw [take_snoc hx, putS_snoc, HS.out]
      have HX := Lib.hid hx
      clear hx
      cases b
      · by_cases h1 : n < x
        · have hq : ((n : Int) == x) = false := by simpa using (by omega : ¬ n = x)
          have R := Lib.hid (show putS n (l.take (k + 1)) = (o ++ [n] ++ [x], true) by rw [hst]; simp [putStep, h1])
          clear hst
          go_wp2_with (first | ((at_builtin; refine wpList_app1 rfl (.tmp 24) (.tmp 26) tyI encI_ok rfl n rfl _ rfl (by simp) hown rfl (by first | rfl | simp) (by first | omega | (simp; omega)) (by first | omega | (simp; omega)) hbel.size ?_; intro A1 c1 w1 hown1 hb1 hs1 hf1; have hbel1 := hbel.trans hb1); have hc1 := (hb1.cell (p := ⟨g, off + k, none⟩) hg).trans hc) | (at_builtin; refine wpList_app1 rfl (.tmp 34) (.tmp 39) tyI encI_ok rfl x rfl _ rfl (by simp) hown1 rfl (by first | rfl | simp) (by first | omega | (simp; omega)) (by first | omega | (simp; omega)) hbel1.size ?_; intro A2 c2 w2 hown2 hb2 hs2 hf2; have hbel2 := hbel1.trans hb2))
          go_roundw
          case rel => exact ⟨k + 1, A2, c2, _, _, by omega, by go_num, R, by simp, rfl, hown2, hbel2⟩
          case measure => simp [intOf]; omega
        · by_cases h2 : n = x
          · have hq : ((n : Int) == x) = true := by simpa using h2
            have R := Lib.hid (show putS n (l.take (k + 1)) = (o ++ [x], true) by rw [hst]; simp [putStep, h2])
            have H2 := Lib.hid h2
            clear hst h2
            go_wp2_with (at_builtin; refine wpList_app1 rfl (.tmp 34) (.tmp 39) tyI encI_ok rfl x rfl _ rfl (by simp) hown rfl (by first | rfl | simp) (by first | omega | (simp; omega)) (by first | omega | (simp; omega)) hbel.size ?_; intro A2 c2 w2 hown2 hb2 hs2 hf2; have hbel2 := hbel.trans hb2)
            go_roundw
            case rel => exact ⟨k + 1, A2, c2, _, _, by omega, by go_num, R, by simp, rfl, hown2, hbel2⟩
            case measure => simp [intOf]; omega
          · have hq : ((n : Int) == x) = false := by simpa using h2
            have R := Lib.hid (show putS n (l.take (k + 1)) = (o ++ [x], false) by rw [hst]; simp [putStep, h1, h2])
            clear hst
            go_wp2_with (at_builtin; refine wpList_app1 rfl (.tmp 34) (.tmp 39) tyI encI_ok rfl x rfl _ rfl (by simp) hown rfl (by first | rfl | simp) (by first | omega | (simp; omega)) (by first | omega | (simp; omega)) hbel.size ?_; intro A2 c2 w2 hown2 hb2 hs2 hf2; have hbel2 := hbel.trans hb2)
            go_roundw
            case rel => exact ⟨k + 1, A2, c2, _, _, by omega, by go_num, R, by simp, rfl, hown2, hbel2⟩
            case measure => simp [intOf]; omega
      · have R := Lib.hid (show putS n (l.take (k + 1)) = (o ++ [x], true) by rw [hst]; simp [putStep])
        clear hst
        by_cases h2 : n = x
        · have hq : ((n : Int) == x) = true := by simpa using h2
          have H2 := Lib.hid h2
          clear h2
          go_wp2_with (at_builtin; refine wpList_app1 rfl (.tmp 34) (.tmp 39) tyI encI_ok rfl x rfl _ rfl (by simp) hown rfl (by first | rfl | simp) (by first | omega | (simp; omega)) (by first | omega | (simp; omega)) hbel.size ?_; intro A2 c2 w2 hown2 hb2 hs2 hf2; have hbel2 := hbel.trans hb2)
          go_roundw
          case rel => exact ⟨k + 1, A2, c2, _, _, by omega, by go_num, R, by simp, rfl, hown2, hbel2⟩
          case measure => simp [intOf]; omega
        · have hq : ((n : Int) == x) = false := by simpa using h2
          go_wp2_with (at_builtin; refine wpList_app1 rfl (.tmp 34) (.tmp 39) tyI encI_ok rfl x rfl _ rfl (by simp) hown rfl (by first | rfl | simp) (by first | omega | (simp; omega)) (by first | omega | (simp; omega)) hbel.size ?_; intro A2 c2 w2 hown2 hb2 hs2 hf2; have hbel2 := hbel.trans hb2)
          go_roundw
          case rel => exact ⟨k + 1, A2, c2, _, _, by omega, by go_num, R, by simp, rfl, hown2, hbel2⟩
          case measure => simp [intOf]; omega
    · obtain rfl : k = l.length := by omega
      have hfin : putL l n = if b then o else o ++ [n] := by
        have := HS.out
        rw [List.take_length] at this
        unfold putL
        rw [this]
      cases b
      · have R := Lib.hid (show putL l n = o ++ [n] by rw [hfin]; rfl)
        clear hfin h
        go_wp2_with (at_builtin; refine wpList_app1 rfl (.tmp 43) (.tmp 45) tyI encI_ok rfl n rfl _ rfl (by simp) hown rfl (by first | rfl | simp) (by first | omega | (simp; omega)) (by first | omega | (simp; omega)) hbel.size ?_; intro A2 c2 w2 hown2 hb2 hs2 hf2; have hbel2 := hbel.trans hb2)
        go_ret
        rw [R.out]
        exact ⟨A2, c2, by simp, hown2, hbel2⟩
      · have R := Lib.hid (show putL l n = o by rw [hfin]; rfl)
        clear hfin h
        go_wp2
        go_ret
        rw [R.out]
        exact ⟨_, _, rfl, hown, hbel⟩
end Go.Proofs.Ytkipbmcahkacmaa
