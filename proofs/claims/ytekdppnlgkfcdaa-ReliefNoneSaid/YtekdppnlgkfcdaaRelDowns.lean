/- The reference's Down, walked. -/
import Derived.Test.YtekdppnlgkfcdaaRelRDown
import Derived.Test.YtekdppnlgkfcdaaJRelApz
import Derived.Test.YtekdppnlgkfcdaaBlk
import Derived.Deep.RegionHeld3
import Derived.Deep.RegionWith
import Derived.Deep.DrawnRows
import Derived.BigRegion
set_option linter.unusedSimpArgs false
namespace Go.Proofs.Ytekdppnlgkfcdaa
open Go.RowKit Go.Lib

set_option maxRecDepth 100000 in
set_option maxHeartbeats 8000000 in
theorem rrdown_any {dvA rlA stA : Option Addr} (dvc rlc stc : Nat) {dvs : List Dv} {rls : List Iv} {sts : List St} (tid tvh tsy : ByteArray) (tcl : Int) {w : World} (h : Rd encD 6 w w.heap.size dvA dvs) (hz : DsOk w dvs) (hl : dvs.length ≤ 60) (hd : ∀ d ∈ dvs, d.ds.length ≤ 40) (hs : Rd encSt 3 w w.heap.size stA sts) (hsl : sts.length ≤ 1000) :
    Calls Try.prog 18 #[.agg #[.slice none 0 0, .slice none 0 0, .slice none 0 0, .slice dvA dvs.length dvc, .slice none 0 0, .slice none 0 0, .int .i64 0, .int .i64 0, .slice none 0 0, .int .i64 0, .slice none 0 0, .slice none 0 0, .slice none 0 0, .slice none 0 0, .slice none 0 0, .slice none 0 0, .slice none 0 0, .slice none 0 0, .slice rlA rls.length rlc, .slice none 0 0, .slice none 0 0, .slice none 0 0, .int .i64 0, .slice none 0 0, .string ⟨#[]⟩], .agg #[.string tid, .string tvh, .string tsy, .int .i64 tcl, .slice stA sts.length stc]] w fun e w' => ∃ A c, e = .returned (.slice A (downL dvs sts).length c) ∧ Own 3 encI 1 w' w.heap.size A c (downL dvs sts) ∧ Below w.heap.size w w' := by
  obtain ⟨Y1, hY1⟩ : ∃ Y, w.alloc (.cells #[.slice none 0 0, .slice none 0 0, .slice none 0 0, .slice dvA dvs.length dvc, .slice none 0 0, .slice none 0 0, .int .i64 0, .int .i64 0, .slice none 0 0, .int .i64 0, .slice none 0 0, .slice none 0 0, .slice none 0 0, .slice none 0 0, .slice none 0 0, .slice none 0 0, .slice none 0 0, .slice none 0 0, .slice rlA rls.length rlc, .slice none 0 0, .slice none 0 0, .slice none 0 0, .int .i64 0, .slice none 0 0, .string ⟨#[]⟩] 60) = Y := ⟨_, rfl⟩
  have b1 : Below w.heap.size w Y1 := by rw [← hY1]; exact (Below.refl _ w).al _
  have S1 : Blk Y1 w.heap.size #[.slice none 0 0, .slice none 0 0, .slice none 0 0, .slice dvA dvs.length dvc, .slice none 0 0, .slice none 0 0, .int .i64 0, .int .i64 0, .slice none 0 0, .int .i64 0, .slice none 0 0, .slice none 0 0, .slice none 0 0, .slice none 0 0, .slice none 0 0, .slice none 0 0, .slice none 0 0, .slice none 0 0, .slice rlA rls.length rlc, .slice none 0 0, .slice none 0 0, .slice none 0 0, .int .i64 0, .slice none 0 0, .string ⟨#[]⟩] 60 := by rw [← hY1]; exact Blk.new w _ _
  obtain ⟨Y2, hY2⟩ : ∃ Y, Y1.alloc (.cells #[.string tid, .string tvh, .string tsy, .int .i64 tcl, .slice stA sts.length stc] 35) = Y := ⟨_, rfl⟩
  have b2 : Below w.heap.size w Y2 := by rw [← hY2]; exact b1.st ((Below.refl _ Y1).al _)
  have S1 : Blk Y2 w.heap.size #[.slice none 0 0, .slice none 0 0, .slice none 0 0, .slice dvA dvs.length dvc, .slice none 0 0, .slice none 0 0, .int .i64 0, .int .i64 0, .slice none 0 0, .int .i64 0, .slice none 0 0, .slice none 0 0, .slice none 0 0, .slice none 0 0, .slice none 0 0, .slice none 0 0, .slice none 0 0, .slice none 0 0, .slice rlA rls.length rlc, .slice none 0 0, .slice none 0 0, .slice none 0 0, .int .i64 0, .slice none 0 0, .string ⟨#[]⟩] 60 := by rw [← hY2]; exact S1.below ((Below.refl _ Y1).al _) S1.lt
  have S2 : Blk Y2 Y1.heap.size #[.string tid, .string tvh, .string tsy, .int .i64 tcl, .slice stA sts.length stc] 35 := by rw [← hY2]; exact Blk.new Y1 _ _
  have HB2 := Lib.hid b2
  have HS1 := Lib.hid S1
  have HS2 := Lib.hid S2
  have HST := Lib.hid (hs.st b2)
  have C1 := Lib.hid (fun (X : World) (hX : Below Y2.heap.size Y2 X) (pt pg : ByteArray) (kd t : Int) => rdown_any dvc pt pg kd t ((h.st b2).st hX) ((hz.st b2).st hX) hl hd)
  clear h hz hs hd b1 b2 S1 S2
  go_enter Try.func18, Try.ntmps18
  go_wp2_with fail
  go_loopw [5, 6] (fun v i wr => ∃ (n : Nat) (A : Option Addr) (c : Nat), n ≤ 3 ∧ i = .int .i64 ((n : Int) + 1) ∧ v = .slice A (dnN dvs sts n).length c ∧ Own 3 encI 1 wr Y2.heap.size A c (dnN dvs sts n) ∧ Below Y2.heap.size Y2 wr) (fun _ i _ => 4 - (intOf i).toNat)
  case atStart => exact ⟨0, none, 0, by omega, rfl, rfl, Own.nil _ _, Below.refl _ _⟩
  case round =>
    obtain ⟨n, A, c, hn, rfl, rfl, hown, hbr⟩ := hrel
    by_cases hlt : n < 3
    · have HN := Lib.hid hlt
      have hlen := dnN_length dvs sts n
      have HY := Lib.hid (fun q => dnN_yes (l := dvs) (ss := sts) hlt q)
      have HO := Lib.hid (fun q => dnN_no (l := dvs) (ss := sts) hlt q)
      generalize dnN dvs sts n = o at *
      have hkd : decide ((n : Int) + 1 ≤ 3) = true := decide_eq_true (by omega)
      obtain ⟨kd, hkd2⟩ : ∃ kd : Int, (n : Int) + 1 = kd := ⟨_, rfl⟩
      have hk3 : kd ≤ 3 := by omega
      have hk0 : 1 ≤ kd := by omega
      rw [hkd2] at HY HO hkd ⊢
      have HK := Lib.hid hkd2
      clear hkd2 hlt hn
      obtain ⟨wo, rfl⟩ : ∃ wo, wo = wr := ⟨_, rfl⟩
      go_wp2_with fail
      go_loopw [7, 8] (fun v i wx => ∃ (j : Nat) (q : Bool), j ≤ sts.length ∧ i = .int .i64 j ∧ v = .bool q ∧ Hid (dnK dvs kd (sts.take j) = q) ∧ Below wo.heap.size wo wx) (fun _ i _ => sts.length - (intOf i).toNat)
      case atStart => exact ⟨0, false, Nat.zero_le _, rfl, rfl, rfl, Below.refl _ _⟩
      case round =>
        obtain ⟨j, q, hj, rfl, rfl, HQ, hbx⟩ := hrel
        have bX := hbr.st hbx
        have t4 : wr.cell? ⟨Y1.heap.size, 4, none⟩ = some (.slice stA sts.length stc) := (HS2.out.below bX HS2.out.lt).cell 4 rfl
        have c3 : wr.cell? ⟨w.heap.size, 3, none⟩ = some (.slice dvA dvs.length dvc) := (HS1.out.below bX HS1.out.lt).cell 3 rfl
        by_cases hjl : j < sts.length
        · obtain ⟨b, off, s, hA, hg, hx, d0, d1, d2⟩ := HST.out.st3 hjl
          subst hA
          have e0 := (bX.cell (p := ⟨b, off + j * 3, none⟩) hg).trans d0
          have e1 := (bX.cell (p := ⟨b, off + j * 3 + 1, none⟩) hg).trans d1
          have e2 := (bX.cell (p := ⟨b, off + j * 3 + 2, none⟩) hg).trans d2
          have HA := Lib.hid (dnK_snoc (l := dvs) (kd := kd) hx)
          have hj1 : (0 : Int) ≤ (j : Int) := by omega
          have hj2 : (j : Int) < (sts.length : Int) := by omega
          have HJ := Lib.hid hjl
          obtain ⟨pt, t, pg⟩ := s
          simp only at e0 e1 e2 HA
          clear d0 d1 d2 hx hjl
          cases q
          · have HA2 := Lib.hid (show dnK dvs kd (sts.take (j + 1)) = downB dvs pt kd t by rw [HA.out, HQ.out]; rfl)
            clear HA HQ
            go_wp2_with fail
            refine wp_region_held_drew (S := fun w' => w'.cell? ⟨w.heap.size, 3, none⟩ = some (.slice dvA dvs.length dvc) ∧ w'.cell? ⟨Y1.heap.size, 4, none⟩ = some (.slice (some ⟨b, off, none⟩) sts.length stc) ∧ w'.cell? ⟨b, off + j * 3, none⟩ = some (.string pt) ∧ w'.cell? ⟨b, off + j * 3 + 1, none⟩ = some (.int .i64 t) ∧ w'.cell? ⟨b, off + j * 3 + 2, none⟩ = some (.string pg)) (by kernel_rfl) ?_ (fun hHeld => ?_)
            · exact ⟨c3, t4, e0, e1, e2⟩
            change wpAnyH _ _ _ _ _ 13 _ _ _
            refine wpAnyH_take (i := 0) (v := ?_) (by simp only [List.getElem?_toArray, List.getElem?_cons_zero, List.getElem?_cons_succ]; rfl) (by kernel_rfl) (by kernel_rfl) (by kernel_rfl) (by intro _ _ _ h; exact h) (Or.inl ⟨by rfl, ?_⟩) (by assumption) ?_; rotate_left; (focus (intro w1 hSw; (try dsimp only at hSw); go_simp; (try with_reducible rfl))); (try simp only [Act.put, List.setIfInBounds_toArray, List.set_cons_zero, List.set_cons_succ, List.getElem_toArray, List.getElem_cons_zero, List.getElem_cons_succ])
            refine wpAnyH_take (i := 1) (v := ?_) (by simp only [List.getElem?_toArray, List.getElem?_cons_zero, List.getElem?_cons_succ]; rfl) (by kernel_rfl) (by kernel_rfl) (by kernel_rfl) (by intro _ _ _ h; exact h) (Or.inl ⟨by rfl, ?_⟩) (by assumption) ?_; rotate_left; (focus (intro w1 hSw; (try dsimp only at hSw); go_simp; (try with_reducible rfl))); (try simp only [Act.put, List.setIfInBounds_toArray, List.set_cons_zero, List.set_cons_succ, List.getElem_toArray, List.getElem_cons_zero, List.getElem_cons_succ])
            refine wpAnyH_take (i := 2) (v := ?_) (by simp only [List.getElem?_toArray, List.getElem?_cons_zero, List.getElem?_cons_succ]; rfl) (by kernel_rfl) (by kernel_rfl) (by kernel_rfl) (by intro _ _ _ h; exact h) (Or.inl ⟨by rfl, ?_⟩) (by assumption) ?_; rotate_left; (focus (intro w1 hSw; (try dsimp only at hSw); go_simp; (try with_reducible rfl))); (try simp only [Act.put, List.setIfInBounds_toArray, List.set_cons_zero, List.set_cons_succ, List.getElem_toArray, List.getElem_cons_zero, List.getElem_cons_succ])
            refine wpAnyH_take (i := 3) (v := ?_) (by simp only [List.getElem?_toArray, List.getElem?_cons_zero, List.getElem?_cons_succ]; rfl) (by kernel_rfl) (by kernel_rfl) (by kernel_rfl) (by intro _ _ _ h; exact h) (Or.inl ⟨by rfl, ?_⟩) (by assumption) ?_; rotate_left; (focus (intro w1 hSw; (try dsimp only at hSw); go_simp; (try with_reducible rfl))); (try simp only [Act.put, List.setIfInBounds_toArray, List.set_cons_zero, List.set_cons_succ, List.getElem_toArray, List.getElem_cons_zero, List.getElem_cons_succ])
            refine wpAnyH_take (i := 4) (v := ?_) (by simp only [List.getElem?_toArray, List.getElem?_cons_zero, List.getElem?_cons_succ]; rfl) (by kernel_rfl) (by kernel_rfl) (by kernel_rfl) (by intro _ _ _ h; exact h) (Or.inl ⟨by rfl, ?_⟩) (by assumption) ?_; rotate_left; (focus (intro w1 hSw; (try dsimp only at hSw); go_simp; (try with_reducible rfl))); (try simp only [Act.put, List.setIfInBounds_toArray, List.set_cons_zero, List.set_cons_succ, List.getElem_toArray, List.getElem_cons_zero, List.getElem_cons_succ])
            refine wpAnyH_take (i := 5) (v := ?_) (by simp only [List.getElem?_toArray, List.getElem?_cons_zero, List.getElem?_cons_succ]; rfl) (by kernel_rfl) (by kernel_rfl) (by kernel_rfl) (by intro _ _ _ h; exact h) (Or.inl ⟨by rfl, ?_⟩) (by assumption) ?_; rotate_left; (focus (intro w1 hSw; (try dsimp only at hSw); go_simp; (try with_reducible rfl))); (try simp only [Act.put, List.setIfInBounds_toArray, List.set_cons_zero, List.set_cons_succ, List.getElem_toArray, List.getElem_cons_zero, List.getElem_cons_succ])
            refine wpAnyH_take (i := 6) (v := ?_) (by simp only [List.getElem?_toArray, List.getElem?_cons_zero, List.getElem?_cons_succ]; rfl) (by kernel_rfl) (by kernel_rfl) (by kernel_rfl) (by intro _ _ _ h; exact h) (Or.inl ⟨by rfl, ?_⟩) (by assumption) ?_; rotate_left; (focus (intro w1 hSw; (try dsimp only at hSw); go_simp; (try with_reducible rfl))); (try simp only [Act.put, List.setIfInBounds_toArray, List.set_cons_zero, List.set_cons_succ, List.getElem_toArray, List.getElem_cons_zero, List.getElem_cons_succ])
            refine wpAnyH_take (i := 7) (v := ?_) (by simp only [List.getElem?_toArray, List.getElem?_cons_zero, List.getElem?_cons_succ]; rfl) (by kernel_rfl) (by kernel_rfl) (by kernel_rfl) (by intro _ _ _ h; exact h) (Or.inl ⟨by rfl, ?_⟩) (by assumption) ?_; rotate_left; (focus (intro w1 hSw; (try dsimp only at hSw); go_simp; (try with_reducible rfl))); (try simp only [Act.put, List.setIfInBounds_toArray, List.set_cons_zero, List.set_cons_succ, List.getElem_toArray, List.getElem_cons_zero, List.getElem_cons_succ])
            refine wpAnyH_take (i := 8) (v := ?_) (by simp only [List.getElem?_toArray, List.getElem?_cons_zero, List.getElem?_cons_succ]; rfl) (by kernel_rfl) (by kernel_rfl) (by kernel_rfl) (by intro _ _ _ h; exact h) (Or.inl ⟨by rfl, ?_⟩) (by assumption) ?_; rotate_left; (focus (intro w1 hSw; (try dsimp only at hSw); go_simp; (try with_reducible rfl))); (try simp only [Act.put, List.setIfInBounds_toArray, List.set_cons_zero, List.set_cons_succ, List.getElem_toArray, List.getElem_cons_zero, List.getElem_cons_succ])
            refine wpAnyH_take (i := 9) (v := ?_) (by simp only [List.getElem?_toArray, List.getElem?_cons_zero, List.getElem?_cons_succ]; rfl) (by kernel_rfl) (by kernel_rfl) (by kernel_rfl) (by intro _ _ _ h; exact h) (Or.inl ⟨by rfl, ?_⟩) (by assumption) ?_; rotate_left; (focus (intro w1 hSw; (try dsimp only at hSw); go_simp; (try with_reducible rfl))); (try simp only [Act.put, List.setIfInBounds_toArray, List.set_cons_zero, List.set_cons_succ, List.getElem_toArray, List.getElem_cons_zero, List.getElem_cons_succ])
            refine wpAnyH_ready (rs := [10]) (by kernel_rfl) (by simp) ?_
            refine AllReadyH.cons (by simp only [List.getElem?_toArray, List.getElem?_cons_zero, List.getElem?_cons_succ]; rfl) (fun K hK => ?_) AllReadyH.nil
            rw [if_pos (by rfl)]
            go_wp2_with fail
            refine (C1.out wr.drew bX.drew pt pg kd t).mono ?_
            rintro e wn ⟨rfl, hbn⟩
            have hbn2 : Below wo.heap.size wo wn := hbx.drew.st hbn
            have bN : Below wr.heap.size wr wn := (Below.refl wr.heap.size wr).drew.st hbn
            go_wp2_with fail
            refine hK.out _ _ ?_ (fun hHeld => ?_)
            · exact ⟨(HS1.out.below (hbr.st hbn2) HS1.out.lt).cell 3 rfl, (HS2.out.below (hbr.st hbn2) HS2.out.lt).cell 4 rfl, (bN.cell (p := ⟨b, off + j * 3, none⟩) (Nat.lt_of_lt_of_le hg bX.size)).trans e0, (bN.cell (p := ⟨b, off + j * 3 + 1, none⟩) (Nat.lt_of_lt_of_le hg bX.size)).trans e1, (bN.cell (p := ⟨b, off + j * 3 + 2, none⟩) (Nat.lt_of_lt_of_le hg bX.size)).trans e2⟩
            clear hK K
            (try simp only [Act.put, List.setIfInBounds_toArray, List.set_cons_zero, List.set_cons_succ, List.getElem_toArray, List.getElem_cons_zero, List.getElem_cons_succ])
            refine wpAnyH_take (i := 11) (v := ?_) (by simp only [List.getElem?_toArray, List.getElem?_cons_zero, List.getElem?_cons_succ]; rfl) (by kernel_rfl) (by kernel_rfl) (by kernel_rfl) (by intro _ _ _ h; exact h) (Or.inl ⟨by rfl, ?_⟩) (by assumption) ?_; rotate_left; (focus (intro w1 hSw; (try dsimp only at hSw); go_simp; (try with_reducible rfl))); (try simp only [Act.put, List.setIfInBounds_toArray, List.set_cons_zero, List.set_cons_succ, List.getElem_toArray, List.getElem_cons_zero, List.getElem_cons_succ])
            refine wpAnyH_take (i := 12) (v := ?_) (by simp only [List.getElem?_toArray, List.getElem?_cons_zero, List.getElem?_cons_succ]; rfl) (by kernel_rfl) (by kernel_rfl) (by kernel_rfl) (by intro _ _ _ h; exact h) (Or.inl ⟨by rfl, ?_⟩) (by assumption) ?_; rotate_left; (focus (intro w1 hSw; (try dsimp only at hSw); go_simp; (try with_reducible rfl))); (try simp only [Act.put, List.setIfInBounds_toArray, List.set_cons_zero, List.set_cons_succ, List.getElem_toArray, List.getElem_cons_zero, List.getElem_cons_succ])
            refine wpAnyH_done (by kernel_rfl) ?_ _
            clear e0 e1 e2 t4 c3
            go_wp2
            go_roundw
            case rel => exact ⟨j + 1, _, HJ.out, by go_num, rfl, HA2, hbn2⟩
            case measure => have := HJ.out; simp [intOf]; omega
          · have HA2 := Lib.hid (show dnK dvs kd (sts.take (j + 1)) = true by rw [HA.out, HQ.out]; rfl)
            clear HA HQ
            go_wp2_with fail
            go_quiet (fail)
            go_wp2
            go_roundw
            case rel => exact ⟨j + 1, true, HJ.out, by go_num, rfl, HA2, below_drewN hbx _⟩
            case measure => have := HJ.out; simp [intOf]; omega
        · obtain rfl : j = sts.length := by omega
          have HQ2 : Hid (dnK dvs kd sts = q) := by have := HQ.out; rwa [List.take_length] at this
          have hown2 := hown.st hbx
          have hb2 : Y2.heap.size ≤ wr.heap.size := bX.size
          clear HQ hown
          cases q
          · have HO2 := Lib.hid (HO.out HQ2.out)
            clear HO HY
            go_wp2_with fail
            go_roundw
            case rel => exact ⟨n + 1, A, c, HN.out, by have := HK.out; have := HN.out; go_num, by rw [HO2.out], by rw [HO2.out]; exact hown2, bX⟩
            case measure => have := HN.out; have := HK.out; simp [intOf]; omega
          · have HY2 := Lib.hid (HY.out HQ2.out)
            clear HO HY
            go_wp2_with (at_builtin; refine wpList_app1 rfl (.tmp 33) (.tmp 35) tyI encI_ok rfl kd rfl _ rfl (by simp) hown2 rfl (by first | rfl | simp) (by first | omega | (simp; omega)) (by first | omega | (simp; omega)) bX.size ?_; intro A1 c1 w1 hown1 hb1 hs1 hf1; have hbel1 := bX.trans hb1)
            go_wp2
            go_roundw
            case rel => exact ⟨n + 1, A1, c1, HN.out, by have := HK.out; have := HN.out; go_num, by rw [HY2.out]; simp, by rw [HY2.out]; exact hown1, hbel1⟩
            case measure => have := HN.out; have := HK.out; simp [intOf]; omega
    · obtain rfl : n = 3 := by omega
      rw [dnN_all] at *
      go_wp2
      go_ret
      exact ⟨_, _, rfl, hown.mono HB2.out.size, HB2.out.st hbr⟩
end Go.Proofs.Ytekdppnlgkfcdaa
