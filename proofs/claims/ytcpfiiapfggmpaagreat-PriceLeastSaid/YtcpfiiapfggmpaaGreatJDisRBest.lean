/- Joined texts: DisRBest, DisRLines. -/
import Derived.Test.YtcpfiiapfggmpaaGreatDisRefB
import Derived.Test.YtcpfiiapfggmpaaGreatJDisPAll
import Derived.Test.YtcpfiiapfggmpaaGreatJDisBest2
/- The reference's Best, walked: the best combination. -/
set_option linter.unusedSimpArgs false
namespace Go.Proofs.YtcpfiiapfggmpaaGreat
open Go.RowKit Go.Lib

set_option maxRecDepth 100000 in
set_option maxHeartbeats 16000000 in
theorem rbest_any {lA : Option Addr} {lc : Nat} {l : List Dc} {n : Int} (hok : LOk l) (h0 : 0 ≤ n) (h1 : n ≤ 1125899906842624) {w : World} (hr : Rd encDc 10 w w.heap.size lA l) :
    Calls Tryz.prog 97 #[.slice lA l.length lc, .int .i64 n] w fun e w' => ∃ A c b, e = .returned (.tuple #[.slice A b.length c, .int .i64 (red l n b), .int .i64 0]) ∧ BestR l n b ∧ Own 3 encN 1 w' w.heap.size A c b ∧ Below w.heap.size w w' := by
  have CX : Hid (∀ X : World, Rd encDc 10 X X.heap.size lA l → Calls Tryz.prog 29 #[.slice lA l.length lc] X fun e w' => e = .returned (.int .i64 0) ∧ Below X.heap.size X w') := Lib.hid (fun X hX => (dall2_any lc hX).mono (fun e w' ⟨⟨n, he, hn⟩, hb⟩ => ⟨by rw [he, hn.2 hok], hb⟩))
  have HR := Lib.hid hr
  have HOK := Lib.hid hok
  have HF := Lib.hid hok.few
  have n1 : ¬ n < 0 := by omega
  have n2 : ¬ 1125899906842624 < n := by omega
  have CC := Lib.hid (CX.out w hr)
  clear hr hok CX
  go_enter Tryz.func97, Tryz.ntmps97
  go_wp2_with fail
  refine CC.out.mono ?_
  rintro e W2 ⟨rfl, hbn⟩
  have HB0 := Lib.hid hbn
  have hf12 : l.length ≤ 12 := HF.out
  clear hbn CC
  go_wp2_with fail
  go_loopw [9, 8] (fun sk sa wr => ∃ k : Nat, k ≤ l.length ∧ sk = .int .i64 k ∧ sa = .int .i64 ((2 ^ k : Nat) : Int) ∧ wr = W2) (fun sk _ _ => l.length - (RowKit.intOf sk).toNat)
  case atStart => exact ⟨0, Nat.zero_le _, rfl, rfl, by first | rfl | trivial⟩
  case round =>
    obtain ⟨k, hk, rfl, rfl, hw⟩ := hrel
    have hw := hw.symm
    subst hw
    have k1 : (0 : Int) ≤ (k : Int) := by omega
    by_cases hi : k < l.length
    · have k2 : (k : Int) < (l.length : Int) := by omega
      have HI := Lib.hid hi
      have hp := pow_le12 (show k ≤ 12 by omega)
      have HP2 : Hid ((2 ^ (k + 1) : Nat) = 2 * 2 ^ k) := Lib.hid (by rw [Nat.pow_succ]; omega)
      obtain ⟨bt, hbt⟩ : ∃ bt, 2 ^ k = bt := ⟨_, rfl⟩
      rw [hbt] at hp HP2 ⊢
      have t3 : IntKind.i64.wrap ((bt : Int) * 2) = ((2 ^ (k + 1) : Nat) : Int) := by rw [HP2.out]; rw [IntWalk.i64_in _ (by omega)]; omega
      obtain ⟨pp, hpp⟩ : ∃ p, ((2 ^ (k + 1) : Nat) : Int) = p := ⟨_, rfl⟩
      rw [hpp] at t3
      have HPP := Lib.hid hpp
      clear hbt HP2 hpp hi
      go_wp2_with fail
      go_roundw
      case rel => exact ⟨k + 1, HI.out, by go_num, by rw [HPP.out], by first | rfl | trivial⟩
      case measure => have := HI.out; simp [RowKit.intOf]; omega
    · obtain rfl : k = l.length := by omega
      have hp := pow_le12 hf12
      have HP := Lib.hid hp
      have HR1 := Lib.hid (RBst.start l n)
      have hre : red l n [] = 0 := by unfold red sumA; split <;> omega
      have HRE := Lib.hid hre
      clear hi hre
      obtain ⟨al, hal⟩ : ∃ a, 2 ^ l.length = a := ⟨_, rfl⟩
      rw [hal] at hp ⊢
      have HAL := Lib.hid hal
      obtain ⟨hp1, hp2⟩ := hp
      clear hal
      go_wp2_with fail
      go_loopw [12, 10, 11] (fun sk so sm wr => ∃ (k : Nat) (A : Option Addr) (c : Nat) (b : List Nat), 1 ≤ k ∧ k ≤ al ∧ sk = .int .i64 k ∧ so = .slice A b.length c ∧ sm = .int .i64 (red l n b) ∧ Own 3 encN 1 wr w.heap.size A c b ∧ RBst l n k b ∧ Below w.heap.size w wr) (fun sk _ _ _ => al - (RowKit.intOf sk).toNat)
      case atStart => exact ⟨1, none, 0, [], Nat.le_refl _, hp1, rfl, rfl, by rw [HRE.out], Own.nil _ _, HR1.out, HB0.out⟩
      case round =>
        obtain ⟨k, A, c, b, hk1, hk2, rfl, rfl, rfl, hown, hrb, hbn⟩ := hrel
        have k1 : (0 : Int) ≤ (k : Int) := by omega
        have HOW := Lib.hid hown
        have HRB := Lib.hid hrb
        have HBN := Lib.hid hbn
        have HBL : Hid (b.length ≤ 12) := Lib.hid (by have := hrb.cand.len; omega)
        obtain ⟨m, hm⟩ : ∃ m, red l n b = m := ⟨_, rfl⟩
        rw [hm]
        have HM := Lib.hid hm
        clear hown hrb hbn
        by_cases hi : k < al
        · have k2 : (k : Int) < (al : Int) := by omega
          have HI := Lib.hid hi
          have CCH := Lib.hid (chosen_any (lc := lc) hf12 (m := k) (by omega) (HR.out.st HBN.out))
          clear hi hm
          go_wp2_with fail
          refine CCH.out.mono ?_
          rintro e W3 (⟨A2, c2, rfl, hown2, hca, hb3⟩ | ⟨rfl, hno, hb3⟩)
          case' inr =>
            have HB3 := Lib.hid hb3
            have HNO := Lib.hid hno
            clear hno hb3 CCH
            go_wp2_with fail
            (go_roundw); (case rel => exact ⟨k + 1, A, c, b, by omega, HI.out, by go_num, rfl, by first | rfl | rw [HM.out], HOW.out.keep (HB3).out (Nat.le_refl _), HRB.out.skip HNO.out, HBN.out.st (HB3).out⟩); (case measure => have := HI.out; simp [RowKit.intOf]; omega)
          have HB3 := Lib.hid hb3
          have HO3 := Lib.hid hown2
          have HCA := Lib.hid hca
          obtain ⟨C, hC⟩ : ∃ C, bitsN l.length k = C := ⟨_, rfl⟩
          have HCC := Lib.hid hC
          have CR := Lib.hid (reduc_any (lc := lc) (cc := c2) HOK.out h0 h1 hca ((HR.out.st HBN.out).st hb3) (hown2.rd encN_ok))
          rw [hC] at HO3 CR ⊢
          have HCL : Hid (C.length ≤ 12) := Lib.hid (by have := hca.len; rw [hC] at this; omega)
          clear hb3 hown2 hca hC CCH
          go_wp2_with fail
          refine CR.out.mono ?_
          rintro e W4 ⟨rfl, hb4⟩
          have HB4 := Lib.hid (HB3.out.trans (hb4.mono HB3.out.size))
          have HO4 := Lib.hid ((HO3.out.keep hb4 (Nat.le_refl _)).mono HBN.out.size)
          have HRC := Lib.hid ((HO3.out.keep hb4 (Nat.le_refl _)).rd encN_ok)
          have HRBB := Lib.hid ((HOW.out.keep HB4.out (Nat.le_refl _)).rd encN_ok)
          have CP := Lib.hid (fun (hl : C.length = b.length) => before_any c2 c hl (by have := HCL.out; omega) HRC.out HRBB.out)
          have HT : Hid (betB l n C b = (decide (red l n b < red l n C) || (decide (red l n C = red l n b) && (decide (C.length < b.length) || (decide (C.length = b.length) && lexN C b))))) := Lib.hid rfl
          obtain ⟨r, hr⟩ : ∃ r, red l n C = r := ⟨_, rfl⟩
          rw [hr, HM.out] at HT
          rw [hr]
          have HR2 := Lib.hid hr
          clear hr hb4 CR HO3 HRC HRBB
          rcases Int.lt_trichotomy m r with a1 | a1 | a1
          · have R := Lib.hid (HT.out.trans (show _ = true by simp [a1]))
            clear HT CP
            (go_wp2_with fail); (go_roundw); (case rel => exact ⟨k + 1, A2, c2, C, by omega, HI.out, by go_num, rfl, by rw [HR2.out], HO4.out, by rw [← HCC.out]; exact HRB.out.take HCA.out (by rw [HCC.out]; exact R.out), HBN.out.trans ((HB4.out).mono HBN.out.size)⟩); (case measure => have := HI.out; simp [RowKit.intOf]; omega)
          · have HMR := Lib.hid a1
            have a2 : ¬ m < r := by omega
            have a3 : (r == m) = true := by simp [a1]
            rcases Nat.lt_trichotomy C.length b.length with a4 | a4 | a4
            · have a5 : (C.length : Int) < (b.length : Int) := by omega
              have R := Lib.hid (HT.out.trans (show _ = true by simp [a1, a4]))
              clear HT CP a1 a4
              (go_wp2_with fail); (go_roundw); (case rel => exact ⟨k + 1, A2, c2, C, by omega, HI.out, by go_num, rfl, by rw [HR2.out], HO4.out, by rw [← HCC.out]; exact HRB.out.take HCA.out (by rw [HCC.out]; exact R.out), HBN.out.trans ((HB4.out).mono HBN.out.size)⟩); (case measure => have := HI.out; simp [RowKit.intOf]; omega)
            · have a5 : ¬ (C.length : Int) < (b.length : Int) := by omega
              have a6 : ((C.length : Int) == (b.length : Int)) = true := by rw [a4]; simp
              have CPX := Lib.hid (CP.out a4)
              have HTX := Lib.hid (HT.out.trans (show _ = lexN C b by simp [a1, a4]))
              clear HT CP a1 a4
              generalize lexN C b = lx at *
              cases lx
              · have R := Lib.hid HTX.out
                clear HTX
                go_wp2_with fail
                refine CPX.out.mono ?_
                rintro e W5 ⟨rfl, q, hw5⟩
                have HB4 : Hid (Below wr.heap.size wr W5) := Lib.hid (by rw [hw5]; exact below_drewN HB4.out q)
                clear hw5
                (go_wp2_with fail); (go_roundw); (case rel => exact ⟨k + 1, A, c, b, by omega, HI.out, by go_num, rfl, by rw [HM.out], HOW.out.keep HB4.out (Nat.le_refl _), HRB.out.stay (by rw [HCC.out]; exact R.out), HBN.out.trans ((HB4.out).mono HBN.out.size)⟩); (case measure => have := HI.out; simp [RowKit.intOf]; omega)
              · have R := Lib.hid HTX.out
                clear HTX
                go_wp2_with fail
                refine CPX.out.mono ?_
                rintro e W5 ⟨rfl, q, hw5⟩
                have HO4 : Hid (Own 3 encN 1 W5 w.heap.size A2 c2 C) := Lib.hid (by rw [hw5]; exact HO4.out.drewN q)
                have HB4 : Hid (Below wr.heap.size wr W5) := Lib.hid (by rw [hw5]; exact below_drewN HB4.out q)
                clear hw5
                (go_wp2_with fail); (go_roundw); (case rel => exact ⟨k + 1, A2, c2, C, by omega, HI.out, by go_num, rfl, by rw [HR2.out], HO4.out, by rw [← HCC.out]; exact HRB.out.take HCA.out (by rw [HCC.out]; exact R.out), HBN.out.trans ((HB4.out).mono HBN.out.size)⟩); (case measure => have := HI.out; simp [RowKit.intOf]; omega)
            · have a5 : ¬ (C.length : Int) < (b.length : Int) := by omega
              have a6 : ((C.length : Int) == (b.length : Int)) = false := by rw [beq_eq_false_iff_ne]; omega
              have R := Lib.hid (HT.out.trans (show _ = false by simp [a1]; omega))
              clear HT CP a1 a4
              (go_wp2_with fail); (go_roundw); (case rel => exact ⟨k + 1, A, c, b, by omega, HI.out, by go_num, rfl, by rw [HM.out], HOW.out.keep HB4.out (Nat.le_refl _), HRB.out.stay (by rw [HCC.out]; exact R.out), HBN.out.trans ((HB4.out).mono HBN.out.size)⟩); (case measure => have := HI.out; simp [RowKit.intOf]; omega)
          · have a2 : ¬ m < r := by omega
            have a3 : (r == m) = false := by rw [beq_eq_false_iff_ne]; omega
            have R := Lib.hid (HT.out.trans (show _ = false by simp [a2]; omega))
            clear HT CP a1
            (go_wp2_with fail); (go_roundw); (case rel => exact ⟨k + 1, A, c, b, by omega, HI.out, by go_num, rfl, by rw [HM.out], HOW.out.keep HB4.out (Nat.le_refl _), HRB.out.stay (by rw [HCC.out]; exact R.out), HBN.out.trans ((HB4.out).mono HBN.out.size)⟩); (case measure => have := HI.out; simp [RowKit.intOf]; omega)
        · obtain rfl : k = al := by omega
          have HFI := Lib.hid (show BestR l n b from RBst.fin (by rw [HAL.out]; exact HRB.out))
          clear hi hm
          go_wp2_with fail
          go_ret3
          exact ⟨A, c, b, by rw [HM.out]; rfl, HFI.out, HOW.out, HBN.out⟩
end Go.Proofs.YtcpfiiapfggmpaaGreat
/- The reference's Lines of discounts, walked. -/
set_option linter.unusedSimpArgs false
namespace Go.Proofs.YtcpfiiapfggmpaaGreat
open Go.RowKit Go.Lib

set_option maxRecDepth 100000 in
set_option maxHeartbeats 8000000 in
theorem rlinesD_any {lA : Option Addr} {lc : Nat} {l : List Dc} {n : Int} (hok : LOk l) (h0 : 0 ≤ n) (h1 : n ≤ 1125899906842624) {w : World} (hr : Rd encDc 10 w w.heap.size lA l) :
    Calls Tryz.prog 51 #[.slice lA l.length lc, .int .i64 n] w fun e w' => LnsR l n w w' e := by
  have CB := Lib.hid (rbest_any (lc := lc) hok h0 h1 hr)
  have HR := Lib.hid hr
  have HOK := Lib.hid hok
  have HF := Lib.hid hok.few
  clear hr hok
  go_enter Tryz.func51, Tryz.ntmps51
  go_wp2_with fail
  refine CB.out.mono ?_
  rintro e W2 ⟨bA, bc, b, rfl, hbest, hown, hbn⟩
  have RB := Lib.hid (hown.rd encN_ok)
  have HBW := Lib.hid hbn
  have HBE := Lib.hid hbest
  have HBL := Lib.hid (show b.length ≤ 12 by have := hbest.1.len; have := HF.out; omega)
  generalize red l n b = m
  have hbl : b.length ≤ 12 := HBL.out
  clear hbest hown hbn CB
  go_wp2_with fail
  go_loopw [10, 8, 9] (fun sk so sl wr => ∃ (k : Nat) (A : Option Addr) (c : Nat), k ≤ b.length ∧ sk = .int .i64 k ∧ so = .slice A (lnsS l n (b.take k)).1.length c ∧ sl = .int .i64 (lnsS l n (b.take k)).2 ∧ Own 123 encLn 2 wr W2.heap.size A c (lnsS l n (b.take k)).1 ∧ Below W2.heap.size W2 wr) (fun sk _ _ _ => b.length - (RowKit.intOf sk).toNat)
  case atStart => exact ⟨0, none, 0, Nat.zero_le _, rfl, rfl, rfl, Own.nil _ _, Below.refl _ _⟩
  case round =>
    obtain ⟨k, A, c, hk, rfl, rfl, rfl, hown, hb2⟩ := hrel
    have k1 : (0 : Int) ≤ (k : Int) := by omega
    by_cases hi : k < b.length
    · have k2 : (k : Int) < (b.length : Int) := by omega
      have HI := Lib.hid hi
      obtain ⟨g, o, hA, hg, hx⟩ := (RB.out.keep hb2).n hi
      have HX := Lib.hid (show b[k]? = some b[k] from List.getElem?_eq_getElem hi)
      generalize b[k] = i at *
      subst hA
      have hil : i < l.length := HBE.out.1.lt i (List.mem_of_getElem? HX.out)
      obtain ⟨lb, lo, x, hA2, hlb, hxl, hc⟩ := ((HR.out.st HBW.out).keep hb2).at_ hil
      subst hA2
      have d0 := hc 0 _ rfl; have d1 := hc 1 _ rfl; have d2 := hc 2 _ rfl; have d3 := hc 3 _ rfl; have d4 := hc 4 _ rfl; have d5 := hc 5 _ rfl; have d6 := hc 6 _ rfl; have d7 := hc 7 _ rfl; have d8 := hc 8 _ rfl; have d9 := hc 9 _ rfl; simp only [Nat.add_zero] at d0
      have HAM : Hid (amtN l n i = amtV x n) := Lib.hid (by unfold amtN; rw [hxl])
      have HNM : Hid (nmN l i = x.nm) := Lib.hid (by unfold nmN; rw [hxl])
      have CAM := Lib.hid (fun (X : World) => ramount_any (HOK.out.mem (List.mem_of_getElem? hxl)) h0 h1 X)
      have hab := amtV_bnd (HOK.out.mem (List.mem_of_getElem? hxl)) h0
      have hlf := lns_left (amtN_bnd HOK.out h0) h0 h1 (b.take k)
      have HLN : Hid ((lnsS l n (b.take k)).1.length = k) := Lib.hid (by rw [lnsS_len HOK.out h0 h1, List.length_take]; have := HI.out; omega)
      have HST := Lib.hid (lnsS_at (l := l) (n := n) HX.out)
      obtain ⟨L, hL⟩ : ∃ L, (lnsS l n (b.take k)).1 = L := ⟨_, rfl⟩
      obtain ⟨lf, hlfe⟩ : ∃ f, (lnsS l n (b.take k)).2 = f := ⟨_, rfl⟩
      obtain ⟨am, hame⟩ : ∃ am, amtV x n = am := ⟨_, rfl⟩
      have HST2 : Hid (lnsS l n (b.take (k + 1)) = (L ++ [(x.nm, -(mn am lf))], lf - mn am lf)) := Lib.hid (by rw [HST.out]; unfold stepL; rw [hL, hlfe, HNM.out, HAM.out, hame])
      rw [hL] at hown HLN ⊢
      rw [hlfe] at hlf ⊢
      rw [hame] at CAM hab
      have HMN : Hid (mn am lf = if lf < am then lf else am) := Lib.hid rfl
      obtain ⟨hlf1, hlf2⟩ := hlf
      have i1 : (0 : Int) ≤ (i : Int) := by omega
      have i2 : (i : Int) < (l.length : Int) := by omega
      have HLB := Lib.hid hlb
      have HD0 := Lib.hid d0
      have HX0 := Lib.hid hx
      have HG := Lib.hid hg
      have HOW := Lib.hid hown
      have HB2 := Lib.hid hb2
      have HLN9 : Hid (L.length ≤ 12) := Lib.hid (by have := HLN.out; have := HI.out; have := HBL.out; omega)
      clear hL hlfe hame hxl hc hlb hown hb2 hil hi HST HAM HNM hg
      go_wp2_with fail
      refine (CAM.out _).mono ?_
      rintro e W3 ⟨rfl, hbn⟩
      have bW3 := Lib.hid (HB2.out.trans (hbn.mono HB2.out.size))
      have hown := HOW.out.keep hbn (Nat.le_refl _)
      have d0 := (hbn.cell (p := ⟨lb, lo + i * 10, none⟩) (Nat.lt_of_lt_of_le HLB.out HB2.out.size)).trans HD0.out
      have hx := (hbn.cell (p := ⟨g, o + k, none⟩) (Nat.lt_of_lt_of_le HG.out HB2.out.size)).trans HX0.out
      have hll : L.length ≤ 12 := HLN9.out
      have hbs : W2.heap.size ≤ W3.heap.size := Nat.le_trans HB2.out.size hbn.size
      clear hbn d1 d2 d3 d4 d5 d6 d7 d8 d9 CAM HOW
      by_cases hlt : lf < am
      · have hme := HMN.out.trans (if_pos hlt)
        rw [hme] at HST2
        obtain ⟨a, ha⟩ : ∃ a, a = lf := ⟨_, rfl⟩
        have w1 : IntKind.i64.wrap (-lf) = -lf := IntWalk.i64_in _ (by omega)
        have w2 : IntKind.i64.wrap (lf - lf) = lf - lf := IntWalk.i64_in _ (by omega)
        clear hme HMN ha
        go_wp2_with (at_builtin; refine wpList_app1 rfl (.tmp 44) (.tmp 56) tyLn encLn_ok rfl (x.nm, -lf) rfl _ rfl (by simp) hown rfl (by first | rfl | simp) (by first | omega | (simp; omega)) (by first | omega | (simp; omega)) hbs ?_; intro A9 c9 w9 hown9 hb9 hs9 hf9)
        go_roundw
        case rel =>
          refine ⟨k + 1, A9, c9, HI.out, by go_num, ?_, ?_, ?_, bW3.out.trans hb9⟩
          · rw [HST2.out]; simp
          · rw [HST2.out]; simp
          · rw [HST2.out]; exact hown9
        case measure => have := HI.out; simp [RowKit.intOf]; omega
      · have hme := HMN.out.trans (if_neg hlt)
        rw [hme] at HST2
        have w1 : IntKind.i64.wrap (-am) = -am := IntWalk.i64_in _ (by omega)
        have w2 : IntKind.i64.wrap (lf - am) = lf - am := IntWalk.i64_in _ (by omega)
        clear hme HMN
        go_wp2_with (at_builtin; refine wpList_app1 rfl (.tmp 44) (.tmp 56) tyLn encLn_ok rfl (x.nm, -am) rfl _ rfl (by simp) hown rfl (by first | rfl | simp) (by first | omega | (simp; omega)) (by first | omega | (simp; omega)) hbs ?_; intro A9 c9 w9 hown9 hb9 hs9 hf9)
        go_roundw
        case rel =>
          refine ⟨k + 1, A9, c9, HI.out, by go_num, ?_, ?_, ?_, bW3.out.trans hb9⟩
          · rw [HST2.out]; simp
          · rw [HST2.out]
          · rw [HST2.out]; exact hown9
        case measure => have := HI.out; simp [RowKit.intOf]; omega
    · obtain rfl : k = b.length := by omega
      have HLN : Hid ((lnsS l n b).1.length = b.length) := Lib.hid (lnsS_len HOK.out h0 h1 b)
      rw [List.take_length, HLN.out] at *
      have HOW := Lib.hid hown
      have HB2 := Lib.hid hb2
      clear hown hb2 hi
      go_wp2_with fail
      go_ret
      exact ⟨A, c, b, rfl, HBE.out, HOW.out.mono HBW.out.size, HBW.out.trans (HB2.out.mono HBW.out.size)⟩
end Go.Proofs.YtcpfiiapfggmpaaGreat
