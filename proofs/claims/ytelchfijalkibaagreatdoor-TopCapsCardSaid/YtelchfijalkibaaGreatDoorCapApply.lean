/- cap.Apply, walked. -/
import Derived.Test.YtelchfijalkibaaGreatDoorCapCmp
import Derived.Test.YtelchfijalkibaaGreatDoorJCapAdd
import Derived.Test.YtelchfijalkibaaGreatDoorCapChk
import Derived.Test.YtelchfijalkibaaGreatDoorJCapOrd
import Derived.Test.YtelchfijalkibaaGreatDoorOStabOwn
import Derived.Deep.DeepCutAuto
set_option linter.unusedSimpArgs false
set_option linter.unusedSimpArgs false
namespace Go.Proofs.YtelchfijalkibaaGreatDoor
open Go.RowKit Go.Lib Go.Sort Go.Shelf

/-- the first numbers, and zeros behind them -/
def rngL (n k : Nat) : List Int := (List.range k).map (fun i : Nat => (i : Int)) ++ List.replicate (n - k) 0
theorem rngL_0 (n : Nat) : rngL n 0 = List.replicate n 0 := by simp [rngL]
theorem rngL_n (n : Nat) : rngL n n = (List.range n).map (fun i : Nat => (i : Int)) := by simp [rngL]
theorem rngL_at {n k : Nat} (h : k < n) : (rngL n k)[k]? = some 0 := by
  unfold rngL
  rw [List.getElem?_append_right (by simp), List.getElem?_replicate, if_pos (by simp; omega)]
theorem rngL_succ {n k : Nat} (h : k < n) : (rngL n k).set k (k : Int) = rngL n (k + 1) := by
  unfold rngL
  rw [List.set_append_right _ _ (by simp)]
  simp only [List.length_map, List.length_range, Nat.sub_self, List.range_succ, List.map_append, List.map_cons, List.map_nil, List.append_assoc]
  congr 1
  rw [show n - k = (n - (k + 1)) + 1 by omega, List.replicate_succ]
  simp

theorem wfI {v : Int} (h1 : -1 ≤ v) (h2 : v ≤ 1000000) : (Lit.int .i64 v).wf = true := by
  show (decide (IntKind.i64.min ≤ v) && decide (v ≤ IntKind.i64.max)) = true
  have e1 : IntKind.i64.min = -9223372036854775808 := by decide
  have e2 : IntKind.i64.max = 9223372036854775807 := by decide
  rw [e1, e2]
  simp; omega
set_option maxRecDepth 100000 in
set_option maxHeartbeats 16000000 in
theorem apply_any {Ac A : Option Addr} (cc c : Nat) {caps : List Cp} {l : List Cg} {w : World} (hC : Rd encCp 4 w w.heap.size Ac caps) (hr : Rd encCg 7 w w.heap.size A l) (hm : Mon w) (hcl : caps.length ≤ 9223372036854775807) (hll : l.length ≤ 9223372036854775807) :
    Calls Tryz.prog 8 #[.slice Ac caps.length cc, .slice A l.length c] w fun e w' => PaidR caps (cvs l) w w' e := by
  have hcv : (cvs l).length = l.length := by unfold cvs; simp
  have HM := Lib.hid hm
  have HC := Lib.hid hC
  have HR := Lib.hid hr
  obtain ⟨Y, hY⟩ : ∃ Y, w.alloc (.cells #[.slice A l.length c] 50) = Y := ⟨_, rfl⟩
  have BB : Blk Y w.heap.size #[.slice A l.length c] 50 := by rw [← hY]; exact Blk.new w _ _
  have bW : Below w.heap.size w Y := by rw [← hY]; exact (Below.refl _ w).al _
  have b0 := BB.cell 0 (v := .slice A l.length c) rfl
  by_cases q1 : 12 < caps.length
  · have R : Hid (applyE caps (cvs l) = 3) := Lib.hid (by unfold applyE; rw [if_pos (.inl q1)])
    clear hC hr hm
    go_enter Tryz.func8, Tryz.ntmps8
    go_wp2_with fail
    go_ret2
    exact ⟨none, 0, [], by rw [R.out]; rfl, fun q => absurd (R.out.symm.trans q) (by decide), fun _ => rfl, Own.nil _ _, bW⟩
  by_cases q2 : 1024 < l.length
  · have R : Hid (applyE caps (cvs l) = 3) := Lib.hid (by unfold applyE; rw [if_pos (.inr (by rw [hcv]; exact q2))])
    clear hC hr hm
    go_enter Tryz.func8, Tryz.ntmps8
    go_wp2_with fail
    go_ret2
    exact ⟨none, 0, [], by rw [R.out]; rfl, fun q => absurd (R.out.symm.trans q) (by decide), fun _ => rfl, Own.nil _ _, bW⟩
  have HE : Hid (applyE caps (cvs l) = if firstI (caps.map capE) ≠ 0 then firstI (caps.map capE) else firstI ((cvs l).map chE)) := Lib.hid (by unfold applyE; rw [if_neg (by rw [hcv]; omega)])
  have BB0 := Lib.hid BB
  have bW0 := Lib.hid bW
  have bb := Lib.hid (Below.refl Y.heap.size Y)
  clear hC hr hm
  go_enter Tryz.func8, Tryz.ntmps8
  go_wp2_with fail
  clear hY b0 BB bW
  go_loopw [32] (fun i wr => ∃ k : Nat, k ≤ caps.length ∧ i = .int .i64 k ∧ Hid (∀ y ∈ (caps.map capE).take k, y = 0) ∧ Below Y.heap.size Y wr) (fun i _ => caps.length - (RowKit.intOf i).toNat)
  case atStart => exact ⟨0, Nat.zero_le _, rfl, (by unfold Hid; simp), bb.out⟩
  case round =>
    obtain ⟨k, hk, rfl, HZ, hb5⟩ := hrel
    by_cases hi : k < caps.length
    · obtain ⟨b, off, x, hA1, hb, hx, d0, d1, d2, d3⟩ := (HC.out.st (bW0.out.st hb5)).cp hi
      have HK := Lib.hid hi
      have HY := Lib.hid (fun (q : capE x ≠ 0) => firstI_yes HZ.out (by rw [List.getElem?_map, hx]; rfl) q)
      have HN := Lib.hid (fun (q : capE x = 0) => zero_succ hx HZ.out q)
      subst hA1
      obtain ⟨nm, sy, dy, ct⟩ := x
      simp only at *
      have CK := Lib.hid (fun (X : World) => ccheck_any nm sy dy ct X)
      generalize capE ⟨nm, sy, dy, ct⟩ = ce at CK HY HN
      obtain ⟨Y5, hY5⟩ : ∃ Y, wr.alloc (.cells #[.string nm, .string sy, .int .i64 dy, .int .i64 ct] 65) = Y := ⟨_, rfl⟩
      have B5 : Blk Y5 wr.heap.size #[.string nm, .string sy, .int .i64 dy, .int .i64 ct] 65 := by rw [← hY5]; exact Blk.new _ _ _
      have hb5 := hb5.st (show Below wr.heap.size wr Y5 by rw [← hY5]; exact (Below.refl _ _).al _)
      have x0 := B5.cell 0 (v := .string nm) rfl
      have x1 := B5.cell 1 (v := .string sy) rfl
      have x2 := B5.cell 2 (v := .int .i64 dy) rfl
      have x3 := B5.cell 3 (v := .int .i64 ct) rfl
      clear hx hi hb HZ
      go_wp2_with fail
      refine (CK.out _).mono ?_
      rintro e w6 ⟨rfl, hbn⟩
      have hb5 := hb5.st hbn
      clear hbn
      by_cases hce : ce = 0
      · have R := Lib.hid (HN.out hce)
        subst hce
        clear HN HY
        go_wp2_with fail
        go_roundw
        case rel => exact ⟨k + 1, HK.out, by go_num, R, hb5⟩
        case measure => have := HK.out; simp [RowKit.intOf]; omega
      · have R := Lib.hid (HY.out hce)
        have R2 : Hid (applyE caps (cvs l) = ce) := Lib.hid (by rw [HE.out, R.out, if_pos hce])
        have hce2 : (ce != 0) = true := by simp [hce]
        have hc0 := Lib.hid hce
        have bW := bW0.out.trans (hb5.mono (by have := bW0.out.size; omega))
        clear HN HY hce
        go_wp2_with fail
        go_ret2
        exact ⟨none, 0, [], by rw [R2.out]; rfl, fun q => absurd (R2.out.symm.trans q) hc0.out, fun _ => rfl, Own.nil _ _, bW⟩
    · obtain rfl : k = caps.length := by omega
      have HF0 : Hid (firstI (caps.map capE) = 0) := Lib.hid (zero_all (by simpa using HZ.out))
      have HE2 : Hid (applyE caps (cvs l) = firstI ((cvs l).map chE)) := Lib.hid (by rw [HE.out, if_neg (by simp [HF0.out])])
      have BB := BB0.out.below hb5 BB0.out.lt
      have b0 := BB.cell 0 (v := .slice A l.length c) rfl
      have hz : Y.heap.size ≤ wr.heap.size := hb5.size
      obtain ⟨mk, hmk⟩ : ∃ mk, wr.heap.size = mk := ⟨_, rfl⟩
      go_wp2_with (refine wpList_makeZ rfl (.tmp 43) (.tmp 43) tyI encI_ok rfl Y.heap.size 0 (.int .i64 0) (by kernel_rfl) rfl .i64 .i64 l.length rfl rfl (by omega) (by omega) hz ?_; intro w7 hown hb7 hs7; have BB := BB.below hb7 BB.lt; have b0 := BB.cell 0 (v := .slice A l.length c) rfl)
      rw [hmk] at hown hb7 hs7
      have hmz : Y.heap.size ≤ mk := by omega
      have hb7 : Below Y.heap.size Y w7 := hb5.trans (hb7.mono hmz)
      have HBB := Lib.hid BB
      rw [← rngL_0] at hown
      clear b0 BB hb5 HZ hs7
      go_loopw [47] (fun i wr => ∃ k : Nat, k ≤ l.length ∧ i = .int .i64 k ∧ Hid (∀ y ∈ ((cvs l).map chE).take k, y = 0) ∧ Own 3 encI 1 wr Y.heap.size (some ⟨mk, 0, none⟩) l.length (rngL l.length k) ∧ Below Y.heap.size Y wr) (fun i _ => l.length - (RowKit.intOf i).toNat)
      case atStart => exact ⟨0, Nat.zero_le _, rfl, (by unfold Hid; simp), hown, hb7⟩
      case round =>
        clear hown hb7
        obtain ⟨k, hk, rfl, HZ, hown, hb8⟩ := hrel
        by_cases hi : k < l.length
        · obtain ⟨b, off, x, hA1, hb, hx, d0, d1, d2, d3, d4, d5, d6⟩ := (HR.out.st (bW0.out.st hb8)).cg hi
          have HK := Lib.hid hi
          have hxc : (cvs l)[k]? = some x.c := by unfold cvs; rw [List.getElem?_map, hx]; rfl
          have HY := Lib.hid (fun (q : chE x.c ≠ 0) => firstI_yes HZ.out (by rw [List.getElem?_map, hxc]; rfl) q)
          have HN := Lib.hid (fun (q : chE x.c = 0) => zero_succ hxc HZ.out q)
          have HT := Lib.hid (btmB_per x.c.tm)
          subst hA1
          obtain ⟨⟨key, veh, sys, cls, tm, lns, cn⟩, lA, lc⟩ := x
          simp only at *
          obtain ⟨Y5, hY5⟩ : ∃ Y, wr.alloc (.cells #[.string key, .string veh, .string sys, .int .i64 cls, .int .i64 tm, .slice lA lns.length lc, .int .i64 cn] 57) = Y := ⟨_, rfl⟩
          have B5 : Blk Y5 wr.heap.size #[.string key, .string veh, .string sys, .int .i64 cls, .int .i64 tm, .slice lA lns.length lc, .int .i64 cn] 57 := by rw [← hY5]; exact Blk.new _ _ _
          have hbn : Below wr.heap.size wr Y5 := by rw [← hY5]; exact (Below.refl _ _).al _
          have hb8 := hb8.st hbn
          have hown := hown.st hbn
          have x4 := B5.cell 4 (v := .int .i64 tm) rfl
          have x6 := B5.cell 6 (v := .int .i64 cn) rfl
          have M5 := Lib.hid (HM.out.st (bW0.out.st hb8) HM.out.1)
          clear hx hxc hi hb HZ hbn
          have P1 := Lib.hid (fun (X : World) (hX : Mon X) => cper_any ⟨#[]⟩ ⟨#[]⟩ 1 0 tm hX)
          have P0 := Lib.hid (fun (X : World) (hX : Mon X) => cper_any ⟨#[]⟩ ⟨#[]⟩ 0 0 tm hX)
          by_cases a1 : cn < 0 ∨ 1125899906842624 < cn
          · have R := Lib.hid (HY.out (by unfold chE; rw [if_pos (by unfold cmB; simp; omega)]; decide))
            have R2 : Hid (applyE caps (cvs l) = 13) := Lib.hid (by rw [HE2.out, R.out]; unfold chE; rw [if_pos (by unfold cmB; simp; omega)])
            have bW := bW0.out.trans (hb8.mono (by have := bW0.out.size; omega))
            clear HN HY P1 P0
            rcases a1 with a1 | a1
            all_goals
              go_wp2_with fail
              go_ret2
              exact ⟨none, 0, [], by rw [R2.out]; rfl, fun q => absurd (R2.out.symm.trans q) (by decide), fun _ => rfl, Own.nil _ _, bW⟩
          · have a2 : 0 ≤ cn := by omega
            have a3 : cn ≤ 1125899906842624 := by omega
            have HAM : Hid (cmB cn = true) := Lib.hid (by unfold cmB; simp; omega)
            clear a1
            by_cases t1 : 0 ≤ perN 1 tm
            · by_cases t0 : 0 ≤ perN 0 tm
              · have R := Lib.hid (HN.out (by unfold chE; rw [if_neg (by rw [HAM.out]; simp), if_neg (by rw [HT.out.2 ⟨t1, t0⟩]; simp)]))
                generalize perN 1 tm = pa at *
                generalize perN 0 tm = pb at *
                clear HN HY HT
                go_wp2_with fail
                refine (P1.out _ M5.out).mono ?_
                rintro e w9 ⟨rfl, hbn⟩
                have B5 := B5.below hbn B5.lt
                have hb8 := hb8.st hbn
                have hown := hown.st hbn
                have M5 := Lib.hid (HM.out.st (bW0.out.st hb8) HM.out.1)
                have x4 := B5.cell 4 (v := .int .i64 tm) rfl
                clear hbn
                go_wp2_with fail
                refine (P0.out _ M5.out).mono ?_
                rintro e w10 ⟨rfl, hbn⟩
                have hb8 := hb8.st hbn
                have hown := hown.st hbn
                clear hbn x4 x6 P1 P0 B5
                have c0 := hown.cells encI_ok rfl (i := k) (rngL_at HK.out) (j := 0) rfl
                have f0 := hown.frozen rfl k
                have HS : Hid (Own 3 encI 1 (w10.setCell ⟨mk, k, none⟩ (.int .i64 k)) Y.heap.size (some ⟨mk, 0, none⟩) l.length (rngL l.length (k + 1))) := Lib.hid (by
                  have := hown.stored encI_ok rfl (rngL_at HK.out) (j := 0) (u := .int .i64 k) (y := (k : Int)) (by omega) rfl
                  rw [rngL_succ HK.out] at this
                  simpa using this)
                have HBL : Hid (Below Y.heap.size Y (w10.setCell ⟨mk, k, none⟩ (.int .i64 k))) := Lib.hid (hb8.setCell (p := ⟨mk, k, none⟩) hmz _)
                simp only [Nat.mul_one, Nat.add_zero] at c0
                have i1 : (0 : Int) ≤ (k : Int) := by omega
                have i2 : (k : Int) < (l.length : Int) := by have := HK.out; omega
                clear hown hb8
                go_wp2_with fail
                go_roundw
                case rel => exact ⟨k + 1, HK.out, by go_num, R, HS.out, HBL.out⟩
                case measure => have := HK.out; simp [RowKit.intOf]; omega
              · have HF : Hid (btmB tm = false) := Lib.hid (by cases q : btmB tm; rfl; exact absurd (HT.out.1 q).2 t0)
                have R := Lib.hid (HY.out (by unfold chE; rw [if_neg (by rw [HAM.out]; simp), if_pos HF.out]; decide))
                have R2 : Hid (applyE caps (cvs l) = 12) := Lib.hid (by rw [HE2.out, R.out]; unfold chE; rw [if_neg (by rw [HAM.out]; simp), if_pos HF.out])
                generalize perN 1 tm = pa at *
                generalize perN 0 tm = pb at *
                clear HN HY HT
                go_wp2_with fail
                refine (P1.out _ M5.out).mono ?_
                rintro e w9 ⟨rfl, hbn⟩
                have B5 := B5.below hbn B5.lt
                have hb8 := hb8.st hbn
                have M5 := Lib.hid (HM.out.st (bW0.out.st hb8) HM.out.1)
                have x4 := B5.cell 4 (v := .int .i64 tm) rfl
                clear hbn
                go_wp2_with fail
                refine (P0.out _ M5.out).mono ?_
                rintro e w10 ⟨rfl, hbn⟩
                have hb8 := hb8.st hbn
                have bW := bW0.out.trans (hb8.mono (by have := bW0.out.size; omega))
                go_wp2_with fail
                go_ret2
                exact ⟨none, 0, [], by rw [R2.out]; rfl, fun q => absurd (R2.out.symm.trans q) (by decide), fun _ => rfl, Own.nil _ _, bW⟩
            · have HF : Hid (btmB tm = false) := Lib.hid (by cases q : btmB tm; rfl; exact absurd (HT.out.1 q).1 t1)
              have R := Lib.hid (HY.out (by unfold chE; rw [if_neg (by rw [HAM.out]; simp), if_pos HF.out]; decide))
              have R2 : Hid (applyE caps (cvs l) = 12) := Lib.hid (by rw [HE2.out, R.out]; unfold chE; rw [if_neg (by rw [HAM.out]; simp), if_pos HF.out])
              generalize perN 1 tm = pa at *
              clear HN HY HT P0
              go_wp2_with fail
              refine (P1.out _ M5.out).mono ?_
              rintro e w9 ⟨rfl, hbn⟩
              have hb8 := hb8.st hbn
              have bW := bW0.out.trans (hb8.mono (by have := bW0.out.size; omega))
              go_wp2_with fail
              go_ret2
              exact ⟨none, 0, [], by rw [R2.out]; rfl, fun q => absurd (R2.out.symm.trans q) (by decide), fun _ => rfl, Own.nil _ _, bW⟩
        · obtain rfl : k = l.length := by omega
          have HF1 : Hid (firstI ((cvs l).map chE) = 0) := Lib.hid (zero_all (by simpa [hcv] using HZ.out))
          have HE3 : Hid (applyE caps (cvs l) = 0) := Lib.hid (by rw [HE2.out, HF1.out])
          rw [rngL_n] at hown
          have BB := BB0.out.below hb8 BB0.out.lt
          have b0 := BB.cell 0 (v := .slice A l.length c) rfl
          have hY1 : w.heap.size < Y.heap.size := BB0.out.lt
          have HRY := Lib.hid (((HR.out.st bW0.out).keep hb8))
          have CS := Lib.hid (ordSort w.heap.size c b0 HRY.out hY1 hb8.size (by omega) hown)
          clear hown HZ BB
          go_wp2_with fail
          refine CS.out.mono ?_
          rintro e w11 ⟨rfl, hown, hbn⟩
          have hb11 := hb8.trans hbn
          have BB := BB0.out.below hb11 BB0.out.lt
          have b0 := BB.cell 0 (v := .slice A l.length c) rfl
          have HOR := Lib.hid (hown.rd encI_ok)
          clear CS hbn hown hb8
          obtain ⟨oc, hoc⟩ : ∃ oc, w11.heap.size = oc := ⟨_, rfl⟩
          have hmm := @run_makeMap Tryz.prog
          go_wp2_with (first | (refine wpList_makeZ rfl (.tmp 81) (.tmp 81) tyI encI_ok rfl w11.heap.size 0 (.int .i64 0) (by kernel_rfl) rfl .i64 .i64 l.length rfl rfl (by omega) (by omega) (Nat.le_refl _) ?_; intro w12 hout hb12 hs12; have bO := hb12; obtain ⟨mb, hmb⟩ : ∃ mb, w12.heap.size = mb := ⟨_, rfl⟩))
          obtain ⟨W, hW⟩ : ∃ W, (w12.alloc (.map #[] 0)).alloc (.cells #[.map (some mb)] 115) = W := ⟨_, rfl⟩
          rw [hW]
          have hz1 : (w12.alloc (.map #[] 0)).heap.size = mb + 1 := by simp [hmb]
          have bnW : Below w12.heap.size w12 W := by rw [← hW]; exact ((Below.refl _ w12).al _).al _
          have hM0 : CntMap W mb (gOf caps []) := by
            rw [gOf_nil, ← hW, ← hmb]
            exact (CntMap.made w12).st ((Below.refl _ _).al _)
          have BT0 : Blk W (mb + 1) #[.map (some mb)] 115 := by rw [← hW, ← hz1]; exact Blk.new _ _ _
          have hout := hout.st bnW
          have bO := bO.st bnW
          have hoc12 : oc < mb := by omega
          rw [hoc] at hout bO
          have HO0 : Hid (runF caps (cvs l) ((ordN (cvs l)).take 0) = ([], List.replicate l.length 0)) := Lib.hid (by unfold runF; rw [hcv]; rfl)
          have hO11 := Lib.hid (hb11)
          have HBB := Lib.hid BB
          rw [hoc] at HOR
          have hYoc : Y.heap.size ≤ oc := by rw [← hoc]; exact hb11.size
          have HCO : Hid (∀ c ∈ caps, 0 ≤ c.ct ∧ c.ct ≤ 1125899906842624) := Lib.hid (fun c hc => capE_ok (firstI_zero.1 HF0.out _ (List.mem_map.2 ⟨c, hc, rfl⟩)))
          have HXO : Hid (∀ x ∈ cvs l, (0 ≤ x.ct ∧ x.ct ≤ 1125899906842624) ∧ btmB x.tm = true) := Lib.hid (fun x hx => chE_ok (firstI_zero.1 HF1.out _ (List.mem_map.2 ⟨x, hx, rfl⟩)))
          clear hW hz1 bnW hb12 hs12 hmm b0 BB
          go_loopw [87] (fun i wr => ∃ (k : Nat) (h : Hs) (o : List Int), k ≤ l.length ∧ i = .int .i64 k ∧ o.length = l.length ∧ Hid (runF caps (cvs l) ((ordN (cvs l)).take k) = (h, o)) ∧ Own 3 encI 1 wr oc (some ⟨oc, 0, none⟩) l.length o ∧ CntMap wr mb (gOf caps h) ∧ Blk wr (mb + 1) #[.map (some mb)] 115 ∧ Below oc w11 wr) (fun i _ => l.length - (RowKit.intOf i).toNat)
          case atStart => exact ⟨0, [], List.replicate l.length 0, Nat.zero_le _, rfl, List.length_replicate, HO0, hout, hM0, BT0, bO⟩
          case round =>
            clear hout hM0 BT0 bO
            obtain ⟨wo, rfl⟩ : ∃ wo, wo = wr := ⟨_, rfl⟩
            obtain ⟨k, h, o, hk, rfl, hol, HH, hout, hM, BT, bO⟩ := hrel
            by_cases hi : k < l.length
            · have hkl : k < (castL (ordN (cvs l))).length := by unfold castL; rw [List.length_map, ordN_len, hcv]; exact hi
              obtain ⟨b, off, x, hA1, hb, hx, d0⟩ := (HOR.out.keep bO).i hkl
              injection hA1 with hA1
              injection hA1 with hA1 hA2
              subst hA1 hA2
              obtain ⟨ix, hix, rfl⟩ : ∃ ix : Nat, (ordN (cvs l))[k]? = some ix ∧ (ix : Int) = x := by
                unfold castL at hx
                rw [List.getElem?_map] at hx
                cases q : (ordN (cvs l))[k]? with
                | none => rw [q] at hx; cases hx
                | some ix => rw [q] at hx; exact ⟨ix, rfl, by simpa using hx⟩
              have hixl : ix < l.length := by have := ordN_lt (List.mem_of_getElem? hix); rwa [hcv] at this
              have bYo : Below Y.heap.size Y wo := hO11.out.trans (bO.mono hYoc)
              obtain ⟨b2, off2, x, hA2, hb2, hxl, e0, e1, e2, e3, e4, e5, e6⟩ := ((HR.out.st bW0.out).st bYo).cg hixl
              have HXA := Lib.hid (chAt_of (cs := cvs l) (i := ix) (x := x.c) (by unfold cvs; rw [List.getElem?_map, hxl]; rfl))
              have hxo := HXO.out x.c (List.mem_map.2 ⟨x, List.mem_of_getElem? hxl, rfl⟩)
              have HI : Hid (HInv caps h) := Lib.hid (by
                have := runF_inv (caps := caps) (cs := cvs l) (fun c hc => (HCO.out c hc).1) (fun x hx => (HXO.out x hx).1.1) ((ordN (cvs l)).take k) (fun i hi => ordN_lt (List.mem_of_mem_take hi))
                rw [HH.out] at this; exact this)
              have HST : Hid (runF caps (cvs l) ((ordN (cvs l)).take (k + 1)) = stp caps (cvs l) (h, o) ix) := Lib.hid (by rw [take_snoc hix, runF_snoc, HH.out])
              have HK := Lib.hid hi
              subst hA2
              obtain ⟨⟨key, veh, sys, cls, tm, lns, cn⟩, lA, lc⟩ := x
              simp only at *
              obtain ⟨⟨hcn0, hcn1⟩, -⟩ := hxo
              obtain ⟨xb, hxb⟩ : ∃ xb, wo.heap.size = xb := ⟨_, rfl⟩
              have hmxb : mb < xb := by have := BT.lt; omega
              obtain ⟨Y5, hY5⟩ : ∃ Y, wo.alloc (.cells #[.string key, .string veh, .string sys, .int .i64 cls, .int .i64 tm, .slice lA lns.length lc, .int .i64 cn] 57) = Y := ⟨_, rfl⟩
              have b0 := (HBB.out.below bO (by omega)).cell 0 (v := .slice (some ⟨b2, off2, none⟩) l.length c) rfl
              simp only [Nat.zero_add] at d0
              have BX : Blk Y5 xb #[.string key, .string veh, .string sys, .int .i64 cls, .int .i64 tm, .slice lA lns.length lc, .int .i64 cn] 57 := by rw [← hY5, ← hxb]; exact Blk.new _ _ _
              have hbn : Below wo.heap.size wo Y5 := by rw [← hY5]; exact (Below.refl _ _).al _
              have hout := hout.st hbn
              have hM := hM.st hbn
              have BT := BT.below hbn BT.lt
              have bO := bO.trans (hbn.mono (by have := bO.size; omega))
              have hn0 : ∃ nn : Int, nn = cn := ⟨_, rfl⟩
              have HP0 : Hid (payK caps h ⟨key, veh, sys, cls, tm, lns, cn⟩ 0 = cn) := Lib.hid rfl
              have hdk : decide ((k : Int) < (l.length : Int)) = true := decide_eq_true (by omega)
              have hdk2 : decide (k < l.length) = true := decide_eq_true (by omega)
              have hi1 : (0 : Int) ≤ (ix : Int) := by omega
              have hi2 : (ix : Int) < (l.length : Int) := by omega
              have hB5 := Lib.hid (Below.refl Y5.heap.size Y5)
              have HBX := Lib.hid BX
              have HBT := Lib.hid BT
              have HMM := Lib.hid hM
              have HOUT := Lib.hid hout
              have HBO := Lib.hid bO
              have HWY := Lib.hid (bW0.out.trans ((bYo.trans (hbn.mono bYo.size)).mono (by have := bW0.out.size; omega)))
              have y0 := BX.cell 0 (v := .string key) rfl; have y1 := BX.cell 1 (v := .string veh) rfl; have y2 := BX.cell 2 (v := .string sys) rfl; have y3 := BX.cell 3 (v := .int .i64 cls) rfl; have y4 := BX.cell 4 (v := .int .i64 tm) rfl; have y5 := BX.cell 5 (v := .slice lA lns.length lc) rfl; have y6 := BX.cell 6 (v := .int .i64 cn) rfl
              clear hi hx hb hb2 hxl hix hn0 BX BT hM hout bO hbn bYo
              go_wp2_with fail
              clear y0 y1 y2 y3 y4 y5 y6 d0 e0 e1 e2 e3 e4 e5 e6 b0
              go_loopw [17, 99] (fun vn vj wr => ∃ (j : Nat) (nn : Int), j ≤ caps.length ∧ vn = .int .i64 nn ∧ vj = .int .i64 j ∧ Hid (payK caps h (⟨key, veh, sys, cls, tm, lns, cn⟩ : CV) j = nn) ∧ Below Y5.heap.size Y5 wr) (fun _ vj _ => caps.length - (RowKit.intOf vj).toNat)
              case atStart => exact ⟨0, cn, Nat.zero_le _, rfl, rfl, HP0, hB5.out⟩
              case round =>
                obtain ⟨j, nn, hj, rfl, rfl, HP, hb14⟩ := hrel
                by_cases hji : j < caps.length
                · obtain ⟨b3, off3, x, hA3, hb3, hxc, g0, g1, g2, g3⟩ := (HC.out.st (HWY.out.st hb14)).cp hji
                  have HJ := Lib.hid hji
                  have hpb := payK_bnd (x := (⟨key, veh, sys, cls, tm, lns, cn⟩ : CV)) HI.out hcn0 j
                  rw [HP.out] at hpb
                  obtain ⟨hn0, hn1⟩ := hpb
                  have hcb := HCO.out x (List.mem_of_getElem? hxc)
                  have HPS := Lib.hid (payK_succ (h := h) (x := (⟨key, veh, sys, cls, tm, lns, cn⟩ : CV)) hxc)
                  have hgb := gMid_bnd HI.out hxc h (perN x.days tm)
                  have hga := Lib.hid (gMid_at (h := h) (h' := h) hxc (perN x.days tm))
                  have hgo := Lib.hid (gOf_at (h := h) hxc (perN x.days tm))
                  have hpn := perN_bnd x.days tm
                  subst hA3
                  obtain ⟨nm, sy, dy, ct⟩ := x
                  simp only at *
                  obtain ⟨kb, hkb⟩ : ∃ kb, wr.heap.size = kb := ⟨_, rfl⟩
                  obtain ⟨Y8, hY8⟩ : ∃ Y, wr.alloc (.cells #[.string nm, .string sy, .int .i64 dy, .int .i64 ct] 65) = Y := ⟨_, rfl⟩
                  have BK : Blk Y8 kb #[.string nm, .string sy, .int .i64 dy, .int .i64 ct] 65 := by rw [← hY8, ← hkb]; exact Blk.new _ _ _
                  have hbn : Below wr.heap.size wr Y8 := by rw [← hY8]; exact (Below.refl _ _).al _
                  have hb14 := hb14.st hbn
                  have BX := HBX.out.below hb14 HBX.out.lt
                  have x0 := BK.cell 0 (v := .string nm) rfl; have x1 := BK.cell 1 (v := .string sy) rfl; have x2 := BK.cell 2 (v := .int .i64 dy) rfl; have x3 := BK.cell 3 (v := .int .i64 ct) rfl
                  have y0 := BX.cell 0 (v := .string key) rfl; have y1 := BX.cell 1 (v := .string veh) rfl; have y2 := BX.cell 2 (v := .string sys) rfl; have y3 := BX.cell 3 (v := .int .i64 cls) rfl; have y4 := BX.cell 4 (v := .int .i64 tm) rfl; have y5 := BX.cell 5 (v := .slice lA lns.length lc) rfl; have y6 := BX.cell 6 (v := .int .i64 cn) rfl
                  have CM := Lib.hid (fun (X : World) => cmat_any ⟨nm, sy, dy, ct⟩ (⟨key, veh, sys, cls, tm, lns, cn⟩ : CV) lA lc X)
                  simp only [CpV, CHV] at CM
                  have hj1 : (0 : Int) ≤ (j : Int) := by omega
                  have hj2 : (j : Int) < (caps.length : Int) := by omega
                  clear hxc hji hb3 hbn BX
                  cases hm : matB ⟨nm, sy, dy, ct⟩ (⟨key, veh, sys, cls, tm, lns, cn⟩ : CV)
                  · have R : Hid (payK caps h (⟨key, veh, sys, cls, tm, lns, cn⟩ : CV) (j + 1) = nn) := Lib.hid (by rw [HPS.out, HP.out]; unfold payS; rw [if_neg (by rw [hm]; simp)])
                    rw [hm] at CM
                    clear hm HPS HP
                    go_wp2_with fail
                    refine (CM.out _).mono ?_
                    rintro e w15 ⟨rfl, hbn⟩
                    have hb14 := hb14.st hbn
                    clear hbn
                    go_wp2_with fail
                    go_roundw
                    case rel => exact ⟨j + 1, nn, HJ.out, rfl, by go_num, R, hb14⟩
                    case measure => have := HJ.out; simp [RowKit.intOf]; omega
                  · rw [hm] at CM
                    have R : Hid (payK caps h (⟨key, veh, sys, cls, tm, lns, cn⟩ : CV) (j + 1) = min nn (ct - gOf caps h ((j : Int), perN dy tm))) := Lib.hid (by rw [HPS.out, HP.out, hgo.out]; unfold payS; rw [if_pos hm]; rfl)
                    rw [hga.out, ← hgo.out] at hgb
                    go_wp2_with fail
                    refine (CM.out _).mono ?_
                    rintro e w15 ⟨rfl, hbn⟩
                    have hb14 := hb14.st hbn
                    have BK := BK.below hbn BK.lt
                    clear hbn
                    go_wp2_with fail
                    have BX := HBX.out.below hb14 HBX.out.lt
                    have BT := HBT.out.below hb14 HBT.out.lt
                    have CPE := Lib.hid (fun (X : World) (hX : Mon X) => cper_any nm sy dy ct tm hX)
                    have HSK : Hid (SrcOk ((j : Int), perN dy tm)) := Lib.hid ⟨wfI (by omega) (by omega), wfI hpn.1 hpn.2⟩
                    generalize hgv : gOf caps h ((j : Int), perN dy tm) = gv at R hgb
                    have HGV := Lib.hid hgv
                    generalize hpe : perN dy tm = pe at *
                    obtain ⟨hgb0, hgb1⟩ := hgb
                    have hws : IntKind.i64.wrap (ct - gv) = ct - gv := IntWalk.i64_in _ (by omega)
                    have HSS : Hid ((fun w' : World => w'.cell? ⟨kb, 0, none⟩ = some (.string nm) ∧ w'.cell? ⟨kb, 1, none⟩ = some (.string sy) ∧ w'.cell? ⟨kb, 2, none⟩ = some (.int .i64 dy) ∧ w'.cell? ⟨kb, 3, none⟩ = some (.int .i64 ct) ∧ w'.cell? ⟨mb + 1, 0, none⟩ = some (.map (some mb)) ∧ w'.cell? ⟨xb, 4, none⟩ = some (.int .i64 tm)) w15) := Lib.hid ⟨BK.cell 0 rfl, BK.cell 1 rfl, BK.cell 2 rfl, BK.cell 3 rfl, BT.cell 0 rfl, BX.cell 4 rfl⟩
                    have HBK := Lib.hid BK
                    have HB14 := Lib.hid hb14
                    clear BK BX BT hb14 x0 x1 x2 x3 y0 y1 y2 y3 y4 y5 y6 g0 g1 g2 g3 hgv hY8 hY5 HPS HP hga hgo CM
                    refine wp_region_held_drew (S := (fun w' : World => w'.cell? ⟨kb, 0, none⟩ = some (.string nm) ∧ w'.cell? ⟨kb, 1, none⟩ = some (.string sy) ∧ w'.cell? ⟨kb, 2, none⟩ = some (.int .i64 dy) ∧ w'.cell? ⟨kb, 3, none⟩ = some (.int .i64 ct) ∧ w'.cell? ⟨mb + 1, 0, none⟩ = some (.map (some mb)) ∧ w'.cell? ⟨xb, 4, none⟩ = some (.int .i64 tm))) (by kernel_rfl) ?_ (fun hHeld => ?_)
                    · exact HSS.out
                    have hSS : (fun w' : World => w'.cell? ⟨kb, 0, none⟩ = some (.string nm) ∧ w'.cell? ⟨kb, 1, none⟩ = some (.string sy) ∧ w'.cell? ⟨kb, 2, none⟩ = some (.int .i64 dy) ∧ w'.cell? ⟨kb, 3, none⟩ = some (.int .i64 ct) ∧ w'.cell? ⟨mb + 1, 0, none⟩ = some (.map (some mb)) ∧ w'.cell? ⟨xb, 4, none⟩ = some (.int .i64 tm)) w15.drew := HSS.out
                    have HBK := Lib.hid HBK.out.drew
                    have HB14 := Lib.hid (below_drewN HB14.out 1)
                    change Hid (Below Y5.heap.size Y5 w15.drew) at HB14
                    generalize w15.drew = W0 at hSS hHeld HBK HB14 ⊢
                    change wpAnyH _ _ _ _ _ 15 _ _ _
                    refine wpAnyH_take (i := 0) (v := ?_) (by simp only [List.getElem?_toArray, List.getElem?_cons_zero, List.getElem?_cons_succ]; rfl) (by kernel_rfl) (by kernel_rfl) (by kernel_rfl) (by intro _ _ _ h; exact h) (Or.inl ⟨by rfl, ?_⟩) (by assumption) ?_; rotate_left; (focus (intro w1 hSw; (try dsimp only at hSw); go_simp; (try with_reducible rfl))); (try simp only [Act.put, List.setIfInBounds_toArray, List.set_cons_zero, List.set_cons_succ, List.getElem_toArray, List.getElem_cons_zero, List.getElem_cons_succ])
                    refine wpAnyH_take (i := 1) (v := ?_) (by simp only [List.getElem?_toArray, List.getElem?_cons_zero, List.getElem?_cons_succ]; rfl) (by kernel_rfl) (by kernel_rfl) (by kernel_rfl) (by intro _ _ _ h; exact h) (Or.inl ⟨by rfl, ?_⟩) (by assumption) ?_; rotate_left; (focus (intro w1 hSw; (try dsimp only at hSw); go_simp; (try with_reducible rfl))); (try simp only [Act.put, List.setIfInBounds_toArray, List.set_cons_zero, List.set_cons_succ, List.getElem_toArray, List.getElem_cons_zero, List.getElem_cons_succ])
                    refine wpAnyH_take (i := 2) (v := ?_) (by simp only [List.getElem?_toArray, List.getElem?_cons_zero, List.getElem?_cons_succ]; rfl) (by kernel_rfl) (by kernel_rfl) (by kernel_rfl) (by intro _ _ _ h; exact h) (Or.inl ⟨by rfl, ?_⟩) (by assumption) ?_; rotate_left; (focus (intro w1 hSw; (try dsimp only at hSw); go_simp; (try with_reducible rfl))); (try simp only [Act.put, List.setIfInBounds_toArray, List.set_cons_zero, List.set_cons_succ, List.getElem_toArray, List.getElem_cons_zero, List.getElem_cons_succ])
                    refine wpAnyH_take (i := 3) (v := ?_) (by simp only [List.getElem?_toArray, List.getElem?_cons_zero, List.getElem?_cons_succ]; rfl) (by kernel_rfl) (by kernel_rfl) (by kernel_rfl) (by intro _ _ _ h; exact h) (Or.inl ⟨by rfl, ?_⟩) (by assumption) ?_; rotate_left; (focus (intro w1 hSw; (try dsimp only at hSw); go_simp; (try with_reducible rfl))); (try simp only [Act.put, List.setIfInBounds_toArray, List.set_cons_zero, List.set_cons_succ, List.getElem_toArray, List.getElem_cons_zero, List.getElem_cons_succ])
                    refine wpAnyH_take (i := 4) (v := ?_) (by simp only [List.getElem?_toArray, List.getElem?_cons_zero, List.getElem?_cons_succ]; rfl) (by kernel_rfl) (by kernel_rfl) (by kernel_rfl) (by intro _ _ _ h; exact h) (Or.inl ⟨by rfl, ?_⟩) (by assumption) ?_; rotate_left; (focus (intro w1 hSw; (try dsimp only at hSw); go_simp; (try with_reducible rfl))); (try simp only [Act.put, List.setIfInBounds_toArray, List.set_cons_zero, List.set_cons_succ, List.getElem_toArray, List.getElem_cons_zero, List.getElem_cons_succ])
                    refine wpAnyH_take (i := 5) (v := ?_) (by simp only [List.getElem?_toArray, List.getElem?_cons_zero, List.getElem?_cons_succ]; rfl) (by kernel_rfl) (by kernel_rfl) (by kernel_rfl) (by intro _ _ _ h; exact h) (Or.inl ⟨by rfl, ?_⟩) (by assumption) ?_; rotate_left; (focus (intro w1 hSw; (try dsimp only at hSw); go_simp; (try with_reducible rfl))); (try simp only [Act.put, List.setIfInBounds_toArray, List.set_cons_zero, List.set_cons_succ, List.getElem_toArray, List.getElem_cons_zero, List.getElem_cons_succ])
                    refine wpAnyH_take (i := 6) (v := ?_) (by simp only [List.getElem?_toArray, List.getElem?_cons_zero, List.getElem?_cons_succ]; rfl) (by kernel_rfl) (by kernel_rfl) (by kernel_rfl) (by intro _ _ _ h; exact h) (Or.inl ⟨by rfl, ?_⟩) (by assumption) ?_; rotate_left; (focus (intro w1 hSw; (try dsimp only at hSw); go_simp; (try with_reducible rfl))); (try simp only [Act.put, List.setIfInBounds_toArray, List.set_cons_zero, List.set_cons_succ, List.getElem_toArray, List.getElem_cons_zero, List.getElem_cons_succ])
                    refine wpAnyH_take (i := 7) (v := ?_) (by simp only [List.getElem?_toArray, List.getElem?_cons_zero, List.getElem?_cons_succ]; rfl) (by kernel_rfl) (by kernel_rfl) (by kernel_rfl) (by intro _ _ _ h; exact h) (Or.inl ⟨by rfl, ?_⟩) (by assumption) ?_; rotate_left; (focus (intro w1 hSw; (try dsimp only at hSw); go_simp; (try with_reducible rfl))); (try simp only [Act.put, List.setIfInBounds_toArray, List.set_cons_zero, List.set_cons_succ, List.getElem_toArray, List.getElem_cons_zero, List.getElem_cons_succ])
                    refine wpAnyH_take (i := 8) (v := ?_) (by simp only [List.getElem?_toArray, List.getElem?_cons_zero, List.getElem?_cons_succ]; rfl) (by kernel_rfl) (by kernel_rfl) (by kernel_rfl) (by intro _ _ _ h; exact h) (Or.inl ⟨by rfl, ?_⟩) (by assumption) ?_; rotate_left; (focus (intro w1 hSw; (try dsimp only at hSw); go_simp; (try with_reducible rfl))); (try simp only [Act.put, List.setIfInBounds_toArray, List.set_cons_zero, List.set_cons_succ, List.getElem_toArray, List.getElem_cons_zero, List.getElem_cons_succ])
                    refine wpAnyH_ready (rs := [9]) (by kernel_rfl) (by simp) ?_; refine AllReadyH.cons (by simp only [List.getElem?_toArray, List.getElem?_cons_zero, List.getElem?_cons_succ]; rfl) (fun K hK => ?_) AllReadyH.nil
                    rw [if_pos (by rfl)]; go_wp2_with fail
                    refine (CPE.out _ (HM.out.st (HWY.out.st HB14.out) HM.out.1)).mono ?_
                    rintro e wn ⟨rfl, hbn⟩
                    have HBK := Lib.hid (HBK.out.below hbn HBK.out.lt)
                    have HB14 := Lib.hid (HB14.out.st hbn)
                    have hSS : (fun w' : World => w'.cell? ⟨kb, 0, none⟩ = some (.string nm) ∧ w'.cell? ⟨kb, 1, none⟩ = some (.string sy) ∧ w'.cell? ⟨kb, 2, none⟩ = some (.int .i64 dy) ∧ w'.cell? ⟨kb, 3, none⟩ = some (.int .i64 ct) ∧ w'.cell? ⟨mb + 1, 0, none⟩ = some (.map (some mb)) ∧ w'.cell? ⟨xb, 4, none⟩ = some (.int .i64 tm)) wn := ⟨HBK.out.cell 0 rfl, HBK.out.cell 1 rfl, HBK.out.cell 2 rfl, HBK.out.cell 3 rfl, (HBT.out.below HB14.out HBT.out.lt).cell 0 rfl, (HBX.out.below HB14.out HBX.out.lt).cell 4 rfl⟩
                    have hlk := CntMap.look (HMM.out.st HB14.out) HSK.out
                    rw [HGV.out] at hlk
                    simp only [srcV] at hlk
                    clear hbn
                    go_wp2_with fail
                    refine hK.out _ _ ?_ (fun hHeld => ?_)
                    · exact hSS
                    clear hK K
                    (try simp only [Act.put, List.setIfInBounds_toArray, List.set_cons_zero, List.set_cons_succ, List.getElem_toArray, List.getElem_cons_zero, List.getElem_cons_succ])
                    refine wpAnyH_take (i := 10) (v := ?_) (by simp only [List.getElem?_toArray, List.getElem?_cons_zero, List.getElem?_cons_succ]; rfl) (by kernel_rfl) (by kernel_rfl) (by kernel_rfl) (by intro _ _ _ h; exact h) (Or.inl ⟨by rfl, ?_⟩) (by assumption) ?_; rotate_left; (focus (intro w1 hSw; (try dsimp only at hSw); go_simp; (try with_reducible rfl))); (try simp only [Act.put, List.setIfInBounds_toArray, List.set_cons_zero, List.set_cons_succ, List.getElem_toArray, List.getElem_cons_zero, List.getElem_cons_succ])
                    refine wpAnyH_ready (rs := [11]) (by kernel_rfl) (by simp) ?_; refine AllReadyH.cons (by simp only [List.getElem?_toArray, List.getElem?_cons_zero, List.getElem?_cons_succ]; rfl) (fun K hK => ?_) AllReadyH.nil
                    rw [if_pos (by rfl)]
                    go_wp2_with fail
                    refine hK.out _ _ ?_ (fun hHeld => ?_)
                    · exact hSS
                    clear hK K
                    (try simp only [Act.put, List.setIfInBounds_toArray, List.set_cons_zero, List.set_cons_succ, List.getElem_toArray, List.getElem_cons_zero, List.getElem_cons_succ])
                    refine wpAnyH_take (i := 12) (v := ?_) (by simp only [List.getElem?_toArray, List.getElem?_cons_zero, List.getElem?_cons_succ]; rfl) (by kernel_rfl) (by kernel_rfl) (by kernel_rfl) (by intro _ _ _ h; exact h) (Or.inl ⟨by rfl, ?_⟩) (by assumption) ?_; rotate_left; (focus (intro w1 hSw; (try dsimp only at hSw); go_simp; (try with_reducible rfl))); (try simp only [Act.put, List.setIfInBounds_toArray, List.set_cons_zero, List.set_cons_succ, List.getElem_toArray, List.getElem_cons_zero, List.getElem_cons_succ])
                    refine wpAnyH_ready (rs := [13]) (by kernel_rfl) (by simp) ?_; refine AllReadyH.cons (by simp only [List.getElem?_toArray, List.getElem?_cons_zero, List.getElem?_cons_succ]; rfl) (fun K hK => ?_) AllReadyH.nil
                    rw [if_pos (by rfl)]
                    go_wp2_with fail
                    refine hK.out _ _ ?_ (fun hHeld => ?_)
                    · exact hSS
                    clear hK K
                    (try simp only [Act.put, List.setIfInBounds_toArray, List.set_cons_zero, List.set_cons_succ, List.getElem_toArray, List.getElem_cons_zero, List.getElem_cons_succ])
                    refine wpAnyH_take (i := 14) (v := ?_) (by simp only [List.getElem?_toArray, List.getElem?_cons_zero, List.getElem?_cons_succ]; rfl) (by kernel_rfl) (by kernel_rfl) (by kernel_rfl) (by intro _ _ _ h; exact h) (Or.inl ⟨by rfl, ?_⟩) (by assumption) ?_; rotate_left; (focus (intro w1 hSw; (try dsimp only at hSw); go_simp; (try with_reducible rfl))); (try simp only [Act.put, List.setIfInBounds_toArray, List.set_cons_zero, List.set_cons_succ, List.getElem_toArray, List.getElem_cons_zero, List.getElem_cons_succ])
                    refine wpAnyH_done (by kernel_rfl) ?_ _
                    have HB15 := Lib.hid HB14.out
                    clear hlk hSS hHeld
                    go_wp2_with fail
                    go_roundw
                    case rel => exact ⟨j + 1, _, HJ.out, rfl, by go_num, R, HB15.out⟩
                    case measure => have := HJ.out; simp [RowKit.intOf]; omega
                · obtain rfl : j = caps.length := by omega
                  have HPN : Hid (payN caps h (⟨key, veh, sys, cls, tm, lns, cn⟩ : CV) = nn) := Lib.hid ((payK_n caps h (⟨key, veh, sys, cls, tm, lns, cn⟩ : CV)).symm.trans HP.out)
                  have hpb := payN_bounds (x := (⟨key, veh, sys, cls, tm, lns, cn⟩ : CV)) HI.out hcn0
                  rw [HPN.out] at hpb
                  obtain ⟨hn0, hn1, -⟩ := hpb
                  have HM5 := Lib.hid (HMM.out.st hb14)
                  have HBX5 := Lib.hid (HBX.out.below hb14 HBX.out.lt)
                  have HBT5 := Lib.hid (HBT.out.below hb14 HBT.out.lt)
                  have HOUT5 := Lib.hid (HOUT.out.st hb14)
                  have HB5 := Lib.hid hb14
                  have hm5 : mb < wr.heap.size := HM5.out.lt
                  have HM0' : Hid (CntMap wr mb (gMid caps h (h ++ [((⟨key, veh, sys, cls, tm, lns, cn⟩ : CV), nn)]) 0)) := Lib.hid (by rw [gMid_0]; exact HM5.out)
                  have HKM := Lib.hid (KeepM.refl mb wr)
                  clear HP HP0 hB5 hb14 hj
                  obtain ⟨wa, rfl⟩ : ∃ wa, wa = wr := ⟨_, rfl⟩
                  go_wp2_with fail
                  go_loopw [124] (fun vj wr => ∃ (j : Nat), j ≤ caps.length ∧ vj = .int .i64 j ∧ CntMap wr mb (gMid caps h (h ++ [((⟨key, veh, sys, cls, tm, lns, cn⟩ : CV), nn)]) j) ∧ KeepM mb wa wr) (fun vj _ => caps.length - (RowKit.intOf vj).toNat)
                  case atStart => exact ⟨0, Nat.zero_le _, rfl, HM0'.out, HKM.out⟩
                  case round =>
                    obtain ⟨j, hj, rfl, hMj, hkm⟩ := hrel
                    have HMJ := Lib.hid hMj
                    have HKM2 := Lib.hid hkm
                    have hmw : mb < wr.heap.size := hMj.lt
                    have hwmb : w.heap.size ≤ mb := by have := bW0.out.size; omega
                    have HWW := Lib.hid ((HWY.out.st HB5.out).trans (hkm.bel.mono hwmb))
                    clear hMj hkm HM0' HKM
                    by_cases hji : j < caps.length
                    · obtain ⟨b3, off3, x, hA3, hb3, hxc, g0, g1, g2, g3⟩ := (HC.out.st HWW.out).cp hji
                      have HJ := Lib.hid hji
                      have hcb := HCO.out x (List.mem_of_getElem? hxc)
                      have hpn := perN_bnd x.days tm
                      have HGN := Lib.hid (fun (q : matB x (⟨key, veh, sys, cls, tm, lns, cn⟩ : CV) = true) => gMid_new (h := h) (x := (⟨key, veh, sys, cls, tm, lns, cn⟩ : CV)) (n := nn) hxc q)
                      have HGO := Lib.hid (fun (s : Int × Int) (q : s ≠ ((j : Int), perN x.days tm)) => gMid_oth (h := h) (x := (⟨key, veh, sys, cls, tm, lns, cn⟩ : CV)) (n := nn) hxc s q)
                      have HGS := Lib.hid (fun (q : matB x (⟨key, veh, sys, cls, tm, lns, cn⟩ : CV) = false) => gMid_skip (h := h) (x := (⟨key, veh, sys, cls, tm, lns, cn⟩ : CV)) (n := nn) hxc q)
                      have HGB := Lib.hid (gMid_bnd HI.out hxc (h ++ [((⟨key, veh, sys, cls, tm, lns, cn⟩ : CV), nn)]) (perN x.days tm))
                      subst hA3
                      obtain ⟨nm, sy, dy, ct⟩ := x
                      simp only at *
                      obtain ⟨kb, hkb⟩ : ∃ kb, wr.heap.size = kb := ⟨_, rfl⟩
                      obtain ⟨Y8, hY8⟩ : ∃ Y, wr.alloc (.cells #[.string nm, .string sy, .int .i64 dy, .int .i64 ct] 65) = Y := ⟨_, rfl⟩
                      have BK : Blk Y8 kb #[.string nm, .string sy, .int .i64 dy, .int .i64 ct] 65 := by rw [← hY8, ← hkb]; exact Blk.new _ _ _
                      have hbn : Below wr.heap.size wr Y8 := by rw [← hY8]; exact (Below.refl _ _).al _
                      have HK8 := Lib.hid (HKM2.out.st hbn (by omega))
                      have HM8 := Lib.hid (HMJ.out.st hbn)
                      have HW8 := Lib.hid (HWW.out.st hbn)
                      have BX := HK8.out.blk HBX5.out (by omega)
                      have x0 := BK.cell 0 (v := .string nm) rfl; have x1 := BK.cell 1 (v := .string sy) rfl; have x2 := BK.cell 2 (v := .int .i64 dy) rfl; have x3 := BK.cell 3 (v := .int .i64 ct) rfl
                      have y0 := BX.cell 0 (v := .string key) rfl; have y1 := BX.cell 1 (v := .string veh) rfl; have y2 := BX.cell 2 (v := .string sys) rfl; have y3 := BX.cell 3 (v := .int .i64 cls) rfl; have y4 := BX.cell 4 (v := .int .i64 tm) rfl; have y5 := BX.cell 5 (v := .slice lA lns.length lc) rfl; have y6 := BX.cell 6 (v := .int .i64 cn) rfl
                      have CM := Lib.hid (fun (X : World) => cmat_any ⟨nm, sy, dy, ct⟩ (⟨key, veh, sys, cls, tm, lns, cn⟩ : CV) lA lc X)
                      simp only [CpV, CHV] at CM
                      have hj1 : (0 : Int) ≤ (j : Int) := by omega
                      have hj2 : (j : Int) < (caps.length : Int) := by omega
                      clear hxc hji hb3 hbn BX HMJ HKM2 HWW
                      cases hm : matB ⟨nm, sy, dy, ct⟩ (⟨key, veh, sys, cls, tm, lns, cn⟩ : CV)
                      · have R := Lib.hid (HGS.out hm)
                        rw [hm] at CM
                        clear hm HGN HGO HGS HGB hcb hpn
                        go_wp2_with fail
                        refine (CM.out _).mono ?_
                        rintro e w15 ⟨rfl, hbn⟩
                        have HK9 := Lib.hid (HK8.out.st hbn (by have := HM8.out.lt; omega))
                        have HM9 := Lib.hid (HM8.out.st hbn)
                        clear hbn
                        go_wp2_with fail
                        go_roundw
                        case rel => exact ⟨j + 1, HJ.out, by go_num, by rw [R.out]; exact HM9.out, HK9.out⟩
                        case measure => have := HJ.out; simp [RowKit.intOf]; omega
                      · rw [hm] at CM
                        have HGN2 := Lib.hid (HGN.out hm)
                        clear HGN HGS hm
                        go_wp2_with fail
                        refine (CM.out _).mono ?_
                        rintro e w15 ⟨rfl, hbn⟩
                        have HK9 := Lib.hid (HK8.out.st hbn (by have := HM8.out.lt; omega))
                        have HM9 := Lib.hid (HM8.out.st hbn)
                        have HW9 := Lib.hid (HW8.out.st hbn)
                        have BK := BK.below hbn BK.lt
                        clear hbn CM
                        go_wp2_with fail
                        have BX := HK9.out.blk HBX5.out (by omega)
                        have BT := HK9.out.blk HBT5.out (by omega)
                        have CPE := Lib.hid (fun (X : World) (hX : Mon X) => cper_any nm sy dy ct tm hX)
                        have HSK : Hid (SrcOk ((j : Int), perN dy tm)) := Lib.hid ⟨wfI (by omega) (by omega), wfI hpn.1 hpn.2⟩
                        have HWR : Hid (IntKind.i64.wrap (gMid caps h (h ++ [((⟨key, veh, sys, cls, tm, lns, cn⟩ : CV), nn)]) j ((j : Int), perN dy tm) + nn) = gMid caps h (h ++ [((⟨key, veh, sys, cls, tm, lns, cn⟩ : CV), nn)]) j ((j : Int), perN dy tm) + nn) := Lib.hid (by
                          obtain ⟨z1, z2⟩ := HGB.out
                          exact IntWalk.i64_in _ (by omega))
                        generalize hpe : perN dy tm = pe at *
                        have HADD := Lib.hid (fun (X : World) (hX : CntMap X mb (gMid caps h (h ++ [((⟨key, veh, sys, cls, tm, lns, cn⟩ : CV), nn)]) j)) => tadd_any mb (j : Int) pe nn hX HSK.out HWR.out HGN2.out HGO.out)
                        have HSS : Hid ((fun w' : World => w'.cell? ⟨kb, 0, none⟩ = some (.string nm) ∧ w'.cell? ⟨kb, 1, none⟩ = some (.string sy) ∧ w'.cell? ⟨kb, 2, none⟩ = some (.int .i64 dy) ∧ w'.cell? ⟨kb, 3, none⟩ = some (.int .i64 ct) ∧ w'.cell? ⟨mb + 1, 0, none⟩ = some (.map (some mb)) ∧ w'.cell? ⟨xb, 4, none⟩ = some (.int .i64 tm)) w15) := Lib.hid ⟨BK.cell 0 rfl, BK.cell 1 rfl, BK.cell 2 rfl, BK.cell 3 rfl, BT.cell 0 rfl, BX.cell 4 rfl⟩
                        have HBK := Lib.hid BK
                        have HBT := Lib.hid BT
                        have HBX := Lib.hid BX
                        clear BK BX BT x0 x1 x2 x3 y0 y1 y2 y3 y4 y5 y6 g0 g1 g2 g3 HGN2 HGO HGB HWR HSK hpn hcb
                        refine wp_region_held_drew (S := (fun w' : World => w'.cell? ⟨kb, 0, none⟩ = some (.string nm) ∧ w'.cell? ⟨kb, 1, none⟩ = some (.string sy) ∧ w'.cell? ⟨kb, 2, none⟩ = some (.int .i64 dy) ∧ w'.cell? ⟨kb, 3, none⟩ = some (.int .i64 ct) ∧ w'.cell? ⟨mb + 1, 0, none⟩ = some (.map (some mb)) ∧ w'.cell? ⟨xb, 4, none⟩ = some (.int .i64 tm))) (by kernel_rfl) ?_ (fun hHeld => ?_)
                        · exact HSS.out
                        have hSS : (fun w' : World => w'.cell? ⟨kb, 0, none⟩ = some (.string nm) ∧ w'.cell? ⟨kb, 1, none⟩ = some (.string sy) ∧ w'.cell? ⟨kb, 2, none⟩ = some (.int .i64 dy) ∧ w'.cell? ⟨kb, 3, none⟩ = some (.int .i64 ct) ∧ w'.cell? ⟨mb + 1, 0, none⟩ = some (.map (some mb)) ∧ w'.cell? ⟨xb, 4, none⟩ = some (.int .i64 tm)) w15.drew := HSS.out
                        have HBK := Lib.hid HBK.out.drew
                        have HBT := Lib.hid HBT.out.drew
                        have HBX := Lib.hid HBX.out.drew
                        have HK9 : Hid (KeepM mb wa w15.drew) := Lib.hid ⟨below_drewN HK9.out.bel 1, HK9.out.oth⟩
                        have HM9 : Hid (CntMap w15.drew mb (gMid caps h (h ++ [((⟨key, veh, sys, cls, tm, lns, cn⟩ : CV), nn)]) j)) := Lib.hid (HM9.out.keepB rfl)
                        have HW9 : Hid (Below w.heap.size w w15.drew) := Lib.hid (below_drewN HW9.out 1)
                        generalize w15.drew = W0 at hSS hHeld HBK HBT HBX HK9 HM9 HW9 ⊢
                        change wpAnyH _ _ _ _ _ 9 _ _ _
                        refine wpAnyH_take (i := 0) (v := ?_) (by simp only [List.getElem?_toArray, List.getElem?_cons_zero, List.getElem?_cons_succ]; rfl) (by kernel_rfl) (by kernel_rfl) (by kernel_rfl) (by intro _ _ _ h; exact h) (Or.inl ⟨by rfl, ?_⟩) (by assumption) ?_; rotate_left; (focus (intro w1 hSw; (try dsimp only at hSw); go_simp; (try with_reducible rfl))); (try simp only [Act.put, List.setIfInBounds_toArray, List.set_cons_zero, List.set_cons_succ, List.getElem_toArray, List.getElem_cons_zero, List.getElem_cons_succ])
                        refine wpAnyH_take (i := 1) (v := ?_) (by simp only [List.getElem?_toArray, List.getElem?_cons_zero, List.getElem?_cons_succ]; rfl) (by kernel_rfl) (by kernel_rfl) (by kernel_rfl) (by intro _ _ _ h; exact h) (Or.inl ⟨by rfl, ?_⟩) (by assumption) ?_; rotate_left; (focus (intro w1 hSw; (try dsimp only at hSw); go_simp; (try with_reducible rfl))); (try simp only [Act.put, List.setIfInBounds_toArray, List.set_cons_zero, List.set_cons_succ, List.getElem_toArray, List.getElem_cons_zero, List.getElem_cons_succ])
                        refine wpAnyH_take (i := 2) (v := ?_) (by simp only [List.getElem?_toArray, List.getElem?_cons_zero, List.getElem?_cons_succ]; rfl) (by kernel_rfl) (by kernel_rfl) (by kernel_rfl) (by intro _ _ _ h; exact h) (Or.inl ⟨by rfl, ?_⟩) (by assumption) ?_; rotate_left; (focus (intro w1 hSw; (try dsimp only at hSw); go_simp; (try with_reducible rfl))); (try simp only [Act.put, List.setIfInBounds_toArray, List.set_cons_zero, List.set_cons_succ, List.getElem_toArray, List.getElem_cons_zero, List.getElem_cons_succ])
                        refine wpAnyH_take (i := 3) (v := ?_) (by simp only [List.getElem?_toArray, List.getElem?_cons_zero, List.getElem?_cons_succ]; rfl) (by kernel_rfl) (by kernel_rfl) (by kernel_rfl) (by intro _ _ _ h; exact h) (Or.inl ⟨by rfl, ?_⟩) (by assumption) ?_; rotate_left; (focus (intro w1 hSw; (try dsimp only at hSw); go_simp; (try with_reducible rfl))); (try simp only [Act.put, List.setIfInBounds_toArray, List.set_cons_zero, List.set_cons_succ, List.getElem_toArray, List.getElem_cons_zero, List.getElem_cons_succ])
                        refine wpAnyH_take (i := 4) (v := ?_) (by simp only [List.getElem?_toArray, List.getElem?_cons_zero, List.getElem?_cons_succ]; rfl) (by kernel_rfl) (by kernel_rfl) (by kernel_rfl) (by intro _ _ _ h; exact h) (Or.inl ⟨by rfl, ?_⟩) (by assumption) ?_; rotate_left; (focus (intro w1 hSw; (try dsimp only at hSw); go_simp; (try with_reducible rfl))); (try simp only [Act.put, List.setIfInBounds_toArray, List.set_cons_zero, List.set_cons_succ, List.getElem_toArray, List.getElem_cons_zero, List.getElem_cons_succ])
                        refine wpAnyH_take (i := 7) (v := ?_) (by simp only [List.getElem?_toArray, List.getElem?_cons_zero, List.getElem?_cons_succ]; rfl) (by kernel_rfl) (by kernel_rfl) (by kernel_rfl) (by intro _ _ _ h; exact h) (Or.inl ⟨by rfl, ?_⟩) (by assumption) ?_; rotate_left; (focus (intro w1 hSw; (try dsimp only at hSw); go_simp; (try with_reducible rfl))); (try simp only [Act.put, List.setIfInBounds_toArray, List.set_cons_zero, List.set_cons_succ, List.getElem_toArray, List.getElem_cons_zero, List.getElem_cons_succ])
                        refine wpAnyH_ready (rs := [5]) (by kernel_rfl) (by simp) ?_; refine AllReadyH.cons (by simp only [List.getElem?_toArray, List.getElem?_cons_zero, List.getElem?_cons_succ]; rfl) (fun K hK => ?_) AllReadyH.nil
                        rw [if_pos (by rfl)]; go_wp2_with fail
                        refine (CPE.out _ (HM.out.st HW9.out HM.out.1)).mono ?_
                        rintro e wn ⟨rfl, hbn⟩
                        have hzn : mb < W0.heap.size := HM9.out.lt
                        have HBK := Lib.hid (HBK.out.below hbn HBK.out.lt)
                        have HBT := Lib.hid (HBT.out.below hbn HBT.out.lt)
                        have HBX := Lib.hid (HBX.out.below hbn HBX.out.lt)
                        have HK9 := Lib.hid (HK9.out.st hbn (by omega))
                        have HM9 := Lib.hid (HM9.out.st hbn)
                        have hSS : (fun w' : World => w'.cell? ⟨kb, 0, none⟩ = some (.string nm) ∧ w'.cell? ⟨kb, 1, none⟩ = some (.string sy) ∧ w'.cell? ⟨kb, 2, none⟩ = some (.int .i64 dy) ∧ w'.cell? ⟨kb, 3, none⟩ = some (.int .i64 ct) ∧ w'.cell? ⟨mb + 1, 0, none⟩ = some (.map (some mb)) ∧ w'.cell? ⟨xb, 4, none⟩ = some (.int .i64 tm)) wn := ⟨HBK.out.cell 0 rfl, HBK.out.cell 1 rfl, HBK.out.cell 2 rfl, HBK.out.cell 3 rfl, HBT.out.cell 0 rfl, HBX.out.cell 4 rfl⟩
                        clear hbn hzn
                        go_wp2_with fail
                        refine hK.out _ _ ?_ (fun hHeld => ?_)
                        · exact hSS
                        clear hK K
                        (try simp only [Act.put, List.setIfInBounds_toArray, List.set_cons_zero, List.set_cons_succ, List.getElem_toArray, List.getElem_cons_zero, List.getElem_cons_succ])
                        refine wpAnyH_take (i := 6) (v := ?_) (by simp only [List.getElem?_toArray, List.getElem?_cons_zero, List.getElem?_cons_succ]; rfl) (by kernel_rfl) (by kernel_rfl) (by kernel_rfl) (by intro _ _ _ h; exact h) (Or.inl ⟨by rfl, ?_⟩) (by assumption) ?_; rotate_left; (focus (intro w1 hSw; (try dsimp only at hSw); go_simp; (try with_reducible rfl))); (try simp only [Act.put, List.setIfInBounds_toArray, List.set_cons_zero, List.set_cons_succ, List.getElem_toArray, List.getElem_cons_zero, List.getElem_cons_succ])
                        refine wpAnyH_ready (rs := [8]) (by kernel_rfl) (by simp) ?_; refine AllReadyH.cons (by simp only [List.getElem?_toArray, List.getElem?_cons_zero, List.getElem?_cons_succ]; rfl) (fun K hK => ?_) AllReadyH.nil
                        rw [if_pos (by rfl)]; go_wp2_with fail
                        refine (HADD.out _ HM9.out).mono ?_
                        rintro e wn2 ⟨rfl, hM2, hb2, ho2⟩
                        have HBK := Lib.hid ((ho2 kb HBK.out.lt (by omega)).trans HBK.out)
                        have HBT := Lib.hid ((ho2 (mb + 1) HBT.out.lt (by omega)).trans HBT.out)
                        have HBX := Lib.hid ((ho2 xb HBX.out.lt (by omega)).trans HBX.out)
                        have HK9 := Lib.hid (HK9.out.add hb2 ho2)
                        have HM9 := Lib.hid hM2
                        have hSS : (fun w' : World => w'.cell? ⟨kb, 0, none⟩ = some (.string nm) ∧ w'.cell? ⟨kb, 1, none⟩ = some (.string sy) ∧ w'.cell? ⟨kb, 2, none⟩ = some (.int .i64 dy) ∧ w'.cell? ⟨kb, 3, none⟩ = some (.int .i64 ct) ∧ w'.cell? ⟨mb + 1, 0, none⟩ = some (.map (some mb)) ∧ w'.cell? ⟨xb, 4, none⟩ = some (.int .i64 tm)) wn2 := ⟨Blk.cell HBK.out 0 rfl, Blk.cell HBK.out 1 rfl, Blk.cell HBK.out 2 rfl, Blk.cell HBK.out 3 rfl, Blk.cell HBT.out 0 rfl, Blk.cell HBX.out 4 rfl⟩
                        clear hM2 hb2 ho2
                        go_wp2_with fail
                        refine hK.out _ _ ?_ (fun hHeld => ?_)
                        · exact hSS
                        clear hK K
                        (try simp only [Act.put, List.setIfInBounds_toArray, List.set_cons_zero, List.set_cons_succ, List.getElem_toArray, List.getElem_cons_zero, List.getElem_cons_succ])
                        refine wpAnyH_done (by kernel_rfl) ?_ _
                        clear hSS hHeld HBK HBT HBX HADD
                        go_wp2_with fail
                        go_roundw
                        case rel => exact ⟨j + 1, HJ.out, by go_num, HM9.out, HK9.out⟩
                        case measure => have := HJ.out; simp [RowKit.intOf]; omega
                    · obtain rfl : j = caps.length := by omega
                      have HMF : Hid (CntMap wr mb (gOf caps (h ++ [((⟨key, veh, sys, cls, tm, lns, cn⟩ : CV), nn)]))) := Lib.hid (by rw [← gMid_n caps h]; exact HMJ.out)
                      have HOW : Hid (Own 3 encI 1 wr oc (some ⟨oc, 0, none⟩) l.length o) := Lib.hid (HOUT5.out.keepB (fun g q hg => HKM2.out.oth g hg (by injection q with q; injection q with q; omega)))
                      obtain ⟨z, hz⟩ : ∃ z, o[ix]? = some z := ⟨_, List.getElem?_eq_getElem (by omega)⟩
                      have c0 := HOW.out.cells encI_ok rfl (i := ix) hz (j := 0) rfl
                      have f0 := HOW.out.frozen rfl ix
                      simp only [Nat.mul_one, Nat.add_zero] at c0
                      have HS : Hid (Own 3 encI 1 (wr.setCell ⟨oc, ix, none⟩ (.int .i64 nn)) oc (some ⟨oc, 0, none⟩) l.length (o.set ix nn)) := Lib.hid (by
                        have := HOW.out.stored encI_ok rfl hz (j := 0) (u := .int .i64 nn) (y := nn) (by omega) rfl
                        simpa using this)
                      have hoy : oc ≤ Y5.heap.size := by have := HBO.out.size; omega
                      have HBL : Hid (Below oc w11 (wr.setCell ⟨oc, ix, none⟩ (.int .i64 nn))) := Lib.hid (((HBO.out.trans (HB5.out.mono hoy)).trans (HKM2.out.bel.mono (by omega))).setCell (p := ⟨oc, ix, none⟩) (Nat.le_refl _) _)
                      have HMS : Hid (CntMap (wr.setCell ⟨oc, ix, none⟩ (.int .i64 nn)) mb (gOf caps (h ++ [((⟨key, veh, sys, cls, tm, lns, cn⟩ : CV), nn)]))) := Lib.hid (HMF.out.keepB (Below.heap_setCell wr ⟨oc, ix, none⟩ _ mb (by show mb ≠ oc; omega)))
                      have HBS : Hid (Blk (wr.setCell ⟨oc, ix, none⟩ (.int .i64 nn)) (mb + 1) #[.map (some mb)] 115) := Lib.hid ((HKM2.out.blk HBT5.out (by omega)).other (p := ⟨oc, ix, none⟩) (by show mb + 1 ≠ oc; omega) _)
                      have HRN : Hid (runF caps (cvs l) ((ordN (cvs l)).take (k + 1)) = (h ++ [((⟨key, veh, sys, cls, tm, lns, cn⟩ : CV), nn)], o.set ix nn)) := Lib.hid (by
                        have e := HXA.out
                        rw [HST.out]; unfold stp; simp only [e, HPN.out])
                      clear hz HXA HST HMJ HKM2
                      go_wp2_with fail
                      go_roundw
                      case rel => exact ⟨k + 1, _, _, HK.out, by go_num, by rw [List.length_set]; exact hol, HRN.out, HS.out, HMS.out, HBS.out, HBL.out⟩
                      case measure => have := HK.out; simp [RowKit.intOf]; omega
            · obtain rfl : k = l.length := by omega
              have HPL : Hid (paidL caps (cvs l) = o) := Lib.hid (by
                have := HH.out
                rw [List.take_of_length_le (Nat.le_of_eq ((ordN_len _).trans hcv))] at this
                unfold paidL; rw [this])
              have bW := bW0.out.trans ((hO11.out.trans (bO.mono hYoc)).mono (by have := bW0.out.size; omega))
              have HOW := Lib.hid (hout.mono (show w.heap.size ≤ oc by have := bW0.out.size; omega))
              clear hout hM BT bO
              go_wp2_with fail
              go_ret2
              exact ⟨some ⟨oc, 0, none⟩, l.length, o, by rw [HE3.out, hol]; rfl, fun _ => HPL.out.symm, fun q => absurd HE3.out q, HOW.out, bW⟩
end Go.Proofs.YtelchfijalkibaaGreatDoor
