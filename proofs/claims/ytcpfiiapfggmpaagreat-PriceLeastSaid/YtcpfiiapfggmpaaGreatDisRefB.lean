/- The reference's chosen, Reduction and before, walked. -/
import Derived.Test.YtcpfiiapfggmpaaGreatDisBest1
import Derived.Test.YtcpfiiapfggmpaaGreatJDisBest2
set_option linter.unusedSimpArgs false
namespace Go.Proofs.YtcpfiiapfggmpaaGreat
open Go.RowKit Go.Lib

theorem clashB_r {l : List Dc} {j k : Nat} {x y : Dc} (hx : l[j]? = some x) (hy : l[k]? = some y) : clashB l j k = (!(emp y.gr) && eqS x.gr y.gr) := by
  unfold clashB
  rw [hx, hy]
  cases h : eqS x.gr y.gr
  · simp [h]
  · have e : x.gr.toList = y.gr.toList := by simpa [eqS] using h
    have e2 : emp x.gr = emp y.gr := by
      cases q : emp x.gr <;> cases q' : emp y.gr
      · rfl
      · exfalso
        have h1 := (toList_neE q).1
        have h2 := (toList_eE q').1
        simp_all
      · exfalso
        have h1 := (toList_neE q').1
        have h2 := (toList_eE q).1
        simp_all
      · rfl
    simp [e2, h]
theorem drewn2 (w : World) (a b : Nat) : (w.drewN a).drewN b = w.drewN (a + b) := World.drewN_drewN ..
theorem tdivp (m b : Nat) : ((m : Int)).tdiv (b : Int) = ((m / b : Nat) : Int) := by rw [Int.tdiv_eq_ediv_of_nonneg (by omega)]; rfl
theorem tmod2 (q : Nat) : ((q : Int)).tmod 2 = ((q % 2 : Nat) : Int) := by rw [Int.tmod_eq_emod_of_nonneg (by omega)]; rfl
theorem pow_le12 {k : Nat} (h : k ≤ 12) : 1 ≤ 2 ^ k ∧ 2 ^ k ≤ 4096 := by
  have h1 := Nat.pow_le_pow_right (n := 2) (by omega) h
  have h2 := Nat.two_pow_pos k
  omega
/-- what chosen tells -/
def ChR (l : List Dc) (m : Nat) (w w' : World) (e : Ending) : Prop :=
  (∃ A c, e = .returned (.tuple #[.slice A (bitsN l.length m).length c, .bool true]) ∧ Own 3 encN 1 w' w.heap.size A c (bitsN l.length m) ∧ Cand l (bitsN l.length m) ∧ Below w.heap.size w w') ∨
  (e = .returned (.tuple #[.slice none 0 0, .bool false]) ∧ ¬ Cand l (bitsN l.length m) ∧ Below w.heap.size w w')
theorem bits_len (k m : Nat) : (bitsN k m).length ≤ k := by unfold bitsN; have := List.length_filter_le (bitB m) (List.range k); rwa [List.length_range] at this

set_option maxRecDepth 100000 in
set_option maxHeartbeats 16000000 in
theorem chosen_any {lA : Option Addr} {lc : Nat} {l : List Dc} (hl : l.length ≤ 12) {m : Nat} (hm : m ≤ 4096) {w : World} (hr : Rd encDc 10 w w.heap.size lA l) :
    Calls Tryz.prog 139 #[.slice lA l.length lc, .int .i64 m] w fun e w' => ChR l m w w' e := by
  have HR := Lib.hid hr
  have HL := Lib.hid hl
  clear hr
  go_enter Tryz.func139, Tryz.ntmps139
  go_wp2_with fail
  go_loopw [8, 6, 7] (fun sk so sb wr => ∃ (k : Nat) (A : Option Addr) (c : Nat), k ≤ l.length ∧ sk = .int .i64 k ∧ so = .slice A (bitsN k m).length c ∧ sb = .int .i64 ((2 ^ k : Nat) : Int) ∧ Own 3 encN 1 wr w.heap.size A c (bitsN k m) ∧ okTo l m k ∧ Below w.heap.size w wr) (fun sk _ _ _ => l.length - (RowKit.intOf sk).toNat)
  case atStart => exact ⟨0, none, 0, Nat.zero_le _, rfl, rfl, rfl, Own.nil _ _, okTo.zero l m, Below.refl _ _⟩
  case round =>
    obtain ⟨wo, hwo⟩ : ∃ wo, wo = wr := ⟨_, rfl⟩
    rw [← hwo] at hrel ⊢
    clear hwo wr
    obtain ⟨k, A, c, hk, rfl, rfl, rfl, hown, hok, hbn⟩ := hrel
    have k1 : (0 : Int) ≤ (k : Int) := by omega
    have HOK := Lib.hid hok
    have HOW := Lib.hid hown
    have HBN := Lib.hid hbn
    clear hok hown hbn
    by_cases hi : k < l.length
    · have k2 : (k : Int) < (l.length : Int) := by omega
      have HI := Lib.hid hi
      have hp := pow_le12 (show k ≤ 12 by omega)
      have HP2 : Hid ((2 ^ (k + 1) : Nat) = 2 * 2 ^ k) := Lib.hid (by rw [Nat.pow_succ]; omega)
      have HBT : Hid (bitB m k = decide (m / 2 ^ k % 2 = 1)) := Lib.hid rfl
      have HBS := Lib.hid (bitsN_succ k m)
      have hcl := bits_len k m
      have RB := Lib.hid (HOW.out.rd encN_ok)
      have HML := Lib.hid (fun (j : Nat) (h : j ∈ bitsN k m) => bitsN_lt h)
      have HNC := Lib.hid (fun (hb : bitB m k = true) (j : Nat) (hj : j ∈ bitsN k m) (hc : clashB l j k = true) => not_cand hi hb hj hc)
      have HNX := Lib.hid (fun (h : ∀ j ∈ bitsN k m, clashB l j k = false) => HOK.out.next h)
      have HSK := Lib.hid (fun (h : bitB m k = false) => HOK.out.skip h)
      obtain ⟨bt, hbt⟩ : ∃ bt, 2 ^ k = bt := ⟨_, rfl⟩
      obtain ⟨C, hC⟩ : ∃ C, bitsN k m = C := ⟨_, rfl⟩
      rw [hbt] at hp HP2 HBT ⊢
      rw [hC] at HOW HBS hcl RB HML HNC HNX ⊢
      clear HOK
      obtain ⟨q, hq⟩ : ∃ q, m / bt = q := ⟨_, rfl⟩
      have hqm : q ≤ 4096 := by rw [← hq]; exact Nat.le_trans (Nat.div_le_self _ _) hm
      have t1 : ((m : Int)).tdiv (bt : Int) = (q : Int) := by rw [tdivp, hq]
      have t1w : IntKind.i64.wrap (q : Int) = (q : Int) := IntWalk.i64_in _ (by omega)
      have t0 : ((bt : Int) == 0) = false := beq_eq_false_iff_ne.2 (by omega)
      have t3 : IntKind.i64.wrap ((bt : Int) * 2) = ((2 ^ (k + 1) : Nat) : Int) := by rw [HP2.out]; rw [IntWalk.i64_in _ (by omega)]; omega
      rw [hq] at HBT
      have hm0 : (0 : Int) ≤ (m : Int) := by omega
      have hb0 : (0 : Int) < (bt : Int) := by omega
      have HCL : Hid (C.length ≤ k ∧ k < l.length ∧ l.length ≤ 12) := Lib.hid ⟨hcl, hi, HL.out⟩
      obtain ⟨pp, hpp⟩ : ∃ p, ((2 ^ (k + 1) : Nat) : Int) = p := ⟨_, rfl⟩
      rw [hpp] at t3
      have HPP := Lib.hid hpp
      have HHC := Lib.hid hC
      clear hbt hC hq HP2 hpp hm hi hcl hk
      obtain ⟨hp1, hp2⟩ := hp
      by_cases hb : q % 2 = 1
      · have t2 : ((q : Int)).tmod 2 = 1 := by rw [tmod2, hb]; rfl
        have HB1 : Hid (bitB m k = true) := Lib.hid (by rw [HBT.out]; exact decide_eq_true hb)
        clear hb HBT HSK
        go_wp2_with fail
        have cl0 : C.length ≤ 12 := by have := HCL.out; omega
        go_loopw [9] (fun sj wr => ∃ j : Nat, j ≤ C.length ∧ sj = .int .i64 j ∧ (∃ n, wr = wo.drewN n) ∧ ∀ a, a ∈ C.take j → clashB l a k = false) (fun sj _ => C.length - (RowKit.intOf sj).toNat)
        case atStart => exact ⟨0, Nat.zero_le _, rfl, ⟨0, rfl⟩, fun a h => absurd h (by simp)⟩
        case round =>
          obtain ⟨j, hj, rfl, ⟨n, rfl⟩, hall⟩ := hrel
          have HALL := Lib.hid hall
          clear hall
          have j1 : (0 : Int) ≤ (j : Int) := by omega
          by_cases hjc : j < C.length
          · have j2 : (j : Int) < (C.length : Int) := by omega
            have HJ := Lib.hid hjc
            obtain ⟨g, o, hA, hg, hx⟩ := RB.out.n hjc
            have HX := Lib.hid (show C[j]? = some C[j] from List.getElem?_eq_getElem hjc)
            generalize C[j] = a at *
            have hal := HML.out a (List.mem_of_getElem? HX.out)
            have hal2 : a < l.length := by have := HCL.out; omega
            obtain ⟨lb, lo, x, hA1, hlb, hxx, hc⟩ := (HR.out.st HBN.out).at_ hal2
            obtain ⟨lb2, lo2, y, hA2, hlb2, hyy, hc2⟩ := (HR.out.st HBN.out).at_ HI.out
            have HCH : Hid (clashB l a k = (!(emp y.gr) && eqS x.gr y.gr)) := Lib.hid (clashB_r hxx hyy)
            have d3 := hc 3 (.string x.gr) rfl
            have e3 := hc2 3 (.string y.gr) rfl
            subst hA hA1
            injection hA2 with u
            injection u with u1 u2
            subst u1 u2
            have a1 : (0 : Int) ≤ (a : Int) := by omega
            have a2 : (a : Int) < (l.length : Int) := by omega
            have a3 : decide (a < l.length) = true := decide_eq_true hal2
            have a4 : decide (j < C.length) = true := decide_eq_true hjc
            have a5 : decide (k < l.length) = true := decide_eq_true HI.out
            clear hc hc2 hxx hyy hlb hlb2 hal hal2 hg hjc hj
            cases g : emp y.gr
            · obtain ⟨e1, e2, e4⟩ := toList_neE g
              have t0 : (x.gr.toList == y.gr.toList) = eqS x.gr y.gr := rfl
              have R := Lib.hid (HCH.out.trans (show _ = eqS x.gr y.gr by rw [g]; rfl))
              clear HCH g
              cases hbb : eqS x.gr y.gr
              · rw [hbb] at t0 R
                clear hbb
                go_wp2_with fail
                go_quiet (fail)
                go_wp2_with fail
                go_roundw
                case rel => exact ⟨j + 1, HJ.out, by go_num, ⟨_, rfl⟩, fun z hz => by rw [take_snoc HX.out, List.mem_append] at hz; rcases hz with hz | hz; (exact HALL.out z hz); (simp at hz; subst hz; exact R.out)⟩
                case measure => have := HJ.out; simp [RowKit.intOf]; omega
              · rw [hbb] at t0 R
                clear hbb
                go_wp2_with fail
                go_quiet (fail)
                go_wp2_with fail
                go_ret2
                exact Or.inr ⟨rfl, HNC.out HB1.out a (List.mem_of_getElem? HX.out) R.out, below_drewN (below_drewN HBN.out _) _⟩
            · obtain ⟨e1, e2, e4⟩ := toList_eE g
              have R := Lib.hid (HCH.out.trans (show _ = false by rw [g]; rfl))
              clear HCH g
              go_wp2_with fail
              go_quiet (fail)
              go_wp2_with fail
              go_roundw
              case rel => exact ⟨j + 1, HJ.out, by go_num, ⟨_, rfl⟩, fun z hz => by rw [take_snoc HX.out, List.mem_append] at hz; rcases hz with hz | hz; (exact HALL.out z hz); (simp at hz; subst hz; exact R.out)⟩
              case measure => have := HJ.out; simp [RowKit.intOf]; omega
          · obtain rfl : j = C.length := by omega
            have HNK := Lib.hid (HNX.out (fun a ha => HALL.out a (by rw [List.take_length]; exact ha)))
            have hown := HOW.out.drewN n
            have hbel := below_drewN HBN.out n
            have hbs := HBN.out.size
            obtain ⟨Wn, hWn⟩ : ∃ X, wo.drewN n = X := ⟨_, rfl⟩
            have HWZ : Hid (w.heap.size ≤ Wn.heap.size) := Lib.hid (by rw [← hWn]; exact hbs)
            rw [hWn] at hown hbel ⊢
            have hbs := HWZ.out
            clear hWn HALL hjc
            go_wp2_with (at_builtin; refine wpList_app1 rfl (.tmp 49) (.tmp 51) tyN encN_ok rfl k rfl _ rfl (by simp) hown rfl (by first | rfl | simp) (by first | omega | (simp; omega)) (by first | omega | (simp; omega)) hbs ?_; intro A9 c9 w9 hown9 hb9 hs9 hf9)
            go_roundw
            case rel =>
              have hbs2 := HBS.out
              rw [HB1.out, if_pos rfl] at hbs2
              refine ⟨k + 1, A9, c9, HI.out, by go_num, ?_, ?_, ?_, HNK.out, hbel.trans hb9⟩
              · rw [hbs2]; simp
              · rw [HPP.out]
              · rw [hbs2]; exact hown9
            case measure => have := HI.out; simp [RowKit.intOf]; omega
      · have t2 : ((q : Int)).tmod 2 = 0 := by rw [tmod2, show q % 2 = 0 by omega]; rfl
        have HB1 : Hid (bitB m k = false) := Lib.hid (by rw [HBT.out]; exact decide_eq_false hb)
        clear hb HBT
        go_wp2_with fail
        go_roundw
        case rel =>
          have hbs2 := HBS.out
          rw [HB1.out] at hbs2
          simp only [Bool.false_eq_true, if_false] at hbs2
          refine ⟨k + 1, A, c, HI.out, by go_num, ?_, ?_, ?_, HSK.out HB1.out, HBN.out⟩
          · rw [hbs2]
          · rw [HPP.out]
          · rw [hbs2]; exact HOW.out
        case measure => have := HI.out; simp [RowKit.intOf]; omega
    · obtain rfl : k = l.length := by omega
      go_wp2_with fail
      go_ret2
      exact Or.inl ⟨A, c, rfl, HOW.out, HOK.out.cand, HBN.out⟩

set_option maxRecDepth 100000 in
set_option maxHeartbeats 8000000 in
theorem reduc_any {lA cA : Option Addr} {lc cc : Nat} {l : List Dc} {c : List Nat} {n : Int} (hok : LOk l) (h0 : 0 ≤ n) (h1 : n ≤ 1125899906842624) (hc : Cand l c) {w : World} (hr : Rd encDc 10 w w.heap.size lA l) (hrc : Rd encN 1 w w.heap.size cA c) :
    Calls Tryz.prog 140 #[.slice lA l.length lc, .slice cA c.length cc, .int .i64 n] w fun e w' => e = .returned (.int .i64 (red l n c)) ∧ Below w.heap.size w w' := by
  have HR := Lib.hid hr
  have HRC := Lib.hid hrc
  have HOK := Lib.hid hok
  have HC := Lib.hid hc
  have hcl12 := Nat.le_trans hc.len hok.few
  have HL := Lib.hid hcl12
  have HRD : Hid (red l n c = if n < sumA l n c then n else sumA l n c) := Lib.hid rfl
  clear hr hrc hok hc
  generalize red l n c = rd at *
  go_enter Tryz.func140, Tryz.ntmps140
  go_wp2_with fail
  go_loopw [8, 7] (fun sk ss wr => ∃ k : Nat, k ≤ c.length ∧ sk = .int .i64 k ∧ ss = .int .i64 (sumA l n (c.take k)) ∧ Below w.heap.size w wr) (fun sk _ _ => c.length - (RowKit.intOf sk).toNat)
  case atStart => exact ⟨0, Nat.zero_le _, rfl, rfl, Below.refl _ _⟩
  case round =>
    obtain ⟨k, hk, rfl, rfl, hbn⟩ := hrel
    have k1 : (0 : Int) ≤ (k : Int) := by omega
    have HBN := Lib.hid hbn
    by_cases hi : k < c.length
    · have k2 : (k : Int) < (c.length : Int) := by omega
      have HI := Lib.hid hi
      obtain ⟨g, o, hA, hg, hx⟩ := (HRC.out.st hbn).n hi
      have HX := Lib.hid (show c[k]? = some c[k] from List.getElem?_eq_getElem hi)
      generalize c[k] = i at *
      subst hA
      have hil : i < l.length := HC.out.lt i (List.mem_of_getElem? HX.out)
      obtain ⟨lb, lo, x, hA2, hlb, hxl, hc⟩ := (HR.out.st hbn).at_ hil
      subst hA2
      have d0 := hc 0 _ rfl
      have d1 := hc 1 _ rfl
      have d2 := hc 2 _ rfl
      have d3 := hc 3 _ rfl
      have d4 := hc 4 _ rfl
      have d5 := hc 5 _ rfl
      have d6 := hc 6 _ rfl
      have d7 := hc 7 _ rfl
      have d8 := hc 8 _ rfl
      have d9 := hc 9 _ rfl
      simp only [Nat.add_zero] at d0
      have CAM := Lib.hid (fun (X : World) => ramount_any (HOK.out.mem (List.mem_of_getElem? hxl)) h0 h1 X)
      have HS : Hid (sumA l n (c.take (k + 1)) = sumA l n (c.take k) + amtV x n) := Lib.hid (by rw [take_snoc HX.out, sumA_snoc]; unfold amtN; rw [hxl])
      have hab := amtV_bnd (HOK.out.mem (List.mem_of_getElem? hxl)) h0
      have hsb := sumA_bnd HOK.out h0 h1 (c.take k)
      have hlt : (c.take k).length ≤ 12 := by rw [List.length_take]; have := HL.out; omega
      obtain ⟨am, hame⟩ : ∃ am, amtV x n = am := ⟨_, rfl⟩
      obtain ⟨sm, hsm⟩ : ∃ s, sumA l n (c.take k) = s := ⟨_, rfl⟩
      rw [hame] at CAM hab HS
      rw [hsm] at HS hsb ⊢
      have w1 : IntKind.i64.wrap (sm + am) = sm + am := IntWalk.i64_in _ (by omega)
      have i1 : (0 : Int) ≤ (i : Int) := by omega
      have i2 : (i : Int) < (l.length : Int) := by omega
      clear hame hsm hxl hc hlb hbn hi hil hg hab hsb hlt
      go_wp2_with fail
      refine (CAM.out _).mono ?_
      rintro e W3 ⟨rfl, hbn⟩
      have HB3 := Lib.hid (HBN.out.st hbn)
      clear hbn
      go_wp2_with fail
      go_roundw
      case rel => exact ⟨k + 1, HI.out, by go_num, by rw [HS.out], HB3.out⟩
      case measure => have := HI.out; simp [RowKit.intOf]; omega
    · obtain rfl : k = c.length := by omega
      rw [List.take_length] at *
      clear hbn hi
      by_cases hn : n < sumA l n c
      · have R := Lib.hid (HRD.out.trans (if_pos hn))
        generalize sumA l n c = sm at *
        go_wp2_with fail
        go_ret
        rw [R.out]
        exact ⟨rfl, HBN.out⟩
      · have R := Lib.hid (HRD.out.trans (if_neg hn))
        generalize sumA l n c = sm at *
        go_wp2_with fail
        go_ret
        rw [R.out]
        exact ⟨rfl, HBN.out⟩

set_option maxRecDepth 100000 in
set_option maxHeartbeats 4000000 in
theorem before_any {A B : Option Addr} (ca cb : Nat) {a b : List Nat} (hl : a.length = b.length) (hcl : a.length ≤ 1000) {w : World} (ha : Rd encN 1 w w.heap.size A a) (hb : Rd encN 1 w w.heap.size B b) :
    Calls Tryz.prog 141 #[.slice A a.length ca, .slice B b.length cb] w fun e w' => e = .returned (.bool (lexN a b)) ∧ ∃ m, w' = w.drewN m := by
  have HA := Lib.hid ha
  have HB := Lib.hid hb
  have HL := Lib.hid hl
  rw [← hl]
  clear ha hb hl
  generalize hr : lexN a b = r
  have HRR := Lib.hid hr
  clear hr
  go_enter Tryz.func141, Tryz.ntmps141
  go_wp2_with fail
  go_loopw [5] (fun j wr => ∃ k : Nat, k ≤ a.length ∧ j = .int .i64 k ∧ (∃ m, wr = w.drewN m) ∧ a.take k = b.take k) (fun j _ => a.length - (RowKit.intOf j).toNat)
  case atStart => exact ⟨0, Nat.zero_le _, rfl, ⟨0, rfl⟩, by simp⟩
  case round =>
    obtain ⟨k, hk, rfl, ⟨m, rfl⟩, hs⟩ := hrel
    have HS := Lib.hid hs
    clear hs
    have k1 : (0 : Int) ≤ (k : Int) := by omega
    by_cases hi : k < a.length
    · have k2 : (k : Int) < (a.length : Int) := by omega
      have hi2 : k < b.length := by rw [← HL.out]; exact hi
      obtain ⟨g1, o1, rfl, _, hx⟩ := HA.out.n hi
      obtain ⟨g2, o2, rfl, _, hy⟩ := HB.out.n hi2
      have HX := Lib.hid (show a[k]? = some a[k] from List.getElem?_eq_getElem hi)
      have HY := Lib.hid (show b[k]? = some b[k] from List.getElem?_eq_getElem hi2)
      generalize a[k] = x at *
      generalize b[k] = y at *
      have HI := Lib.hid hi
      have k5 : decide (k < a.length) = true := decide_eq_true hi
      have R := Lib.hid ((lexN_same HS.out).trans (by rw [drop_at HX.out, drop_at HY.out]))
      clear hi hi2
      by_cases hxy : x = y
      · have HXY := Lib.hid hxy
        have q1 : ((x : Int) != (y : Int)) = false := by simp [hxy]
        clear hxy
        go_wp2_with fail
        go_quiet (fail)
        go_wp2_with fail
        go_roundw
        case rel => exact ⟨k + 1, HI.out, by go_num, ⟨_, rfl⟩, by rw [take_snoc HX.out, take_snoc HY.out, HS.out, HXY.out]⟩
        case measure => have := HI.out; simp [RowKit.intOf]; omega
      · have q1 : ((x : Int) != (y : Int)) = true := by simp; omega
        have R2 := Lib.hid ((HRR.out.symm.trans R.out).trans (show _ = decide ((x : Int) < (y : Int)) by simp [lexN, hxy]))
        clear hxy R
        go_wp2_with fail
        go_quiet (fail)
        go_wp2_with fail
        go_quiet (fail)
        go_wp2_with fail
        go_ret
        rw [R2.out]
        exact ⟨ret_bool (by first | rfl | simp), _, (drewn2 (w.drewN m) _ _).trans (drewn2 w _ _)⟩
    · obtain rfl : k = a.length := by omega
      have R := Lib.hid (show r = false by rw [← HRR.out]; have h := HS.out; rw [List.take_length, HL.out, List.take_length] at h; rw [h]; exact lexN_irr b)
      clear HS
      go_wp2_with fail
      go_ret
      rw [R.out]
      exact ⟨ret_bool (by first | rfl | simp), _, rfl⟩
end Go.Proofs.YtcpfiiapfggmpaaGreat
