/- The law BillSums, walked. -/
import Derived.Test.YtlnnbkpcnhlfcaaDoorBillAwake
import Derived.Test.YtlnnbkpcnhlfcaaDoorJMSortOwn
import Derived.Test.YtlnnbkpcnhlfcaaDoorBillSumsM
import Derived.BigQuiet
set_option linter.unusedSimpArgs false
namespace Go.Proofs.YtlnnbkpcnhlfcaaDoor
open Go.RowKit Go.Lib

theorem tk_bsC {l : List CV} {k : Nat} {x : CV} (h : ∀ y ∈ l.take k, BsC y) (hx : l[k]? = some x) (hp : BsC x) : ∀ y ∈ l.take (k + 1), BsC y := by
  intro y hy
  rw [take_snoc hx] at hy
  rcases List.mem_append.1 hy with q | q
  · exact h y q
  · rw [List.mem_singleton] at q; subst q; exact hp
theorem bs_ct_snoc {l : List CV} {k : Nat} {x : CV} (hx : l[k]? = some x) : ((l.take (k + 1)).map fun x => x.ct).sum = ((l.take k).map fun x => x.ct).sum + x.ct := by
  rw [take_snoc hx, List.map_append, List.sum_append]; simp
theorem bs_mem_tk {l : List Int} {k : Nat} {x d : Int} (hx : l[k]? = some x) : decide (d ∈ l.take (k + 1)) = (decide (d ∈ l.take k) || decide (x = d)) := by
  rw [take_snoc hx, Bool.eq_iff_iff]
  simp only [decide_eq_true_eq, List.mem_append, List.mem_singleton, Bool.or_eq_true]
  constructor
  · rintro (q | q)
    · exact .inl q
    · exact .inr q.symm
  · rintro (q | q)
    · exact .inl q
    · exact .inr q.symm

set_option maxRecDepth 100000 in
set_option maxHeartbeats 8000000 in
theorem billSums_walk {A : Option Addr} (c : Nat) {l : List Cg} {w : World} (hr : Rd encCg 7 w w.heap.size A l) (hll : l.length ≤ 9223372036854775807) (hm : Mon w) :
    Calls Tryd.prog 11 #[.slice A l.length c] w fun e w' => e = .returned (.bool true) ∧ Below w.heap.size w w' := by
  have HR := Lib.hid hr
  have HM := Lib.hid hm
  have bW := Below.refl w.heap.size w
  clear hr hm
  go_enter Tryd.func11, Tryd.ntmps11
  by_cases q1 : 30 < (l.length : Int)
  · go_wp2_with fail; refine (awake_any (HM.out.st bW HM.out.1)).mono ?_; rintro e wl ⟨rfl, hbl⟩; have bL := bW.st hbl; go_wp2_with fail; go_ret; exact ⟨rfl, bL⟩
  have hl30 : l.length ≤ 30 := by omega
  go_wp2_with fail
  go_loopw [3, 4] (fun s i wr => ∃ k : Nat, k ≤ l.length ∧ i = .int .i64 k ∧ s = .int .i64 (((cvs l).take k).map fun x => x.ct).sum ∧ Hid (∀ x ∈ (cvs l).take k, BsC x) ∧ Below w.heap.size w wr) (fun _ i _ => l.length - (RowKit.intOf i).toNat)
  case atStart => exact ⟨0, Nat.zero_le _, rfl, by simp, Lib.hid (by simp), bW⟩
  case round =>
    clear bW
    obtain ⟨k, hk, rfl, rfl, HS, bY⟩ := hrel
    by_cases hi : k < l.length
    · have k1 : (0 : Int) ≤ (k : Int) := by omega
      have k2 : (k : Int) < (l.length : Int) := by omega
      obtain ⟨b, off, x, hA, hb, hx, d0, d1, d2, d3, d4, d5, d6⟩ := (HR.out.st bY).cg hi
      subst hA
      have HK := Lib.hid hi
      have HX := Lib.hid (cvs_at hx)
      have hsb := bs_ctS_bnd HS.out (by rw [List.length_take]; omega)
      have HT := Lib.hid (bs_ct_snoc (cvs_at hx))
      generalize (((cvs l).take k).map fun x => x.ct).sum = S at *
      obtain ⟨⟨key, veh, sys, cls, tm, lns, cn⟩, lA, lc⟩ := x
      simp only at *
      obtain ⟨Y2, hY2⟩ : ∃ Y, wr.alloc (.cells #[.string key, .string veh, .string sys, .int .i64 cls, .int .i64 tm, .slice lA lns.length lc, .int .i64 cn] 82) = Y := ⟨_, rfl⟩
      have BX : Blk Y2 wr.heap.size #[.string key, .string veh, .string sys, .int .i64 cls, .int .i64 tm, .slice lA lns.length lc, .int .i64 cn] 82 := by rw [← hY2]; exact Blk.new wr _ _
      have b2 : Below wr.heap.size wr Y2 := by rw [← hY2]; exact (Below.refl _ wr).al _
      have bW := bY.st b2
      have x4 := BX.cell 4 (v := .int .i64 tm) rfl
      have x6 := BX.cell 6 (v := .int .i64 cn) rfl
      clear hx hi hb b2 bY
      by_cases p1 : tm < 0
      · go_wp2_with fail; refine (awake_any (HM.out.st bW HM.out.1)).mono ?_; rintro e wl ⟨rfl, hbl⟩; have bL := bW.st hbl; go_wp2_with fail; go_ret; exact ⟨rfl, bL⟩
      by_cases p2 : 68719476736 ≤ tm
      · go_wp2_with fail; refine (awake_any (HM.out.st bW HM.out.1)).mono ?_; rintro e wl ⟨rfl, hbl⟩; have bL := bW.st hbl; go_wp2_with fail; go_ret; exact ⟨rfl, bL⟩
      by_cases p3 : cn < -1125899906842624
      · go_wp2_with fail; refine (awake_any (HM.out.st bW HM.out.1)).mono ?_; rintro e wl ⟨rfl, hbl⟩; have bL := bW.st hbl; go_wp2_with fail; go_ret; exact ⟨rfl, bL⟩
      by_cases p4 : 1125899906842624 < cn
      · go_wp2_with fail; refine (awake_any (HM.out.st bW HM.out.1)).mono ?_; rintro e wl ⟨rfl, hbl⟩; have bL := bW.st hbl; go_wp2_with fail; go_ret; exact ⟨rfl, bL⟩
      have HS2 := Lib.hid (tk_bsC HS.out HX.out ⟨by show (0 : Int) ≤ tm; omega, by show tm < 68719476736; omega, by show -1125899906842624 ≤ cn; omega, by show cn ≤ 1125899906842624; omega⟩)
      have hadd : IntKind.i64.wrap (S + cn) = S + cn := IntWalk.i64_in _ (by omega)
      clear HS HX
      go_wp2_with fail
      go_roundw
      case rel => exact ⟨k + 1, HK.out, by go_num, by rw [HT.out], HS2, bW⟩
      case measure => have := HK.out; simp [RowKit.intOf]; omega
    · obtain rfl : k = l.length := by omega
      have HSA : Hid (∀ x ∈ cvs l, BsC x) := Lib.hid (by have := HS.out; rwa [← cvs_len l, List.take_length] at this)
      have e1 : (cvs l).take l.length = cvs l := by rw [← cvs_len l, List.take_length]
      rw [e1]
      have hcl : (cvs l).length ≤ 30 := by rw [cvs_len]; exact hl30
      have hsb := bs_ctS_bnd HSA.out hcl
      have HTT : Hid (∀ T : Int, T = ((cvs l).map fun x => x.ct).sum → T = ((cvs l).map fun x => x.ct).sum) := Lib.hid (fun _ h => h)
      clear HS e1 HTT
      have C1 := Lib.hid (days_any c (HR.out.st bY) hl30)
      obtain ⟨S0, hS0⟩ : ∃ S0, S0 = ((cvs l).map fun x => x.ct).sum := ⟨_, rfl⟩
      rw [← hS0] at hsb ⊢
      have HS0 := Lib.hid hS0
      clear hS0
      go_wp2_with fail
      refine C1.out.mono ?_
      rintro e W1 ⟨A1, c1, A2, c2, ds, ss, rfl, hD, o1, o2, b1⟩
      have F := bs_sum_facts HSA.out hD
      have bW := bY.st b1
      have HF := Lib.hid F
      have hls : ss.length = ds.length := F.len.symm
      have hdl : ds.length ≤ l.length := by have := F.few; rwa [cvs_len] at this
      rw [hls]
      have HLS := Lib.hid hls
      have R1 := Lib.hid (o1.rd encI_ok)
      have R2 := Lib.hid (o2.rd encI_ok)
      have e2 : ((ds.length : Int) != (ds.length : Int)) = false := by simp
      have e3 : ¬ ((l.length : Int) < (ds.length : Int)) := by omega
      have e3d : decide ((l.length : Int) < (ds.length : Int)) = false := decide_eq_false e3
      have e3n : decide (l.length < ds.length) = false := decide_eq_false (by omega)
      clear C1 hD o1 o2 F hls b1 bY
      go_wp2_with fail
      go_loopw [3, 8] (fun s i wr => ∃ (k : Nat) (S : Int), k ≤ ds.length ∧ i = .int .i64 k ∧ s = .int .i64 S ∧ Hid (S = S0 - (ss.take k).sum) ∧ Below W1.heap.size W1 wr) (fun _ i _ => ds.length - (RowKit.intOf i).toNat)
      case atStart => exact ⟨0, S0, Nat.zero_le _, rfl, rfl, Lib.hid (by simp), Below.refl _ _⟩
      case round =>
        obtain ⟨k, S, hk, rfl, rfl, HSS, bR⟩ := hrel
        have hpb := HF.out.part hcl k
        have hS := HSS.out
        have hSb : -2000000000000000000 ≤ S ∧ S ≤ 2000000000000000000 := by omega
        clear hS hpb
        by_cases hi : k < ds.length
        · have k1 : (0 : Int) ≤ (k : Int) := by omega
          have k2 : (k : Int) < (ds.length : Int) := by omega
          obtain ⟨bs, os, z, hAs, hbs, hz, gz⟩ := (R2.out.st bR).i (i := k) (by rw [HLS.out]; exact hi)
          obtain ⟨bd, od, y, hAd, hbd, hy, gy⟩ := (R1.out.st bR).i (i := k) hi
          subst hAs
          subst hAd
          have hzb := HF.out.one hcl hz
          have HN : Hid (S - z = S0 - (ss.take (k + 1)).sum) := Lib.hid (by rw [bs_take_sum hz, HSS.out]; omega)
          have hw1 : IntKind.i64.wrap (S - z) = S - z := IntWalk.i64_in _ (by omega)
          have HG := Lib.hid (fun (X : World) (hX : Below wr.heap.size wr X) => (hX.cell (p := ⟨bs, os + k, none⟩) hbs).trans gz)
          have HI := Lib.hid hi
          by_cases h0 : k = 0
          · have hn0 : ¬ (0 < k) := by omega
            have hn0d : decide (0 < k) = false := decide_eq_false hn0
            have hn0z : decide ((0 : Int) < (k : Int)) = false := decide_eq_false (by omega)
            have hn0y : decide ((k : Int) > 0) = false := decide_eq_false (by omega)
            clear h0 hz hy gz gy hbs hbd hi
            go_wp2_with fail
            go_quiet (fail)
            have gz := HG.out (wr.drewN nq) (below_drewN (Below.refl _ _) nq)
            have bR := below_drewN bR nq
            generalize wr.drewN nq = w4 at gz bR ⊢
            go_wp2_with fail
            go_roundw
            case rel => exact ⟨k + 1, S - z, HI.out, by go_num, rfl, HN, bR⟩
            case measure => have := HI.out; simp [RowKit.intOf]; omega
          · obtain ⟨m, hm⟩ : ∃ m, m + 1 = k := ⟨k - 1, by omega⟩
            obtain ⟨bd2, od2, x, hAd2, hbd2, hx, gx⟩ := (R1.out.st bR).i (i := m) (by omega)
            injection hAd2 with hAd2
            injection hAd2 with q1' q2' 
            subst q1'
            subst q2'
            have hlt := HF.out.asc m x y hx (by rw [hm]; exact hy)
            have hn0 : 0 < k := by omega
            have hn0z : decide ((0 : Int) < (k : Int)) = true := decide_eq_true (by omega)
            have hn0y : decide ((k : Int) > 0) = true := decide_eq_true (by omega)
            have hwm : IntKind.i64.wrap ((k : Int) - 1) = (m : Int) := by rw [show (k : Int) - 1 = (m : Int) by omega]; exact IntWalk.i64_in _ (by omega)
            have m1 : (0 : Int) ≤ (m : Int) := by omega
            have m2 : (m : Int) < (ds.length : Int) := by omega
            have hle : decide (y ≤ x) = false := decide_eq_false (by omega)
            have hle2 : ¬ y ≤ x := by omega
            clear h0 hz hy hx gz hbs hbd hbd2 hi hlt hm
            go_wp2_with fail
            go_quiet (fail)
            have gz := HG.out (wr.drewN nq) (below_drewN (Below.refl _ _) nq)
            have bR := below_drewN bR nq
            generalize wr.drewN nq = w4 at gz bR ⊢
            go_wp2_with fail
            go_roundw
            case rel => exact ⟨k + 1, S - z, HI.out, by go_num, rfl, HN, bR⟩
            case measure => have := HI.out; simp [RowKit.intOf]; omega
        · obtain rfl : k = ds.length := by omega
          have hS0 : S = 0 := by
            rw [HSS.out, ← HLS.out, List.take_length, HF.out.tot, HS0.out]; omega
          subst hS0
          have bW2 := bW.st bR
          have R1b := Lib.hid (R1.out.st bR)
          have HRb := Lib.hid (HR.out.st bW2)
          clear R1 R2 HSS bR hi hk hsb hSb HLS e3 e2
          obtain ⟨W2, hW2⟩ : ∃ W2, W2 = wr := ⟨_, rfl⟩
          rw [← hW2] at bW2 R1b HRb ⊢
          clear hW2 wr
          go_wp2_with fail
          go_loopw [9] (fun i wr => ∃ k : Nat, k ≤ l.length ∧ i = .int .i64 k ∧ Below W2.heap.size W2 wr) (fun i _ => l.length - (RowKit.intOf i).toNat)
          case atStart => exact ⟨0, Nat.zero_le _, rfl, Below.refl _ _⟩
          case round =>
            obtain ⟨k, hk, rfl, bR⟩ := hrel
            by_cases hi : k < l.length
            · have k1 : (0 : Int) ≤ (k : Int) := by omega
              have k2 : (k : Int) < (l.length : Int) := by omega
              obtain ⟨b, off, x, hA, hb, hx, -, -, -, -, d4, -, -⟩ := HRb.out.cg hi
              subst hA
              have hmem := HF.out.mem x.c (List.mem_of_getElem? (cvs_at hx))
              have hsm := HSA.out x.c (List.mem_of_getElem? (cvs_at hx))
              obtain ⟨⟨key, veh, sys, cls, tm, lns, cn⟩, lA, lc⟩ := x
              simp only at hmem hsm d4
              have t0 : 0 ≤ tm := hsm.1
              obtain ⟨d, hd⟩ : ∃ d, tm / 86400 = d := ⟨_, rfl⟩
              rw [hd] at hmem
              have hdv : tm.tdiv 86400 = d := by rw [← hd, Int.tdiv_eq_ediv_of_nonneg t0]
              have t1 : tm < 68719476736 := hsm.2.1
              have hdw : IntKind.i64.wrap d = d := IntWalk.i64_in _ (by rw [← hd]; omega)
              have HM2 := Lib.hid hmem
              have HI := Lib.hid hi
              have HD4 := Lib.hid (fun (X : World) (hX : Below W2.heap.size W2 X) => (hX.cell (p := ⟨b, off + k * 7 + 4, none⟩) hb).trans d4)
              clear hx hmem hsm hi d4 hb hd t1
              obtain ⟨W3, hW3⟩ : ∃ W3, W3 = wr := ⟨_, rfl⟩
              rw [← hW3] at bR ⊢
              clear hW3 wr
              go_wp2_with fail
              go_loopw [10, 11] (fun f i wr => ∃ m : Nat, m ≤ ds.length ∧ i = .int .i64 m ∧ f = .bool (decide (d ∈ ds.take m)) ∧ Below W2.heap.size W2 wr) (fun _ i _ => ds.length - (RowKit.intOf i).toNat)
              case atStart => exact ⟨0, Nat.zero_le _, rfl, by simp, bR⟩
              case round =>
                clear bR
                obtain ⟨m, hm, rfl, rfl, bR⟩ := hrel
                by_cases hj : m < ds.length
                · have m1 : (0 : Int) ≤ (m : Int) := by omega
                  have m2 : (m : Int) < (ds.length : Int) := by omega
                  obtain ⟨bd, od, y, hAd, hbd, hy, gy⟩ := R1b.out.i (i := m) hj
                  subst hAd
                  have gy := (bR.cell (p := ⟨bd, od + m, none⟩) hbd).trans gy
                  have d4 := HD4.out wr bR
                  have HT := Lib.hid (bs_mem_tk (d := d) hy)
                  have HJ := Lib.hid hj
                  generalize decide (d ∈ ds.take m) = fb at *
                  clear hj hy hbd hm
                  cases fb
                  · by_cases hyd : y = d
                    · have HV : Hid (decide (d ∈ ds.take (m + 1)) = true) := Lib.hid (by rw [HT.out, decide_eq_true hyd]; rfl)
                      have hq : (y == d) = true := by simp [hyd]
                      clear hyd HT
                      go_wp2_with fail
                      go_quiet (fail)
                      go_wp2_with fail
                      go_roundw
                      case rel => exact ⟨m + 1, HJ.out, by go_num, by rw [HV.out], below_drewN bR _⟩
                      case measure => have := HJ.out; simp [RowKit.intOf]; omega
                    · have HV : Hid (decide (d ∈ ds.take (m + 1)) = false) := Lib.hid (by rw [HT.out, decide_eq_false hyd]; rfl)
                      have hq : (y == d) = false := by simp [hyd]
                      clear hyd HT
                      go_wp2_with fail
                      go_quiet (fail)
                      go_wp2_with fail
                      go_roundw
                      case rel => exact ⟨m + 1, HJ.out, by go_num, by rw [HV.out], below_drewN bR _⟩
                      case measure => have := HJ.out; simp [RowKit.intOf]; omega
                  · have HV : Hid (decide (d ∈ ds.take (m + 1)) = true) := Lib.hid (by rw [HT.out]; rfl)
                    clear HT
                    go_wp2_with fail
                    go_quiet (fail)
                    go_wp2_with fail
                    go_roundw
                    case rel => exact ⟨m + 1, HJ.out, by go_num, by rw [HV.out], below_drewN bR _⟩
                    case measure => have := HJ.out; simp [RowKit.intOf]; omega
                · obtain rfl : m = ds.length := by omega
                  have e9 : decide (d ∈ ds.take ds.length) = true := by rw [List.take_length]; exact decide_eq_true HM2.out
                  rw [e9]
                  clear e9 HM2 HD4 hj hm
                  go_wp2_with fail
                  go_roundw
                  case rel => exact ⟨k + 1, HI.out, by go_num, bR⟩
                  case measure => have := HI.out; simp [RowKit.intOf]; omega
            · have bW := bW2.st bR
              go_wp2_with fail
              refine (awake_any (HM.out.st bW HM.out.1)).mono ?_
              rintro e W5 ⟨rfl, b5⟩
              have bW := bW.st b5
              go_wp2_with fail
              go_ret
              exact ⟨rfl, bW⟩
end Go.Proofs.YtlnnbkpcnhlfcaaDoor
