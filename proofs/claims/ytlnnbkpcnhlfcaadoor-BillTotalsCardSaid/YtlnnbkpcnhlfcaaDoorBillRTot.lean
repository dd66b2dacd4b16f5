/- The reference's Total, walked. -/
import Derived.Test.YtlnnbkpcnhlfcaaDoorJBillTot
import Derived.BigQuiet
set_option linter.unusedSimpArgs false
namespace Go.Proofs.YtlnnbkpcnhlfcaaDoor
open Go.RowKit Go.Lib

theorem rvalid4_any (f t : Int) (w : World) :
    Calls Tryd.prog 47 #[.agg #[.int .i64 f, .int .i64 t]] w fun e w' => e = .returned (.bool (validB f t)) ∧ w.alloc (.cells #[.int .i64 f, .int .i64 t] 68) = w' := by
  unfold validB
  go_enter Tryd.func47, Tryd.ntmps47
  go_wp2
  all_goals (go_ret; exact ⟨ret_bool (by rw [Bool.eq_iff_iff]; simp; omega), rfl⟩)

set_option maxRecDepth 100000 in
set_option maxHeartbeats 2000000 in
theorem rtot_any {aA cA A : Option Addr} {acs : List Ac} {caps : List Cp} {l : List Cg} (ac cc c : Nat) (nm : ByteArray) (f t : Int) {w : World} (h : BLO w aA ac acs cA caps A l) :
    Calls Tryd.prog 23 #[.agg #[.slice none 0 0, .slice none 0 0, .slice none 0 0, .slice none 0 0, .slice none 0 0, .slice none 0 0, .int .i64 0, .int .i64 0, .slice none 0 0, .int .i64 0, .slice none 0 0, .slice none 0 0, .slice none 0 0, .slice none 0 0, .slice cA caps.length cc, .slice none 0 0, .slice none 0 0, .slice aA acs.length ac, .slice none 0 0, .slice none 0 0, .slice none 0 0, .slice none 0 0, .int .i64 0, .slice none 0 0, .string ⟨#[]⟩], .string nm, .slice A l.length c, .agg #[.int .i64 f, .int .i64 t]] w fun e w' => e = .returned (.tuple #[.int .i64 (totV (vals acs) nm (cvs l) f t), .int .i64 (totE (vals acs) nm (cvs l) f t)]) ∧ Below w.heap.size w w' := by
  have H := Lib.hid h
  obtain ⟨Y1, hY1⟩ : ∃ Y, w.alloc (.cells #[.slice none 0 0, .slice none 0 0, .slice none 0 0, .slice none 0 0, .slice none 0 0, .slice none 0 0, .int .i64 0, .int .i64 0, .slice none 0 0, .int .i64 0, .slice none 0 0, .slice none 0 0, .slice none 0 0, .slice none 0 0, .slice cA caps.length cc, .slice none 0 0, .slice none 0 0, .slice aA acs.length ac, .slice none 0 0, .slice none 0 0, .slice none 0 0, .slice none 0 0, .int .i64 0, .slice none 0 0, .string ⟨#[]⟩] 62) = Y := ⟨_, rfl⟩
  obtain ⟨Y2, hY2⟩ : ∃ Y, Y1.alloc (.cells #[.int .i64 f, .int .i64 t] 68) = Y := ⟨_, rfl⟩
  have s1 : Y1.heap.size = w.heap.size + 1 := by rw [← hY1]; simp
  have s2 : Y2.heap.size = w.heap.size + 1 + 1 := by rw [← hY2, ← s1]; simp
  have BC : Blk Y2 w.heap.size #[.slice none 0 0, .slice none 0 0, .slice none 0 0, .slice none 0 0, .slice none 0 0, .slice none 0 0, .int .i64 0, .int .i64 0, .slice none 0 0, .int .i64 0, .slice none 0 0, .slice none 0 0, .slice none 0 0, .slice none 0 0, .slice cA caps.length cc, .slice none 0 0, .slice none 0 0, .slice aA acs.length ac, .slice none 0 0, .slice none 0 0, .slice none 0 0, .slice none 0 0, .int .i64 0, .slice none 0 0, .string ⟨#[]⟩] 62 := by rw [← hY2, ← hY1]; exact (Blk.new w _ _).alloc _
  have BI : Blk Y2 (w.heap.size + 1) #[.int .i64 f, .int .i64 t] 68 := by rw [← hY2, ← s1]; exact Blk.new Y1 _ _
  have bW : Below w.heap.size w Y2 := by rw [← hY2, ← hY1]; exact ((Below.refl _ w).al _).al _
  have g17 := BC.cell 17 (v := .slice aA acs.length ac) rfl
  have CF := Lib.hid (rFind_any ac nm (h.al.st bW) h.sm)
  have HZ : Hid (totV (vals acs) nm (cvs l) f t = if ((vals acs).find? (named nm)).isSome = false then 0 else if validB f t = false then 0 else sumV (totL (ofL (vals acs) nm (cvs l)) f t)) := Lib.hid rfl
  have HE : Hid (totE (vals acs) nm (cvs l) f t = if ((vals acs).find? (named nm)).isSome = false then 25 else if validB f t = false then 12 else sumE (totL (ofL (vals acs) nm (cvs l)) f t)) := Lib.hid rfl
  generalize totV (vals acs) nm (cvs l) f t = rv at *
  generalize totE (vals acs) nm (cvs l) f t = re at *
  clear h
  go_enter Tryd.func23, Tryd.ntmps23
  go_wp2_with fail
  refine CF.out.mono ?_
  rintro e w3 ⟨ab, rfl, -, hab, hbn⟩
  generalize ((vals acs).find? (named nm)).isSome = ok at *
  simp only [AcV]
  have bW3 := bW.st hbn
  have BC := BC.below hbn BC.lt
  have BI := BI.below hbn BI.lt
  have sz3 := hbn.size
  clear CF hbn g17 hY1 hY2 bW
  obtain ⟨Y4, hY4⟩ : ∃ Y, w3.alloc (.cells #[.string ab.v.name, .string ab.v.ag, .bool ab.v.pre, .slice ab.oA ab.v.os.length ab.oc, .int .i64 ab.v.r0, .int .i64 ab.v.r1, .int .i64 ab.v.r2, .int .i64 ab.v.r3, .bool ab.v.ex] 91) = Y := ⟨_, rfl⟩
  have b4 : Below w3.heap.size w3 Y4 := by rw [← hY4]; exact (Below.refl _ w3).al _
  have bW4 := bW3.st b4
  have BC := BC.below b4 BC.lt
  have BI := BI.below b4 BI.lt
  have sz4 := b4.size
  cases ok
  · have HZ := Lib.hid (HZ.out.trans (if_pos rfl))
    have HE := Lib.hid (HE.out.trans (if_pos rfl))
    go_wp2_with fail
    go_ret2
    exact ⟨by rw [HZ.out, HE.out]; rfl, bW4⟩
  · have HZ := Lib.hid (HZ.out.trans (if_neg (by simp)))
    have HE := Lib.hid (HE.out.trans (if_neg (by simp)))
    have i0 := BI.cell 0 (v := .int .i64 f) rfl
    have i1 := BI.cell 1 (v := .int .i64 t) rfl
    have CV := Lib.hid (rvalid4_any f t)
    obtain ⟨Y5, hY5⟩ : ∃ Y, Y4.alloc (.cells #[.int .i64 f, .int .i64 t] 68) = Y := ⟨_, rfl⟩
    have b5 : Below Y4.heap.size Y4 Y5 := by rw [← hY5]; exact (Below.refl _ Y4).al _
    have bW5 := bW4.st b5
    have BC := BC.below b5 BC.lt
    have BI := BI.below b5 BI.lt
    have sz5 := b5.size
    cases hv : validB f t
    · rw [hv] at CV HZ HE
      have HZ := Lib.hid (HZ.out.trans (if_pos rfl))
      have HE := Lib.hid (HE.out.trans (if_pos rfl))
      go_wp2_with (go_at_call 47; with_reducible refine (CV.out _).mono ?_; rintro e w' ⟨rfl, rfl⟩)
      go_ret2
      exact ⟨by rw [HZ.out, HE.out]; rfl, by first | exact bW5 | (rw [hY5]; exact bW5)⟩
    · rw [hv] at CV HZ HE
      have HZ := Lib.hid (HZ.out.trans (if_neg (by simp)))
      have HE := Lib.hid (HE.out.trans (if_neg (by simp)))
      have i0 := BI.cell 0 (v := .int .i64 f) rfl
      have i1 := BI.cell 1 (v := .int .i64 t) rfl
      have CO := Lib.hid (rof_any ac cc c nm (H.out.st bW5))
      clear hv
      go_wp2_with (first | (go_at_call 47; with_reducible refine (CV.out _).mono ?_; rintro e w' ⟨rfl, rfl⟩; rw [hY5]) | (refine wpList_boxLoad rfl (ty := 62) (x := .tmp 4) (cs := #[.slice none 0 0, .slice none 0 0, .slice none 0 0, .slice none 0 0, .slice none 0 0, .slice none 0 0, .int .i64 0, .int .i64 0, .slice none 0 0, .int .i64 0, .slice none 0 0, .slice none 0 0, .slice none 0 0, .slice none 0 0, .slice cA caps.length cc, .slice none 0 0, .slice none 0 0, .slice aA acs.length ac, .slice none 0 0, .slice none 0 0, .slice none 0 0, .slice none 0 0, .int .i64 0, .slice none 0 0, .string ⟨#[]⟩]) rfl BC rfl ⟨_, Tryd.underlying62, by kernel_rfl⟩ ?_))
      refine CO.out.mono ?_
      rintro e w6 ⟨A6, c6, r, rfl, hrv, hown, -, hbn⟩
      have HR := Lib.hid (hown.rd encCg_ok)
      have HRV := Lib.hid hrv
      have HOF := Lib.hid (ofL_len (vals acs) nm (cvs l))
      have hrl : r.length ≤ 1000 := by have := HOF.out; rw [← hrv, cvs_len, cvs_len] at this; exact Nat.le_trans this H.out.cll
      have bW6 := bW5.st hbn
      have BI := BI.below hbn BI.lt
      have HBI := Lib.hid BI
      have hsz6 : w.heap.size + 1 < w6.heap.size := BI.lt
      clear CO CV hbn hown hrv BC BI i0 i1 hY5 hY4 b4 b5 bW3 bW4 bW5
      go_wp2_with fail
      go_loopw [12, 14] (fun o i wr => ∃ (k : Nat) (q : List Int) (A' : Option Addr) (c' : Nat), k ≤ r.length ∧ i = .int .i64 k ∧ o = .slice A' q.length c' ∧ Hid (q.length ≤ k) ∧ Hid (q = totL ((cvs r).take k) f t) ∧ Own 3 encI 1 wr w6.heap.size A' c' q ∧ Below w6.heap.size w6 wr) (fun _ i _ => r.length - (RowKit.intOf i).toNat)
      case atStart => exact ⟨0, [], none, 0, Nat.zero_le _, rfl, rfl, (by unfold Hid; simp), Lib.hid (by simp [totL]), Own.nil _ _, Below.refl _ _⟩
      case round =>
        obtain ⟨k, q, A', c', hk, rfl, rfl, HQL, HQ, hown, bY⟩ := hrel
        by_cases hi : k < r.length
        · obtain ⟨b, off, x, rfl, hb, hx, d0, d1, d2, d3, d4, d5, d6⟩ := (HR.out.st bY).cg hi
          have HK := Lib.hid hi
          have HT := Lib.hid (totL_tk (f := f) (t := t) (cvs_at hx))
          obtain ⟨⟨key, veh, sys, cls, tm, lns, cn⟩, lA, lc⟩ := x
          simp only at *
          have hsz7 : w6.heap.size ≤ wr.heap.size := bY.size
          have BI := HBI.out.below bY HBI.out.lt
          have i0 := BI.cell 0 (v := .int .i64 f) rfl
          have i1 := BI.cell 1 (v := .int .i64 t) rfl
          have hql : q.length ≤ 1000 := by have := HQL.out; omega
          have HIS : Hid (inT f t (⟨key, veh, sys, cls, tm, lns, cn⟩ : CV) = (decide (f ≤ tm) && decide (tm < t))) := Lib.hid rfl
          have k1 : (0 : Int) ≤ (k : Int) := by omega
          have k2 : (k : Int) < (r.length : Int) := by omega
          have HIR := Lib.hid BI
          clear hx hb
          by_cases q1 : f ≤ tm
          · have q1d : decide (f ≤ tm) = true := decide_eq_true q1
            by_cases q2 : tm < t
            · have q2d : decide (tm < t) = true := decide_eq_true q2
              have R : Hid (q ++ [cn] = totL ((cvs r).take (k + 1)) f t) := Lib.hid (by rw [HT.out, HIS.out, ← HQ.out, q1d, q2d]; rfl)
              clear HT HQ HIS
              go_wp2_with fail
              go_quiet (fail)
              have hownD := hown.drewN nq
              have bYD : Below w6.heap.size w6 (wr.drewN nq) := below_drewN bY _
              have d6D : World.cell? (wr.drewN nq) ⟨b, off + k * 7 + 6, none⟩ = some (.int .i64 cn) := d6
              clear hown bY d0 d1 d2 d3 d4 d5 d6 i0 i1 HIR BI
              go_wp2_with (at_builtin; refine wpList_app1b rfl (.tmp 55) (.tmp 61) tyI encI_ok rfl (cn : Int) rfl _ rfl (by simp) hownD rfl (by first | rfl | simp) (by first | omega | (simp; omega)) (by first | omega | (simp; omega)) (by first | exact bYD.size | (have := bYD.size; omega)) ?_; intro A8 c8 w8 hown8 hb8 hs8 hf8; have hbel8 := bYD.trans hb8)
              clear hownD hb8 hf8
              go_wp2_with fail
              go_roundw
              case rel => exact ⟨k + 1, q ++ [cn], A8, c8, HK.out, by go_num, by simp, Lib.hid (by have := HQL.out; simp; omega), R, hown8, hbel8⟩
              case measure => have := HK.out; simp [RowKit.intOf]; omega
            · have q2d : decide (tm < t) = false := decide_eq_false q2
              have R : Hid (q = totL ((cvs r).take (k + 1)) f t) := Lib.hid (by rw [HT.out, HIS.out, ← HQ.out, q2d]; simp)
              clear HT HQ HIS
              go_wp2_with fail
              go_quiet (fail)
              go_wp2_with fail
              go_roundw
              case rel => exact ⟨k + 1, q, _, _, HK.out, by go_num, rfl, Lib.hid (by have := HQL.out; omega), R, hown, below_drewN bY _⟩
              case measure => have := HK.out; simp [RowKit.intOf]; omega
          · have q1d : decide (f ≤ tm) = false := decide_eq_false q1
            have R : Hid (q = totL ((cvs r).take (k + 1)) f t) := Lib.hid (by rw [HT.out, HIS.out, ← HQ.out, q1d]; simp)
            clear HT HQ HIS
            go_wp2_with fail
            go_quiet (fail)
            go_wp2_with fail
            go_roundw
            case rel => exact ⟨k + 1, q, _, _, HK.out, by go_num, rfl, Lib.hid (by have := HQL.out; omega), R, hown, below_drewN bY _⟩
            case measure => have := HK.out; simp [RowKit.intOf]; omega
        · obtain rfl : k = r.length := by omega
          have R : q = totL (ofL (vals acs) nm (cvs l)) f t := by rw [HQ.out, List.take_of_length_le (Nat.le_of_eq (cvs_len r)), HRV.out]
          rw [← R] at HZ HE
          have CS := Lib.hid (rsumx_any c' (hown.rd encI_ok) (by have := HQL.out; omega))
          have bW9 := bW6.st bY
          clear HQ R
          generalize sumV q = sv at *
          generalize sumE q = se at *
          go_wp2_with fail
          refine CS.out.mono ?_
          rintro e w9 ⟨rfl, hbn⟩
          go_wp2_with fail
          go_ret2
          exact ⟨by rw [HZ.out, HE.out]; rfl, bW9.st hbn⟩
end Go.Proofs.YtlnnbkpcnhlfcaaDoor
