/- The small functions of chapter 45's statements: few, modest, sum. -/
import Derived.Test.YtekdppnlgkfcdaaJRelEnc
import Derived.BigQuiet
import Derived.IntWalk
namespace Go.Proofs.Ytekdppnlgkfcdaa
open Go.RowKit Go.Lib

def FOk (dvs : List Dv) (rls : List Iv) (sts : List St) : Prop := dvs.length ≤ 10 ∧ (∀ d ∈ dvs, d.ds.length ≤ 8) ∧ rls.length ≤ 14 ∧ sts.length ≤ 8
theorem FOk.small {dvs : List Dv} {rls : List Iv} {sts : List St} (g : FOk dvs rls sts) (hos : ∀ d ∈ dvs, d.os.length ≤ 8796093022208) : ∀ d ∈ dvs, smallD d := fun d hd => ⟨hos d hd, by have := g.2.1 d hd; omega⟩
def FewR (dvs : List Dv) (rls : List Iv) (sts : List St) (w w' : World) (e : Ending) : Prop := ∃ b : Bool, e = .returned (.bool b) ∧ (b = true → FOk dvs rls sts) ∧ Below w.heap.size w w'
def MOk (c : CV) : Prop := c.lns.length ≤ 8 ∧ ∀ x ∈ c.lns, -1125899906842624 ≤ x.2 ∧ x.2 ≤ 1125899906842624
def ModR (c : CV) (w w' : World) (e : Ending) : Prop := ∃ b : Bool, e = .returned (.bool b) ∧ (b = true → MOk c) ∧ Below w.heap.size w w'
/-- the sum of the lines -/
def sumL (l : List Ln) : Int := (l.map (fun x => x.2)).sum
theorem sumL_snoc (l : List Ln) (x : Ln) : sumL (l ++ [x]) = sumL l + x.2 := by simp [sumL]
theorem sumL_take {l : List Ln} {k : Nat} {s : ByteArray} {n : Int} (h : l[k]? = some (s, n)) : sumL (l.take (k + 1)) = sumL (l.take k) + n := by rw [take_snoc h, sumL_snoc]
theorem sumL_bounds : ∀ {l : List Ln}, (∀ x ∈ l, -1125899906842624 ≤ x.2 ∧ x.2 ≤ 1125899906842624) → -(1125899906842624 * (l.length : Int)) ≤ sumL l ∧ sumL l ≤ 1125899906842624 * (l.length : Int)
  | [], _ => by simp [sumL]
  | x :: l, h => by
    have a := h x (by simp)
    have b := sumL_bounds (l := l) fun y hy => h y (by simp [hy])
    unfold sumL at b ⊢
    simp only [List.map_cons, List.sum_cons, List.length_cons]
    omega

set_option maxRecDepth 100000 in
set_option maxHeartbeats 4000000 in
theorem few_any {dvA rlA stA : Option Addr} (dvc rlc stc : Nat) {dvs : List Dv} {rls : List Iv} {sts : List St} (tid tvh tsy : ByteArray) (tcl : Int) {w : World} (h : Rd encD 6 w w.heap.size dvA dvs) (hs : Rd encSt 3 w w.heap.size stA sts) (hl1 : dvs.length ≤ 9223372036854775807) (hl2 : sts.length ≤ 9223372036854775807) :
    Calls Try.prog 14 #[(.agg #[.slice dvA dvs.length dvc, .slice rlA rls.length rlc]), .agg #[.string tid, .string tvh, .string tsy, .int .i64 tcl, .slice stA sts.length stc]] w fun e w' => FewR dvs rls sts w w' e := by
  obtain ⟨Y1, hY1⟩ : ∃ Y, w.alloc (.cells #[.slice dvA dvs.length dvc, .slice rlA rls.length rlc] 32) = Y := ⟨_, rfl⟩
  have b1 : Below w.heap.size w Y1 := by rw [← hY1]; exact (Below.refl _ w).al _
  have S1 : Blk Y1 w.heap.size #[.slice dvA dvs.length dvc, .slice rlA rls.length rlc] 32 := by rw [← hY1]; exact Blk.new w _ _
  obtain ⟨Y2, hY2⟩ : ∃ Y, Y1.alloc (.cells #[.string tid, .string tvh, .string tsy, .int .i64 tcl, .slice stA sts.length stc] 35) = Y := ⟨_, rfl⟩
  have b2 : Below w.heap.size w Y2 := by rw [← hY2]; exact b1.st ((Below.refl _ Y1).al _)
  have S1 : Blk Y2 w.heap.size #[.slice dvA dvs.length dvc, .slice rlA rls.length rlc] 32 := by rw [← hY2]; exact S1.below ((Below.refl _ Y1).al _) S1.lt
  have S2 : Blk Y2 Y1.heap.size #[.string tid, .string tvh, .string tsy, .int .i64 tcl, .slice stA sts.length stc] 35 := by rw [← hY2]; exact Blk.new Y1 _ _
  have HD := Lib.hid (h.keep b2)
  have HS := Lib.hid (hs.keep b2)
  have p0 : Y2.cell? ⟨w.heap.size, 0, none⟩ = some (.slice dvA dvs.length dvc) := S1.cell 0 rfl
  have p1 : Y2.cell? ⟨w.heap.size, 1, none⟩ = some (.slice rlA rls.length rlc) := S1.cell 1 rfl
  have t4 : Y2.cell? ⟨Y1.heap.size, 4, none⟩ = some (.slice stA sts.length stc) := S2.cell 4 rfl
  clear h hs b1 S1 S2
  go_enter Try.func14, Try.ntmps14
  go_wp2_with fail
  clear hY1 hY2
  go_loopw [5] (fun i wr => ∃ k : Nat, k ≤ dvs.length ∧ i = .int .i64 k ∧ Hid (∀ d ∈ dvs.take k, d.ds.length ≤ 8) ∧ wr = Y2) (fun i _ => dvs.length - (intOf i).toNat)
  case atStart => exact ⟨0, Nat.zero_le _, rfl, by unfold Hid; simp, rfl⟩
  case round =>
    obtain ⟨k, hk, rfl, HQ, rfl⟩ := hrel
    by_cases hi : k < dvs.length
    · obtain ⟨b, off, d, rfl, hg, hx, d0, d1, d2, d3, d4, d5⟩ := HD.out.d hi
      have HX := Lib.hid (fun (g : d.ds.length ≤ 8) => show ∀ y ∈ dvs.take (k + 1), y.ds.length ≤ 8 from fun y hy => by
        rw [take_snoc hx, List.mem_append] at hy
        rcases hy with hy | hy
        · exact HQ.out y hy
        · simp only [List.mem_singleton] at hy
          subst hy
          exact g)
      have HL := Lib.hid hi
      have hi1 : (0 : Int) ≤ (k : Int) := by omega
      have hi2 : (k : Int) < (dvs.length : Int) := by omega
      obtain ⟨nm, pt, kd, ln, oA, oc, os, dA, dc, ds⟩ := d
      simp only at *
      clear hx HQ
      by_cases g1 : 40 < nm.size
      · go_wp2
        go_ret
        exact ⟨false, rfl, (fun h => by cases h), b2⟩
      · by_cases g2 : 40 < pt.size
        · go_wp2
          go_ret
          exact ⟨false, rfl, (fun h => by cases h), b2⟩
        · by_cases g3 : 8 < ds.length
          · go_wp2
            go_ret
            exact ⟨false, rfl, (fun h => by cases h), b2⟩
          · have HX2 := Lib.hid (HX.out (by omega))
            clear HX
            go_wp2
            go_roundw
            case rel => exact ⟨k + 1, HL.out, by go_num, HX2, trivial⟩
            case measure => have := HL.out; simp [intOf]; omega
    · obtain rfl : k = dvs.length := by omega
      have HF := Lib.hid (show ∀ d ∈ dvs, d.ds.length ≤ 8 by have := HQ.out; rwa [List.take_length] at this)
      clear HQ hk hi
      go_wp2_with fail
      go_loopw [6] (fun i wx => ∃ k : Nat, k ≤ sts.length ∧ i = .int .i64 k ∧ wx = wr) (fun i _ => sts.length - (intOf i).toNat)
      case atStart => exact ⟨0, Nat.zero_le _, rfl, rfl⟩
      case round =>
        obtain ⟨k, hk, rfl, rfl⟩ := hrel
        by_cases hi : k < sts.length
        · obtain ⟨b, off, s, hA, hg, hx, d0, d1, d2⟩ := HS.out.st3 hi
          subst hA
          have HL := Lib.hid hi
          have hi1 : (0 : Int) ≤ (k : Int) := by omega
          have hi2 : (k : Int) < (sts.length : Int) := by omega
          obtain ⟨pt, t, pg⟩ := s
          simp only at d0 d1 d2
          clear hx
          by_cases g1 : 40 < pt.size
          · go_wp2
            go_ret
            exact ⟨false, rfl, (fun h => by cases h), b2⟩
          · go_wp2
            go_roundw
            case rel => exact ⟨k + 1, HL.out, by go_num, by first | rfl | trivial⟩
            case measure => have := HL.out; simp [intOf]; omega
        · obtain rfl : k = sts.length := by omega
          by_cases g1 : dvs.length ≤ 10
          · by_cases g2 : rls.length ≤ 14
            · by_cases g3 : sts.length ≤ 8
              · have HZ := Lib.hid (show FOk dvs rls sts from ⟨g1, HF.out, g2, g3⟩)
                go_wp2
                go_ret
                exact ⟨true, ret_bool (decide_eq_true (by omega)), (fun _ => HZ.out), b2⟩
              · go_wp2
                go_ret
                exact ⟨false, ret_bool (decide_eq_false (by omega)), (fun h => by cases h), b2⟩
            · go_wp2
              go_ret
              exact ⟨false, rfl, (fun h => by cases h), b2⟩
          · go_wp2
            go_ret
            exact ⟨false, rfl, (fun h => by cases h), b2⟩

set_option maxRecDepth 100000 in
set_option maxHeartbeats 4000000 in
theorem modest_any (c : CV) {lA : Option Addr} (lc : Nat) {w : World} (h : Rd encLn 2 w w.heap.size lA c.lns) (hl : c.lns.length ≤ 9223372036854775807) :
    Calls Try.prog 19 #[CHV c lA lc] w fun e w' => ModR c w w' e := by
  obtain ⟨key, veh, sys, cls, tm, lns, ct⟩ := c
  have HM := Lib.hid (show lns.length ≤ 8 → (∀ x ∈ lns, -1125899906842624 ≤ x.2 ∧ x.2 ≤ 1125899906842624) → MOk ⟨key, veh, sys, cls, tm, lns, ct⟩ from fun a b => ⟨a, b⟩)
  simp only [CHV] at *
  obtain ⟨Y, hY⟩ : ∃ Y, w.alloc (.cells #[.string key, .string veh, .string sys, .int .i64 cls, .int .i64 tm, .slice lA lns.length lc, .int .i64 ct] 64) = Y := ⟨_, rfl⟩
  have bW : Below w.heap.size w Y := by rw [← hY]; exact (Below.refl _ w).al _
  have bC : Blk Y w.heap.size #[.string key, .string veh, .string sys, .int .i64 cls, .int .i64 tm, .slice lA lns.length lc, .int .i64 ct] 64 := by rw [← hY]; exact Blk.new w _ _
  have H := Lib.hid (h.keep bW)
  have q0 : Y.cell? ⟨w.heap.size, 0, none⟩ = some (.string key) := bC.cell 0 rfl
  have q1 : Y.cell? ⟨w.heap.size, 1, none⟩ = some (.string veh) := bC.cell 1 rfl
  have q2 : Y.cell? ⟨w.heap.size, 2, none⟩ = some (.string sys) := bC.cell 2 rfl
  have q5 : Y.cell? ⟨w.heap.size, 5, none⟩ = some (.slice lA lns.length lc) := bC.cell 5 rfl
  clear h
  go_enter Try.func19, Try.ntmps19
  go_wp2_with fail
  clear hY
  go_loopw [3] (fun i wr => ∃ k : Nat, k ≤ lns.length ∧ i = .int .i64 k ∧ Hid (∀ x ∈ lns.take k, -1125899906842624 ≤ x.2 ∧ x.2 ≤ 1125899906842624) ∧ wr = Y) (fun i _ => lns.length - (intOf i).toNat)
  case atStart => exact ⟨0, Nat.zero_le _, rfl, by unfold Hid; simp, rfl⟩
  case round =>
    obtain ⟨k, hk, rfl, HQ, rfl⟩ := hrel
    by_cases hi : k < lns.length
    · obtain ⟨b, off, s, x, rfl, hb, hx, d0, d1⟩ := H.out.ln hi
      have HX := Lib.hid (fun (g1 : ¬ x < -1125899906842624) (g2 : ¬ 1125899906842624 < x) => show ∀ y ∈ lns.take (k + 1), -1125899906842624 ≤ y.2 ∧ y.2 ≤ 1125899906842624 from fun y hy => by
        rw [take_snoc hx, List.mem_append] at hy
        rcases hy with hy | hy
        · exact HQ.out y hy
        · simp only [List.mem_singleton] at hy
          subst hy
          exact ⟨by omega, by omega⟩)
      have hi1 : (0 : Int) ≤ (k : Int) := by omega
      have hi2 : (k : Int) < (lns.length : Int) := by omega
      have HL := Lib.hid hi
      clear hx HQ
      by_cases g1 : x < -1125899906842624
      · go_wp2
        go_ret
        exact ⟨false, rfl, (fun h => by cases h), bW⟩
      · by_cases g2 : 1125899906842624 < x
        · go_wp2
          go_ret
          exact ⟨false, rfl, (fun h => by cases h), bW⟩
        · by_cases g3 : 40 < s.size
          · go_wp2
            go_ret
            exact ⟨false, rfl, (fun h => by cases h), bW⟩
          · have HX2 := Lib.hid (HX.out g1 g2)
            clear HX
            go_wp2
            go_roundw
            case rel => exact ⟨k + 1, HL.out, by go_num, HX2, trivial⟩
            case measure => have := HL.out; simp [intOf]; omega
    · obtain rfl : k = lns.length := by omega
      have HF := Lib.hid (show ∀ x ∈ lns, -1125899906842624 ≤ x.2 ∧ x.2 ≤ 1125899906842624 by have := HQ.out; rwa [List.take_length] at this)
      clear HQ hk hi
      by_cases g0 : lns.length ≤ 8
      · have HZ := Lib.hid (HM.out g0 HF.out)
        by_cases g1 : key.size ≤ 80
        · by_cases g2 : veh.size ≤ 40
          · by_cases g3 : sys.size ≤ 40
            · go_wp2
              go_ret
              exact ⟨true, ret_bool (decide_eq_true (by omega)), (fun _ => HZ.out), bW⟩
            · go_wp2
              go_ret
              exact ⟨false, ret_bool (decide_eq_false (by omega)), (fun h => by cases h), bW⟩
          · go_wp2
            go_ret
            exact ⟨false, rfl, (fun h => by cases h), bW⟩
        · go_wp2
          go_ret
          exact ⟨false, rfl, (fun h => by cases h), bW⟩
      · go_wp2
        go_ret
        exact ⟨false, rfl, (fun h => by cases h), bW⟩

set_option maxRecDepth 100000 in
set_option maxHeartbeats 4000000 in
theorem sumL_any (c : CV) {lA : Option Addr} (lc : Nat) {w : World} (h : Rd encLn 2 w w.heap.size lA c.lns) (hl : c.lns.length ≤ 100) (hb : ∀ x ∈ c.lns, -1125899906842624 ≤ x.2 ∧ x.2 ≤ 1125899906842624) :
    Calls Try.prog 25 #[CHV c lA lc] w fun e w' => e = .returned (.int .i64 (sumL c.lns)) ∧ Below w.heap.size w w' := by
  obtain ⟨key, veh, sys, cls, tm, lns, ct⟩ := c
  simp only [CHV] at *
  have HB := Lib.hid hb
  obtain ⟨Y, hY⟩ : ∃ Y, w.alloc (.cells #[.string key, .string veh, .string sys, .int .i64 cls, .int .i64 tm, .slice lA lns.length lc, .int .i64 ct] 64) = Y := ⟨_, rfl⟩
  have bW : Below w.heap.size w Y := by rw [← hY]; exact (Below.refl _ w).al _
  have bC : Blk Y w.heap.size #[.string key, .string veh, .string sys, .int .i64 cls, .int .i64 tm, .slice lA lns.length lc, .int .i64 ct] 64 := by rw [← hY]; exact Blk.new w _ _
  have H := Lib.hid (h.keep bW)
  have q5 : Y.cell? ⟨w.heap.size, 5, none⟩ = some (.slice lA lns.length lc) := bC.cell 5 rfl
  clear h hb
  go_enter Try.func25, Try.ntmps25
  go_wp2_with fail
  clear hY
  go_loopw [3, 4] (fun v i wr => ∃ (k : Nat) (q : Int), k ≤ lns.length ∧ i = .int .i64 k ∧ v = .int .i64 q ∧ Hid (sumL (lns.take k) = q) ∧ wr = Y) (fun _ i _ => lns.length - (intOf i).toNat)
  case atStart => exact ⟨0, 0, Nat.zero_le _, rfl, rfl, rfl, rfl⟩
  case round =>
    obtain ⟨k, q, hk, rfl, rfl, HQ, rfl⟩ := hrel
    have hq := sumL_bounds (l := lns.take k) fun x hx => HB.out x (List.mem_of_mem_take hx)
    rw [HQ.out, List.length_take, Nat.min_eq_left hk] at hq
    obtain ⟨hq1, hq2⟩ := hq
    by_cases hi : k < lns.length
    · obtain ⟨b, off, s, x, rfl, hb, hx, d0, d1⟩ := H.out.ln hi
      obtain ⟨hx1, hx2⟩ := HB.out _ (List.mem_of_getElem? hx)
      simp only at hx1 hx2
      have HQ2 := Lib.hid (show sumL (lns.take (k + 1)) = q + x by rw [sumL_take hx, HQ.out])
      have hi1 : (0 : Int) ≤ (k : Int) := by omega
      have hi2 : (k : Int) < (lns.length : Int) := by omega
      have HL := Lib.hid hi
      clear hx HQ
      go_wp2
      go_roundw
      case rel => exact ⟨k + 1, q + x, HL.out, by go_num, by first | rfl | go_num, HQ2, trivial⟩
      case measure => have := HL.out; simp [intOf]; omega
    · obtain rfl : k = lns.length := by omega
      have R := Lib.hid (show sumL lns = q by have := HQ.out; rwa [List.take_length] at this)
      clear HQ
      go_wp2
      go_ret
      exact ⟨by rw [R.out]; rfl, bW⟩

end Go.Proofs.Ytekdppnlgkfcdaa
