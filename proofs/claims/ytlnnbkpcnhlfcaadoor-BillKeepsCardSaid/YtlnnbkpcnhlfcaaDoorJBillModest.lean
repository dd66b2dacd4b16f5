/- Joined texts: BillModest, BillKeepsM. -/
import Derived.Test.YtlnnbkpcnhlfcaaDoorJBillFew
import Derived.Test.YtlnnbkpcnhlfcaaDoorJMoneyLeaf
import Derived.Test.YtlnnbkpcnhlfcaaDoorCapHist
/- modest and total, walked. -/
set_option linter.unusedSimpArgs false
namespace Go.Proofs.YtlnnbkpcnhlfcaaDoor
open Go.RowKit Go.Lib

def sumL (l : List Ln) : Int := (l.map Prod.snd).sum
def Mst (l : List Ln) : Prop := ∀ y ∈ l, -1125899906842624 ≤ y.2 ∧ y.2 ≤ 1125899906842624
theorem sumL_bnd {l : List Ln} (h : Mst l) : -(1125899906842624 * (l.length : Int)) ≤ sumL l ∧ sumL l ≤ 1125899906842624 * (l.length : Int) := by
  have := sum_bounds (l := l.map Prod.snd) (fun x hx => by obtain ⟨y, hy, rfl⟩ := List.mem_map.1 hx; exact h y hy)
  rw [List.length_map] at this
  exact this
theorem sumL_snoc {l : List Ln} {k : Nat} {x : Ln} (hx : l[k]? = some x) : sumL (l.take (k + 1)) = sumL (l.take k) + x.2 := by
  unfold sumL; rw [take_snoc hx]; simp

set_option maxRecDepth 100000 in
set_option maxHeartbeats 2000000 in
theorem modest_any {A : Option Addr} (c : Nat) {l : List Ln} {w : World} (h : Rd encLn 2 w w.heap.size A l) (hl : l.length ≤ 9223372036854775807) :
    Calls Tryd.prog 29 #[.slice A l.length c] w fun e w' => YesR (Mst l) e ∧ w' = w := by
  have H := Lib.hid h
  clear h
  go_enter Tryd.func29, Tryd.ntmps29
  go_wp2_with fail
  go_loopw [3] (fun i wr => ∃ k : Nat, k ≤ l.length ∧ i = .int .i64 k ∧ Hid (Mst (l.take k)) ∧ wr = w) (fun i _ => l.length - (RowKit.intOf i).toNat)
  case atStart => exact ⟨0, Nat.zero_le _, rfl, (by unfold Hid Mst; simp), rfl⟩
  case round =>
    obtain ⟨k, hk, rfl, HQ, hw⟩ := hrel
    have hw := hw.symm
    subst hw
    have k1 : (0 : Int) ≤ (k : Int) := by omega
    by_cases hi : k < l.length
    · have k2 : (k : Int) < (l.length : Int) := by omega
      obtain ⟨b, off, s, n, hA1, hb, hx, d0, d1⟩ := H.out.ln hi
      subst hA1
      have HK := Lib.hid hi
      have HX := Lib.hid hx
      clear hx hi hb
      by_cases q1 : n < -1125899906842624
      · go_wp2_with fail
        go_ret
        exact ⟨⟨false, rfl, fun h => by cases h⟩, rfl⟩
      · by_cases q2 : 1125899906842624 < n
        · go_wp2_with fail
          go_ret
          exact ⟨⟨false, rfl, fun h => by cases h⟩, rfl⟩
        · have R : Hid (Mst (l.take (k + 1))) := Lib.hid (tk_all HQ.out HX.out (by show _ ∧ _; omega))
          go_wp2_with fail
          go_roundw
          case rel => exact ⟨k + 1, HK.out, by go_num, R, by first | rfl | trivial⟩
          case measure => have := HK.out; simp [RowKit.intOf]; omega
    · obtain rfl : k = l.length := by omega
      have R : Hid (Mst l) := Lib.hid (by have := HQ.out; rwa [List.take_length] at this)
      go_wp2_with fail
      go_ret
      exact ⟨⟨true, rfl, fun _ => R.out⟩, rfl⟩

set_option maxRecDepth 100000 in
set_option maxHeartbeats 2000000 in
theorem total_c (x : CV) {A : Option Addr} (c : Nat) {w : World} (h : Rd encLn 2 w w.heap.size A x.lns) (hl : x.lns.length ≤ 1000) (hm : Mst x.lns) :
    Calls Tryd.prog 32 #[CHV x A c] w fun e w' => e = .returned (.int .i64 (sumL x.lns)) ∧ Below w.heap.size w w' := by
  obtain ⟨key, veh, sys, cls, tm, lns, cn⟩ := x
  obtain ⟨lA, hlA⟩ : ∃ q, q = A := ⟨_, rfl⟩
  obtain ⟨lc, hlc⟩ : ∃ q, q = c := ⟨_, rfl⟩
  subst hlA hlc
  simp only [CHV] at *
  obtain ⟨Y, hY⟩ : ∃ Y, w.alloc (.cells #[.string key, .string veh, .string sys, .int .i64 cls, .int .i64 tm, .slice lA lns.length lc, .int .i64 cn] 82) = Y := ⟨_, rfl⟩
  have BX : Blk Y w.heap.size #[.string key, .string veh, .string sys, .int .i64 cls, .int .i64 tm, .slice lA lns.length lc, .int .i64 cn] 82 := by rw [← hY]; exact Blk.new w _ _
  have bW : Below w.heap.size w Y := by rw [← hY]; exact (Below.refl _ w).al _
  have x5 := BX.cell 5 (v := .slice lA lns.length lc) rfl
  have H := Lib.hid (h.st bW)
  have HM := Lib.hid hm
  clear h hm
  go_enter Tryd.func32, Tryd.ntmps32
  go_wp2_with fail
  clear hY
  go_loopw [3, 4] (fun v i wr => ∃ (k : Nat) (q : Int), k ≤ lns.length ∧ i = .int .i64 k ∧ v = .int .i64 q ∧ Hid (sumL (lns.take k) = q) ∧ wr = Y) (fun _ i _ => lns.length - (RowKit.intOf i).toNat)
  case atStart => exact ⟨0, 0, Nat.zero_le _, rfl, rfl, (by unfold Hid sumL; simp), rfl⟩
  case round =>
    obtain ⟨k, q, hk, rfl, rfl, HQ, hw⟩ := hrel
    have hw := hw.symm
    subst hw
    have k1 : (0 : Int) ≤ (k : Int) := by omega
    have hq := sumL_bnd (l := lns.take k) (fun y hy => HM.out y (List.mem_of_mem_take hy))
    rw [HQ.out, List.length_take, Nat.min_eq_left hk] at hq
    obtain ⟨hq1, hq2⟩ := hq
    by_cases hi : k < lns.length
    · have k2 : (k : Int) < (lns.length : Int) := by omega
      obtain ⟨b, off, s, n, hA1, hb, hx, d0, d1⟩ := H.out.ln hi
      subst hA1
      have HK := Lib.hid hi
      have R : Hid (sumL (lns.take (k + 1)) = q + n) := Lib.hid (by rw [sumL_snoc hx, HQ.out])
      obtain ⟨hn1, hn2⟩ := HM.out _ (List.mem_of_getElem? hx)
      have hw : IntKind.i64.wrap (q + n) = q + n := IntWalk.i64_in _ (by omega)
      clear hx hi hb HQ
      go_wp2_with fail
      go_roundw
      case rel => exact ⟨k + 1, q + n, HK.out, by go_num, rfl, R, by first | rfl | trivial⟩
      case measure => have := HK.out; simp [RowKit.intOf]; omega
    · obtain rfl : k = lns.length := by omega
      have R : Hid (sumL lns = q) := Lib.hid (by have := HQ.out; rwa [List.take_length] at this)
      clear HQ
      go_wp2_with fail
      go_ret
      exact ⟨by rw [R.out]; rfl, bW⟩
end Go.Proofs.YtlnnbkpcnhlfcaaDoor
/- The law BillKeeps, in plain words. -/
set_option linter.unusedSimpArgs false
namespace Go.Proofs.YtlnnbkpcnhlfcaaDoor
open Go.RowKit Go.Lib

theorem lessC_sum (x : CV) (n : Int) : sumL (lessC x n).lns - sumL x.lns = (lessC x n).ct - x.ct := by
  unfold lessC
  split
  · show sumL (x.lns ++ [(capS, n - x.ct)]) - sumL x.lns = n - x.ct
    unfold sumL
    rw [List.map_append, List.sum_append]
    simp
    omega
  · omega
theorem lessC_len (x : CV) (n : Int) : (lessC x n).lns.length ≤ x.lns.length + 1 := by
  unfold lessC
  split
  · simp
  · omega
theorem lessC_keep {x : CV} {n : Int} (h : (lessC x n).ct = x.ct) : lessC x n = x := by
  unfold lessC at h ⊢
  split
  · rename_i q; rw [if_pos q] at h; have : n = x.ct := h; omega
  · rfl
theorem lessC_back (x : CV) (n : Int) : { lessC x n with ct := x.ct, lns := x.lns } = x := by unfold lessC; split <;> rfl
theorem lessC_mst {x : CV} {n : Int} (h : Mst x.lns) (h0 : 0 ≤ n) (h1 : x.ct ≤ 1125899906842624) : Mst (lessC x n).lns := by
  unfold lessC
  split
  · intro y hy
    rcases List.mem_append.1 (show y ∈ x.lns ++ [(capS, n - x.ct)] from hy) with q | q
    · exact h y q
    · rw [List.mem_singleton] at q
      subst q
      constructor
      · show -1125899906842624 ≤ n - x.ct; omega
      · rename_i q2; show n - x.ct ≤ 1125899906842624; omega
  · exact h
/-- what Capped makes of a charge -/
structure Kept (x y : CV) : Prop where
  c0 : 0 ≤ y.ct
  c1 : y.ct ≤ x.ct
  same : y.ct = x.ct → y = x
  sum : sumL y.lns - sumL x.lns = y.ct - x.ct
  len : y.lns.length ≤ x.lns.length + 1
  back : { y with ct := x.ct, lns := x.lns } = x
  mst : Mst x.lns → x.ct ≤ 1125899906842624 → Mst y.lns
theorem capOne_kept {ac : List Av} {caps : List Cp} {cs : List CV} (hc : ∀ c ∈ caps, 0 ≤ c.ct) (hx : ∀ x ∈ cs, 0 ≤ x.ct) {i : Nat} (hi : i < cs.length) :
    Kept (chAt cs i) (capOne ac caps cs i) ∧ (hasO ac (chAt cs i) = false → capOne ac caps cs i = chAt cs i) := by
  have hb := capOne_ct (ac := ac) hc hx hi
  have h0 := hx _ (chAt_mem hi)
  unfold capOne at hb ⊢
  split
  · rename_i ho
    rw [if_pos ho] at hb
    refine ⟨⟨hb.1, hb.2, lessC_keep, lessC_sum _ _, lessC_len _ _, lessC_back _ _, fun hm h1 => ?_⟩, fun h => by rw [h] at ho; cases ho⟩
    by_cases q : paidAt ac caps cs i (chAt cs i) < (chAt cs i).ct
    · refine lessC_mst hm ?_ h1
      have h2 := hb.1
      unfold lessC at h2
      rw [if_pos q] at h2
      exact h2
    · rw [lessC_same (by omega)]; exact hm
  · exact ⟨⟨h0, Int.le_refl _, fun _ => rfl, by omega, by omega, rfl, fun hm _ => hm⟩, fun _ => rfl⟩
end Go.Proofs.YtlnnbkpcnhlfcaaDoor
