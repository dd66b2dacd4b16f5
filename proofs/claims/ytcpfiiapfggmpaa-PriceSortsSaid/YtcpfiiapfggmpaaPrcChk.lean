/- price.sum, price.Check, the reference's lines and Check, walked. -/
import Derived.Test.YtcpfiiapfggmpaaPrcEnc
import Derived.Test.YtcpfiiapfggmpaaMoneyLeaf
import Derived.IntWalk
set_option linter.unusedSimpArgs false
namespace Go.Proofs.Ytcpfiiapfggmpaa
open Go.RowKit Go.Lib

set_option maxRecDepth 100000 in
set_option maxHeartbeats 4000000 in
theorem psum_any {A : Option Addr} (c : Nat) {l : List Ln} {w : World} (h : Rd encLn 2 w w.heap.size A l) (hl : l.length ≤ 1000) (hm : Mst l) :
    Calls Try.prog 16 #[.slice A l.length c] w fun e w' => e = .returned (.int .i64 (sumL l)) ∧ Below w.heap.size w w' := by
  have H := Lib.hid h
  have HM := Lib.hid hm
  clear h hm
  have hlb : (l.length : Int) ≤ 1000 := by omega
  go_enter Try.func16, Try.ntmps16
  go_wp2_with fail
  go_loopw [3, 8] (fun s i wr => ∃ k : Nat, k ≤ l.length ∧ i = .int .i64 k ∧ s = .int .i64 (sumL (l.take k)) ∧ Below w.heap.size w wr) (fun _ i _ => l.length - (RowKit.intOf i).toNat)
  case atStart => exact ⟨0, Nat.zero_le _, rfl, rfl, Below.refl _ _⟩
  case round =>
    obtain ⟨k, hk, rfl, rfl, hwr⟩ := hrel
    by_cases hi : k < l.length
    · obtain ⟨b, off, s, n, rfl, hb, hx, d0, d1⟩ := (H.out.st hwr).ln hi
      have hs := sumL_snoc hx
      have hbk := sumL_bnd (HM.out.take k)
      have hbn := fitsB_bnd (HM.out _ (List.mem_of_getElem? hx))
      simp only at hs hbn
      rw [List.length_take, Nat.min_eq_left (Nat.le_of_lt hi)] at hbk
      have HK := Lib.hid hi
      have HS := Lib.hid hs
      have hws : IntKind.i64.wrap (sumL (l.take k) + n) = sumL (l.take k) + n := IntWalk.i64_in _ (by omega)
      clear hs hbk hbn hx hi hb
      obtain ⟨Y5, hY5⟩ : ∃ Y, wr.alloc (.cells #[.string s, .int .i64 n] 86) = Y := ⟨_, rfl⟩
      have BS : Blk Y5 wr.heap.size #[.string s, .int .i64 n] 86 := by rw [← hY5]; exact Blk.new _ _ _
      have hbn : Below wr.heap.size wr Y5 := by rw [← hY5]; exact (Below.refl _ _).al _
      have hw5 := hwr.st hbn
      have s1 := BS.cell 1 (v := .int .i64 n) rfl
      generalize sumL (l.take k) = sk at *
      clear hbn hwr
      go_wp2_with fail
      go_roundw
      case rel => exact ⟨k + 1, HK.out, by go_num, by rw [HS.out], hw5⟩
      case measure => have := HK.out; simp [RowKit.intOf]; omega
    · obtain rfl : k = l.length := by omega
      rw [List.take_length]
      go_wp2_with fail
      go_ret
      exact ⟨rfl, hwr⟩

set_option maxRecDepth 100000 in
set_option maxHeartbeats 4000000 in
theorem rlines_any {A : Option Addr} (c : Nat) {l : List Ln} {w : World} (h : Rd encLn 2 w w.heap.size A l) (hl : l.length ≤ 1000) (hm : Mst l) :
    Calls Try.prog 18 #[.slice A l.length c] w fun e w' => e = .returned (.tuple #[.int .i64 (if fitsB (sumL l) = true then sumL l else 0), .int .i64 (if fitsB (sumL l) = true then 0 else 13)]) ∧ w' = w := by
  cases hq : fitsB (sumL l)
  case' false => rw [if_neg (by simp), if_neg (by simp)]
  case' true => rw [if_pos rfl, if_pos rfl]
  all_goals
    have HQ := Lib.hid hq
    clear hq
    have H := Lib.hid h
    have HM := Lib.hid hm
    have HF := Lib.hid (fun (n : Int) (X : World) => r3fits_any n X)
    clear h hm
    have hlb : (l.length : Int) ≤ 1000 := by omega
    go_enter Try.func18, Try.ntmps18
    go_wp2_with fail
    go_loopw [4, 5] (fun s i wr => ∃ k : Nat, k ≤ l.length ∧ i = .int .i64 k ∧ s = .int .i64 (sumL (l.take k)) ∧ wr = w) (fun _ i _ => l.length - (RowKit.intOf i).toNat)
    case atStart => exact ⟨0, Nat.zero_le _, rfl, rfl, rfl⟩
    case round =>
      obtain ⟨k, hk, rfl, rfl, hw⟩ := hrel
      have hw := hw.symm
      subst hw
      have k1 : (0 : Int) ≤ (k : Int) := by omega
      by_cases hi : k < l.length
      · have k2 : (k : Int) < (l.length : Int) := by omega
        obtain ⟨b, off, s, n, rfl, hb, hx, d0, d1⟩ := H.out.ln hi
        have hs := sumL_snoc hx
        have hbk := sumL_bnd (HM.out.take k)
        have hfn := HM.out _ (List.mem_of_getElem? hx)
        have hbn := fitsB_bnd hfn
        simp only at hs hbn hfn
        rw [List.length_take, Nat.min_eq_left (Nat.le_of_lt hi)] at hbk
        have HK := Lib.hid hi
        have HS := Lib.hid hs
        have hws : IntKind.i64.wrap (sumL (l.take k) + n) = sumL (l.take k) + n := IntWalk.i64_in _ (by omega)
        have HFn := Lib.hid (HF.out n)
        rw [hfn] at HFn
        clear hs hbk hbn hx hi hb hfn
        generalize sumL (l.take k) = sk at *
        go_wp2_with fail
        refine (HFn.out _).mono ?_
        rintro e w2 ⟨rfl, hw2⟩
        rw [hw2]
        clear hw2 w2
        go_wp2_with fail
        go_roundw
        case rel => exact ⟨k + 1, HK.out, by go_num, by rw [HS.out], by first | rfl | trivial⟩
        case measure => have := HK.out; simp [RowKit.intOf]; omega
      · obtain rfl : k = l.length := by omega
        rw [List.take_length]
        have HFn := Lib.hid (HF.out (sumL l))
        rw [HQ.out] at HFn
        go_wp2_with fail
        refine (HFn.out _).mono ?_
        rintro e w2 ⟨rfl, hw2⟩
        rw [hw2]
        clear hw2 w2
        go_wp2_with fail
        go_ret2
        exact ⟨rfl, rfl⟩
end Go.Proofs.Ytcpfiiapfggmpaa
