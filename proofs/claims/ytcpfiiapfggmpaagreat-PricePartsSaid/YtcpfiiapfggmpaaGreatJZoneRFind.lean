/- Joined texts: ZoneRFind, PrcChk. -/
import Derived.Test.YtcpfiiapfggmpaaGreatZoneFind
import Derived.Test.YtcpfiiapfggmpaaGreatJZoneAllMath
import Derived.Test.YtcpfiiapfggmpaaGreatJSumAny
import Derived.Test.YtcpfiiapfggmpaaGreatJRelMath
import Derived.IntWalk
/- The reference's Find and CheckAll, walked. -/
namespace Go.Proofs.YtcpfiiapfggmpaaGreat
open Go.RowKit Go.Lib

set_option maxRecDepth 100000 in
set_option maxHeartbeats 2000000 in
theorem rfind_any {A : Option Addr} (c : Nat) {l : List Zn} {nm : ByteArray} {w : World} (h : Rd encZ 7 w w.heap.size A l) (hz : ZsOk w l) (hlen : l.length ≤ 9223372036854775807) :
    Calls Tryz.prog 17 #[.slice A l.length c, .string nm] w fun e w' => FindR l nm w w' e := by
  have hb0 : Below w.heap.size w (w.alloc (.cells #[.string ⟨#[]⟩, .slice none 0 0, .slice none 0 0, .int .i64 0, .int .i64 0, .int .i64 0, .int .i64 0] 76)) := (Below.refl _ w).al _
  have hz0 : w.heap.size < (w.alloc (.cells #[.string ⟨#[]⟩, .slice none 0 0, .slice none 0 0, .int .i64 0, .int .i64 0, .int .i64 0, .int .i64 0] 76)).heap.size := by simp
  have b0 : (w.alloc (.cells #[.string ⟨#[]⟩, .slice none 0 0, .slice none 0 0, .int .i64 0, .int .i64 0, .int .i64 0, .int .i64 0] 76)).cell? ⟨w.heap.size, 0, none⟩ = some (.string ⟨#[]⟩) := by simp
  have f0 : (w.alloc (.cells #[.string ⟨#[]⟩, .slice none 0 0, .slice none 0 0, .int .i64 0, .int .i64 0, .int .i64 0, .int .i64 0] 76)).frozen? ⟨w.heap.size, 0, none⟩ = false := by simp
  have b1 : (w.alloc (.cells #[.string ⟨#[]⟩, .slice none 0 0, .slice none 0 0, .int .i64 0, .int .i64 0, .int .i64 0, .int .i64 0] 76)).cell? ⟨w.heap.size, 1, none⟩ = some (.slice none 0 0) := by simp
  have f1 : (w.alloc (.cells #[.string ⟨#[]⟩, .slice none 0 0, .slice none 0 0, .int .i64 0, .int .i64 0, .int .i64 0, .int .i64 0] 76)).frozen? ⟨w.heap.size, 1, none⟩ = false := by simp
  have b2 : (w.alloc (.cells #[.string ⟨#[]⟩, .slice none 0 0, .slice none 0 0, .int .i64 0, .int .i64 0, .int .i64 0, .int .i64 0] 76)).cell? ⟨w.heap.size, 2, none⟩ = some (.slice none 0 0) := by simp
  have f2 : (w.alloc (.cells #[.string ⟨#[]⟩, .slice none 0 0, .slice none 0 0, .int .i64 0, .int .i64 0, .int .i64 0, .int .i64 0] 76)).frozen? ⟨w.heap.size, 2, none⟩ = false := by simp
  have b3 : (w.alloc (.cells #[.string ⟨#[]⟩, .slice none 0 0, .slice none 0 0, .int .i64 0, .int .i64 0, .int .i64 0, .int .i64 0] 76)).cell? ⟨w.heap.size, 3, none⟩ = some (.int .i64 0) := by simp
  have f3 : (w.alloc (.cells #[.string ⟨#[]⟩, .slice none 0 0, .slice none 0 0, .int .i64 0, .int .i64 0, .int .i64 0, .int .i64 0] 76)).frozen? ⟨w.heap.size, 3, none⟩ = false := by simp
  have b4 : (w.alloc (.cells #[.string ⟨#[]⟩, .slice none 0 0, .slice none 0 0, .int .i64 0, .int .i64 0, .int .i64 0, .int .i64 0] 76)).cell? ⟨w.heap.size, 4, none⟩ = some (.int .i64 0) := by simp
  have f4 : (w.alloc (.cells #[.string ⟨#[]⟩, .slice none 0 0, .slice none 0 0, .int .i64 0, .int .i64 0, .int .i64 0, .int .i64 0] 76)).frozen? ⟨w.heap.size, 4, none⟩ = false := by simp
  have b5 : (w.alloc (.cells #[.string ⟨#[]⟩, .slice none 0 0, .slice none 0 0, .int .i64 0, .int .i64 0, .int .i64 0, .int .i64 0] 76)).cell? ⟨w.heap.size, 5, none⟩ = some (.int .i64 0) := by simp
  have f5 : (w.alloc (.cells #[.string ⟨#[]⟩, .slice none 0 0, .slice none 0 0, .int .i64 0, .int .i64 0, .int .i64 0, .int .i64 0] 76)).frozen? ⟨w.heap.size, 5, none⟩ = false := by simp
  have b6 : (w.alloc (.cells #[.string ⟨#[]⟩, .slice none 0 0, .slice none 0 0, .int .i64 0, .int .i64 0, .int .i64 0, .int .i64 0] 76)).cell? ⟨w.heap.size, 6, none⟩ = some (.int .i64 0) := by simp
  have f6 : (w.alloc (.cells #[.string ⟨#[]⟩, .slice none 0 0, .slice none 0 0, .int .i64 0, .int .i64 0, .int .i64 0, .int .i64 0] 76)).frozen? ⟨w.heap.size, 6, none⟩ = false := by simp
  have Hat := Lib.hid (show ∀ k z, l[k]? = some z → (∀ y ∈ l.take k, eqS y.name nm = false) → eqS z.name nm = true → findZ l nm = some z from fun k z => findZ_at)
  have Hno := Lib.hid (@findZ_none l nm)
  unfold FindR
  generalize findZ l nm = r at *
  go_enter Tryz.func17, Tryz.ntmps17
  go_wp2
  generalize w.alloc (.cells #[.string ⟨#[]⟩, .slice none 0 0, .slice none 0 0, .int .i64 0, .int .i64 0, .int .i64 0, .int .i64 0] 76) = w1 at *
  go_loopw [6] (fun i wr => ∃ k : Nat, k ≤ l.length ∧ i = .int .i64 k ∧ Hid (∀ y ∈ l.take k, eqS y.name nm = false) ∧ wr = w1) (fun i _ => l.length - (RowKit.intOf i).toNat)
  case atStart => exact ⟨0, Nat.zero_le _, rfl, (by unfold Hid; simp), rfl⟩
  case round =>
    obtain ⟨k, hk, rfl, HN, rfl⟩ := hrel
    by_cases hi : k < l.length
    · obtain ⟨b, off, z, rfl, hb, hx, d0, d1, d2, d3, d4, d5, d6⟩ := (h.keep hb0).z hi
      have hzk := hz z (List.mem_of_getElem? hx)
      have hi2 : (k : Int) < (l.length : Int) := by omega
      cases he : eqS z.name nm
      · have R := Lib.hid (all_succ' hx HN.out he)
        have he2 : (z.name.toList == nm.toList) = false := he
        clear hx he b0 b1 b2 b3 b4 b5 b6 f0 f1 f2 f3 f4 f5 f6 h hz
        go_wp2_with fail
        go_roundw
        case rel => exact ⟨k + 1, by omega, by go_num, R, by first | rfl | trivial⟩
        case measure => simp [RowKit.intOf]; omega
      · have R := Lib.hid (Hat.out k z hx HN.out he)
        have he2 : (z.name.toList == nm.toList) = true := he
        clear hx he h hz
        go_wp2_with fail
        refine bodyPost_ret (v := .tuple #[ZV z, .bool true]) (by simp [results, Tryz.results17, go_sem, b0, b1, b2, b3, b4, b5, b6]) rfl ?_
        refine ⟨z, by rw [R.out]; rfl, by rw [R.out]; rfl, hzk.st ?_, ?_⟩
        · repeat refine Below.setCell ?_ (by simp) _
          exact hb0
        · repeat refine Below.setCell ?_ (by simp) _
          exact hb0
    · obtain rfl : k = l.length := by omega
      have R := Lib.hid (Hno.out HN.out)
      go_wp2_with fail
      refine bodyPost_ret (v := .tuple #[ZV zeroZ, .bool false]) (by simp [zeroZ, results, Tryz.results17, go_sem, b0, b1, b2, b3, b4, b5, b6]) rfl ?_
      refine ⟨zeroZ, by rw [R.out]; rfl, by rw [R.out]; rfl, ⟨Rd.nil, Rd.nil⟩, ?_⟩
      repeat refine Below.setCell ?_ (by simp) _
      exact hb0
end Go.Proofs.YtcpfiiapfggmpaaGreat
/- price.sum, price.Check, the reference's lines and Check, walked. -/
set_option linter.unusedSimpArgs false
namespace Go.Proofs.YtcpfiiapfggmpaaGreat
open Go.RowKit Go.Lib

set_option maxRecDepth 100000 in
set_option maxHeartbeats 4000000 in
theorem psum_any {A : Option Addr} (c : Nat) {l : List Ln} {w : World} (h : Rd encLn 2 w w.heap.size A l) (hl : l.length ≤ 1000) (hm : Mst l) :
    Calls Tryz.prog 50 #[.slice A l.length c] w fun e w' => e = .returned (.int .i64 (sumL l)) ∧ Below w.heap.size w w' := by
  have H := Lib.hid h
  have HM := Lib.hid hm
  clear h hm
  have hlb : (l.length : Int) ≤ 1000 := by omega
  go_enter Tryz.func50, Tryz.ntmps50
  go_wp2_with fail
  go_loopw [3, 8] (fun s i wr => ∃ k : Nat, k ≤ l.length ∧ i = .int .i64 k ∧ s = .int .i64 (sumL (l.take k)) ∧ Below w.heap.size w wr) (fun _ i _ => l.length - (RowKit.intOf i).toNat)
  case atStart => exact ⟨0, Nat.zero_le _, rfl, rfl, Below.refl _ _⟩
  case round =>
    obtain ⟨k, hk, rfl, rfl, hwr⟩ := hrel
    by_cases hi : k < l.length
    · obtain ⟨b, off, s, n, rfl, hb, hx, d0, d1⟩ := (H.out.st hwr).ln hi
      have hs := sumL_snoc hx
      have hbk := sumL_bnd (HM.out.take k)
      have hbn := fitsB_bnd (HM.out _ (List.mem_of_getElem? hx))
      simp only at hs hbn
      rw [List.length_take, Nat.min_eq_left (Nat.le_of_lt hi)] at hbk
      have HK := Lib.hid hi
      have HS := Lib.hid hs
      have hws : IntKind.i64.wrap (sumL (l.take k) + n) = sumL (l.take k) + n := IntWalk.i64_in _ (by omega)
      clear hs hbk hbn hx hi hb
      obtain ⟨Y5, hY5⟩ : ∃ Y, wr.alloc (.cells #[.string s, .int .i64 n] 123) = Y := ⟨_, rfl⟩
      have BS : Blk Y5 wr.heap.size #[.string s, .int .i64 n] 123 := by rw [← hY5]; exact Blk.new _ _ _
      have hbn : Below wr.heap.size wr Y5 := by rw [← hY5]; exact (Below.refl _ _).al _
      have hw5 := hwr.st hbn
      have s1 := BS.cell 1 (v := .int .i64 n) rfl
      generalize sumL (l.take k) = sk at *
      clear hbn hwr
      go_wp2_with fail
      go_roundw
      case rel => exact ⟨k + 1, HK.out, by go_num, by rw [HS.out], hw5⟩
      case measure => have := HK.out; simp [RowKit.intOf]; omega
    · obtain rfl : k = l.length := by omega
      rw [List.take_length]
      go_wp2_with fail
      go_ret
      exact ⟨rfl, hwr⟩

set_option maxRecDepth 100000 in
set_option maxHeartbeats 4000000 in
theorem rlines_any {A : Option Addr} (c : Nat) {l : List Ln} {w : World} (h : Rd encLn 2 w w.heap.size A l) (hl : l.length ≤ 1000) (hm : Mst l) :
    Calls Tryz.prog 43 #[.slice A l.length c] w fun e w' => e = .returned (.tuple #[.int .i64 (if fitsB (sumL l) = true then sumL l else 0), .int .i64 (if fitsB (sumL l) = true then 0 else 13)]) ∧ w' = w := by
  cases hq : fitsB (sumL l)
  case' false => rw [if_neg (by simp), if_neg (by simp)]
  case' true => rw [if_pos rfl, if_pos rfl]
  all_goals
    have HQ := Lib.hid hq
    clear hq
    have H := Lib.hid h
    have HM := Lib.hid hm
    have HF := Lib.hid (fun (n : Int) (X : World) => r3fits_any n X)
    clear h hm
    have hlb : (l.length : Int) ≤ 1000 := by omega
    go_enter Tryz.func43, Tryz.ntmps43
    go_wp2_with fail
    go_loopw [4, 5] (fun s i wr => ∃ k : Nat, k ≤ l.length ∧ i = .int .i64 k ∧ s = .int .i64 (sumL (l.take k)) ∧ wr = w) (fun _ i _ => l.length - (RowKit.intOf i).toNat)
    case atStart => exact ⟨0, Nat.zero_le _, rfl, rfl, rfl⟩
    case round =>
      obtain ⟨k, hk, rfl, rfl, hw⟩ := hrel
      have hw := hw.symm
      subst hw
      have k1 : (0 : Int) ≤ (k : Int) := by omega
      by_cases hi : k < l.length
      · have k2 : (k : Int) < (l.length : Int) := by omega
        obtain ⟨b, off, s, n, rfl, hb, hx, d0, d1⟩ := H.out.ln hi
        have hs := sumL_snoc hx
        have hbk := sumL_bnd (HM.out.take k)
        have hfn := HM.out _ (List.mem_of_getElem? hx)
        have hbn := fitsB_bnd hfn
        simp only at hs hbn hfn
        rw [List.length_take, Nat.min_eq_left (Nat.le_of_lt hi)] at hbk
        have HK := Lib.hid hi
        have HS := Lib.hid hs
        have hws : IntKind.i64.wrap (sumL (l.take k) + n) = sumL (l.take k) + n := IntWalk.i64_in _ (by omega)
        have HFn := Lib.hid (HF.out n)
        rw [hfn] at HFn
        clear hs hbk hbn hx hi hb hfn
        generalize sumL (l.take k) = sk at *
        go_wp2_with fail
        refine (HFn.out _).mono ?_
        rintro e w2 ⟨rfl, hw2⟩
        rw [hw2]
        clear hw2 w2
        go_wp2_with fail
        go_roundw
        case rel => exact ⟨k + 1, HK.out, by go_num, by rw [HS.out], by first | rfl | trivial⟩
        case measure => have := HK.out; simp [RowKit.intOf]; omega
      · obtain rfl : k = l.length := by omega
        rw [List.take_length]
        have HFn := Lib.hid (HF.out (sumL l))
        rw [HQ.out] at HFn
        go_wp2_with fail
        refine (HFn.out _).mono ?_
        rintro e w2 ⟨rfl, hw2⟩
        rw [hw2]
        clear hw2 w2
        go_wp2_with fail
        go_ret2
        exact ⟨rfl, rfl⟩
end Go.Proofs.YtcpfiiapfggmpaaGreat
