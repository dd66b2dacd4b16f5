/- The reference's Find and CheckAll, walked. -/
import Derived.Test.YtppnkepjipglgaaZoneFind
import Derived.Test.YtppnkepjipglgaaZoneRCheck
namespace Go.Proofs.Ytppnkepjipglgaa
open Go.RowKit Go.Lib

set_option maxRecDepth 100000 in
set_option maxHeartbeats 2000000 in
theorem rfind_any {A : Option Addr} (c : Nat) {l : List Zn} {nm : ByteArray} {w : World} (h : Rd encZ 7 w w.heap.size A l) (hz : ZsOk w l) (hlen : l.length ≤ 9223372036854775807) :
    Calls Try.prog 15 #[.slice A l.length c, .string nm] w fun e w' => FindR l nm w w' e := by
  have hb0 : Below w.heap.size w (w.alloc (.cells #[.string ⟨#[]⟩, .slice none 0 0, .slice none 0 0, .int .i64 0, .int .i64 0, .int .i64 0, .int .i64 0] 25)) := (Below.refl _ w).al _
  have hz0 : w.heap.size < (w.alloc (.cells #[.string ⟨#[]⟩, .slice none 0 0, .slice none 0 0, .int .i64 0, .int .i64 0, .int .i64 0, .int .i64 0] 25)).heap.size := by simp
  have b0 : (w.alloc (.cells #[.string ⟨#[]⟩, .slice none 0 0, .slice none 0 0, .int .i64 0, .int .i64 0, .int .i64 0, .int .i64 0] 25)).cell? ⟨w.heap.size, 0, none⟩ = some (.string ⟨#[]⟩) := by simp
  have f0 : (w.alloc (.cells #[.string ⟨#[]⟩, .slice none 0 0, .slice none 0 0, .int .i64 0, .int .i64 0, .int .i64 0, .int .i64 0] 25)).frozen? ⟨w.heap.size, 0, none⟩ = false := by simp
  have b1 : (w.alloc (.cells #[.string ⟨#[]⟩, .slice none 0 0, .slice none 0 0, .int .i64 0, .int .i64 0, .int .i64 0, .int .i64 0] 25)).cell? ⟨w.heap.size, 1, none⟩ = some (.slice none 0 0) := by simp
  have f1 : (w.alloc (.cells #[.string ⟨#[]⟩, .slice none 0 0, .slice none 0 0, .int .i64 0, .int .i64 0, .int .i64 0, .int .i64 0] 25)).frozen? ⟨w.heap.size, 1, none⟩ = false := by simp
  have b2 : (w.alloc (.cells #[.string ⟨#[]⟩, .slice none 0 0, .slice none 0 0, .int .i64 0, .int .i64 0, .int .i64 0, .int .i64 0] 25)).cell? ⟨w.heap.size, 2, none⟩ = some (.slice none 0 0) := by simp
  have f2 : (w.alloc (.cells #[.string ⟨#[]⟩, .slice none 0 0, .slice none 0 0, .int .i64 0, .int .i64 0, .int .i64 0, .int .i64 0] 25)).frozen? ⟨w.heap.size, 2, none⟩ = false := by simp
  have b3 : (w.alloc (.cells #[.string ⟨#[]⟩, .slice none 0 0, .slice none 0 0, .int .i64 0, .int .i64 0, .int .i64 0, .int .i64 0] 25)).cell? ⟨w.heap.size, 3, none⟩ = some (.int .i64 0) := by simp
  have f3 : (w.alloc (.cells #[.string ⟨#[]⟩, .slice none 0 0, .slice none 0 0, .int .i64 0, .int .i64 0, .int .i64 0, .int .i64 0] 25)).frozen? ⟨w.heap.size, 3, none⟩ = false := by simp
  have b4 : (w.alloc (.cells #[.string ⟨#[]⟩, .slice none 0 0, .slice none 0 0, .int .i64 0, .int .i64 0, .int .i64 0, .int .i64 0] 25)).cell? ⟨w.heap.size, 4, none⟩ = some (.int .i64 0) := by simp
  have f4 : (w.alloc (.cells #[.string ⟨#[]⟩, .slice none 0 0, .slice none 0 0, .int .i64 0, .int .i64 0, .int .i64 0, .int .i64 0] 25)).frozen? ⟨w.heap.size, 4, none⟩ = false := by simp
  have b5 : (w.alloc (.cells #[.string ⟨#[]⟩, .slice none 0 0, .slice none 0 0, .int .i64 0, .int .i64 0, .int .i64 0, .int .i64 0] 25)).cell? ⟨w.heap.size, 5, none⟩ = some (.int .i64 0) := by simp
  have f5 : (w.alloc (.cells #[.string ⟨#[]⟩, .slice none 0 0, .slice none 0 0, .int .i64 0, .int .i64 0, .int .i64 0, .int .i64 0] 25)).frozen? ⟨w.heap.size, 5, none⟩ = false := by simp
  have b6 : (w.alloc (.cells #[.string ⟨#[]⟩, .slice none 0 0, .slice none 0 0, .int .i64 0, .int .i64 0, .int .i64 0, .int .i64 0] 25)).cell? ⟨w.heap.size, 6, none⟩ = some (.int .i64 0) := by simp
  have f6 : (w.alloc (.cells #[.string ⟨#[]⟩, .slice none 0 0, .slice none 0 0, .int .i64 0, .int .i64 0, .int .i64 0, .int .i64 0] 25)).frozen? ⟨w.heap.size, 6, none⟩ = false := by simp
  have Hat := Lib.hid (show ∀ k z, l[k]? = some z → (∀ y ∈ l.take k, eqS y.name nm = false) → eqS z.name nm = true → findZ l nm = some z from fun k z => findZ_at)
  have Hno := Lib.hid (@findZ_none l nm)
  unfold FindR
  generalize findZ l nm = r at *
  go_enter Try.func15, Try.ntmps15
  go_wp2
  generalize w.alloc (.cells #[.string ⟨#[]⟩, .slice none 0 0, .slice none 0 0, .int .i64 0, .int .i64 0, .int .i64 0, .int .i64 0] 25) = w1 at *
  go_loopw [6] (fun i wr => ∃ k : Nat, k ≤ l.length ∧ i = .int .i64 k ∧ Hid (∀ y ∈ l.take k, eqS y.name nm = false) ∧ wr = w1) (fun i _ => l.length - (intOf i).toNat)
  case atStart => exact ⟨0, Nat.zero_le _, rfl, (by unfold Hid; simp), rfl⟩
  case round =>
    obtain ⟨k, hk, rfl, HN, rfl⟩ := hrel
    by_cases hi : k < l.length
    · obtain ⟨b, off, z, rfl, hb, hx, d0, d1, d2, d3, d4, d5, d6⟩ := (h.keep hb0).z hi
      have hzk := hz z (List.mem_of_getElem? hx)
      have hi2 : (k : Int) < (l.length : Int) := by omega
      cases he : eqS z.name nm
      · have R := Lib.hid (all_succ' hx HN.out he)
        have he2 : (z.name.toList == nm.toList) = false := he
        clear hx he b0 b1 b2 b3 b4 b5 b6 f0 f1 f2 f3 f4 f5 f6 h hz
        go_wp2_with fail
        go_roundw
        case rel => exact ⟨k + 1, by omega, by go_num, R, by first | rfl | trivial⟩
        case measure => simp [intOf]; omega
      · have R := Lib.hid (Hat.out k z hx HN.out he)
        have he2 : (z.name.toList == nm.toList) = true := he
        clear hx he h hz
        go_wp2_with fail
        refine bodyPost_ret (v := .tuple #[ZV z, .bool true]) (by simp [results, Try.results15, go_sem, b0, b1, b2, b3, b4, b5, b6]) rfl ?_
        refine ⟨z, by rw [R.out]; rfl, by rw [R.out]; rfl, hzk.st ?_, ?_⟩
        · repeat refine Below.setCell ?_ (by simp) _
          exact hb0
        · repeat refine Below.setCell ?_ (by simp) _
          exact hb0
    · obtain rfl : k = l.length := by omega
      have R := Lib.hid (Hno.out HN.out)
      go_wp2_with fail
      refine bodyPost_ret (v := .tuple #[ZV zeroZ, .bool false]) (by simp [zeroZ, results, Try.results15, go_sem, b0, b1, b2, b3, b4, b5, b6]) rfl ?_
      refine ⟨zeroZ, by rw [R.out]; rfl, by rw [R.out]; rfl, ⟨Rd.nil, Rd.nil⟩, ?_⟩
      repeat refine Below.setCell ?_ (by simp) _
      exact hb0
end Go.Proofs.Ytppnkepjipglgaa
