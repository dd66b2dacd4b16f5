/- The reference's Find, walked. -/
import Derived.Test.YtgkppjkmakomnaaJDevEnc
import Derived.Test.YtgkppjkmakomnaaJStabList
import Derived.BigQuiet
namespace Go.Proofs.Ytgkppjkmakomnaa
open Go.RowKit Go.Lib

def findD (l : List Dv) (nm : ByteArray) : Option Dv := l.find? fun d => eqS d.name nm
def zeroD : Dv := ⟨⟨#[]⟩, ⟨#[]⟩, 0, 0, none, 0, [], none, 0, []⟩
def FindDR (l : List Dv) (nm : ByteArray) (w w' : World) (e : Ending) : Prop :=
  ∃ d, e = .returned (.tuple #[DV d, .bool (findD l nm).isSome]) ∧ vD d = vD ((findD l nm).getD zeroD) ∧ DOk w' d ∧ Below w.heap.size w w'
theorem findD_at {l : List Dv} {nm : ByteArray} {k : Nat} {d : Dv} (hx : l[k]? = some d) (h : ∀ y ∈ l.take k, eqS y.name nm = false) (hz : eqS d.name nm = true) : findD l nm = some d := by
  unfold findD
  obtain ⟨hk, rfl⟩ := List.getElem?_eq_some_iff.1 hx
  rw [List.find?_eq_some_iff_getElem]
  refine ⟨hz, k, hk, rfl, fun j hj => ?_⟩
  have := h l[j] (by rw [List.mem_take_iff_getElem]; exact ⟨j, by omega, rfl⟩)
  simp [this]
theorem findD_none {l : List Dv} {nm : ByteArray} (h : ∀ y ∈ l.take l.length, eqS y.name nm = false) : findD l nm = none := by
  rw [List.take_length] at h
  unfold findD
  rw [List.find?_eq_none]
  intro x hx
  rw [h x hx]
  simp

set_option maxRecDepth 100000 in
set_option maxHeartbeats 2000000 in
theorem rfindD_any {A : Option Addr} (c : Nat) {l : List Dv} {nm : ByteArray} {w : World} (h : Rd encD 6 w w.heap.size A l) (hz : DsOk w l) (hlen : l.length ≤ 9223372036854775807) :
    Calls Try.prog 34 #[.slice A l.length c, .string nm] w fun e w' => FindDR l nm w w' e := by
  have hb0 : Below w.heap.size w (w.alloc (.cells #[.string ⟨#[]⟩, .string ⟨#[]⟩, .int .i64 0, .int .i64 0, .slice none 0 0, .slice none 0 0] 59)) := (Below.refl _ w).al _
  have hz0 : w.heap.size < (w.alloc (.cells #[.string ⟨#[]⟩, .string ⟨#[]⟩, .int .i64 0, .int .i64 0, .slice none 0 0, .slice none 0 0] 59)).heap.size := by simp
  have b0 : (w.alloc (.cells #[.string ⟨#[]⟩, .string ⟨#[]⟩, .int .i64 0, .int .i64 0, .slice none 0 0, .slice none 0 0] 59)).cell? ⟨w.heap.size, 0, none⟩ = some (.string ⟨#[]⟩) := by simp
  have f0 : (w.alloc (.cells #[.string ⟨#[]⟩, .string ⟨#[]⟩, .int .i64 0, .int .i64 0, .slice none 0 0, .slice none 0 0] 59)).frozen? ⟨w.heap.size, 0, none⟩ = false := by simp
  have b1 : (w.alloc (.cells #[.string ⟨#[]⟩, .string ⟨#[]⟩, .int .i64 0, .int .i64 0, .slice none 0 0, .slice none 0 0] 59)).cell? ⟨w.heap.size, 1, none⟩ = some (.string ⟨#[]⟩) := by simp
  have f1 : (w.alloc (.cells #[.string ⟨#[]⟩, .string ⟨#[]⟩, .int .i64 0, .int .i64 0, .slice none 0 0, .slice none 0 0] 59)).frozen? ⟨w.heap.size, 1, none⟩ = false := by simp
  have b2 : (w.alloc (.cells #[.string ⟨#[]⟩, .string ⟨#[]⟩, .int .i64 0, .int .i64 0, .slice none 0 0, .slice none 0 0] 59)).cell? ⟨w.heap.size, 2, none⟩ = some (.int .i64 0) := by simp
  have f2 : (w.alloc (.cells #[.string ⟨#[]⟩, .string ⟨#[]⟩, .int .i64 0, .int .i64 0, .slice none 0 0, .slice none 0 0] 59)).frozen? ⟨w.heap.size, 2, none⟩ = false := by simp
  have b3 : (w.alloc (.cells #[.string ⟨#[]⟩, .string ⟨#[]⟩, .int .i64 0, .int .i64 0, .slice none 0 0, .slice none 0 0] 59)).cell? ⟨w.heap.size, 3, none⟩ = some (.int .i64 0) := by simp
  have f3 : (w.alloc (.cells #[.string ⟨#[]⟩, .string ⟨#[]⟩, .int .i64 0, .int .i64 0, .slice none 0 0, .slice none 0 0] 59)).frozen? ⟨w.heap.size, 3, none⟩ = false := by simp
  have b4 : (w.alloc (.cells #[.string ⟨#[]⟩, .string ⟨#[]⟩, .int .i64 0, .int .i64 0, .slice none 0 0, .slice none 0 0] 59)).cell? ⟨w.heap.size, 4, none⟩ = some (.slice none 0 0) := by simp
  have f4 : (w.alloc (.cells #[.string ⟨#[]⟩, .string ⟨#[]⟩, .int .i64 0, .int .i64 0, .slice none 0 0, .slice none 0 0] 59)).frozen? ⟨w.heap.size, 4, none⟩ = false := by simp
  have b5 : (w.alloc (.cells #[.string ⟨#[]⟩, .string ⟨#[]⟩, .int .i64 0, .int .i64 0, .slice none 0 0, .slice none 0 0] 59)).cell? ⟨w.heap.size, 5, none⟩ = some (.slice none 0 0) := by simp
  have f5 : (w.alloc (.cells #[.string ⟨#[]⟩, .string ⟨#[]⟩, .int .i64 0, .int .i64 0, .slice none 0 0, .slice none 0 0] 59)).frozen? ⟨w.heap.size, 5, none⟩ = false := by simp
  have Hat := Lib.hid (show ∀ k z, l[k]? = some z → (∀ y ∈ l.take k, eqS y.name nm = false) → eqS z.name nm = true → findD l nm = some z from fun k z => findD_at)
  have Hno := Lib.hid (@findD_none l nm)
  unfold FindDR
  generalize findD l nm = r at *
  go_enter Try.func34, Try.ntmps34
  go_wp2
  generalize w.alloc (.cells #[.string ⟨#[]⟩, .string ⟨#[]⟩, .int .i64 0, .int .i64 0, .slice none 0 0, .slice none 0 0] 59) = w1 at *
  go_loopw [6] (fun i wr => ∃ k : Nat, k ≤ l.length ∧ i = .int .i64 k ∧ Hid (∀ y ∈ l.take k, eqS y.name nm = false) ∧ wr = w1) (fun i _ => l.length - (intOf i).toNat)
  case atStart => exact ⟨0, Nat.zero_le _, rfl, (by unfold Hid; simp), rfl⟩
  case round =>
    obtain ⟨k, hk, rfl, HN, rfl⟩ := hrel
    by_cases hi : k < l.length
    · obtain ⟨b, off, z, rfl, hb, hx, d0, d1, d2, d3, d4, d5⟩ := (h.keep hb0).d hi
      have hzk := hz z (List.mem_of_getElem? hx)
      have hi2 : (k : Int) < (l.length : Int) := by omega
      cases he : eqS z.name nm
      · have R := Lib.hid (all_succ' (p := fun y => eqS y.name nm) hx HN.out he)
        have he2 : (z.name.toList == nm.toList) = false := he
        clear hx he b0 b1 b2 b3 b4 b5 f0 f1 f2 f3 f4 f5 h hz
        go_wp2_with fail
        go_roundw
        case rel => exact ⟨k + 1, by omega, by go_num, R, by first | rfl | trivial⟩
        case measure => simp [intOf]; omega
      · have R := Lib.hid (Hat.out k z hx HN.out he)
        have he2 : (z.name.toList == nm.toList) = true := he
        clear hx he h hz
        go_wp2_with fail
        refine bodyPost_ret (v := .tuple #[DV z, .bool true]) (by simp [results, DV, Try.results34, go_sem, b0, b1, b2, b3, b4, b5]) rfl ?_
        refine ⟨z, by rw [R.out]; rfl, by rw [R.out]; rfl, hzk.st ?_, ?_⟩
        · repeat refine Below.setCell ?_ (by simp) _
          exact hb0
        · repeat refine Below.setCell ?_ (by simp) _
          exact hb0
    · obtain rfl : k = l.length := by omega
      have R := Lib.hid (Hno.out HN.out)
      go_wp2_with fail
      refine bodyPost_ret (v := .tuple #[DV zeroD, .bool false]) (by simp [DV, zeroD, results, Try.results34, go_sem, b0, b1, b2, b3, b4, b5]) rfl ?_
      refine ⟨zeroD, by rw [R.out]; rfl, by rw [R.out]; rfl, ⟨Rd.nil, Rd.nil⟩, ?_⟩
      repeat refine Below.setCell ?_ (by simp) _
      exact hb0
end Go.Proofs.Ytgkppjkmakomnaa
