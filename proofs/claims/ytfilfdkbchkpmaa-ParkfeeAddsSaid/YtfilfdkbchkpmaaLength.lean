/- span.Length, walked. -/
import Derived.Test.YtfilfdkbchkpmaaJoins
namespace Go.Proofs.Ytfilfdkbchkpmaa
open Go.RowKit Go.Lib

set_option maxHeartbeats 2000000 in
theorem length_any {A : Option Addr} (c : Nat) {l : List Iv} {w : World} (h : Rd encIv 2 w w.heap.size A l) (hl : l.length ≤ 100000000000) :
    Calls Try.prog 31 #[.slice A l.length c] w fun e w' => ∃ n, e = .returned (.int .i64 (len n)) ∧ NF n ∧ (∀ t, Mem n t ↔ Mem l t) ∧ Below w.heap.size w w' := by
  have C1 := Lib.hid (join1 c h hl)
  clear h
  go_enter Try.func31, Try.ntmps31
  go_wp2_with fail
  refine C1.out.mono ?_
  rintro e w2 ⟨A2, c2, n, rfl, hn, hm, hon, hb2⟩
  have HM := Lib.hid hm
  have hrd := Lib.hid (hon.rd encIv_ok)
  have hln := hn.length_max
  have HN := Lib.hid hn
  clear C1 hm hon hn
  go_wp2_with fail
  go_loopw [3, 10] (fun v i wr => ∃ (k : Nat) (q : Int), k ≤ n.length ∧ i = .int .i64 k ∧ Hid (len (n.take k) = q) ∧ v = .int .i64 q ∧ Below w2.heap.size w2 wr) (fun _ i _ => n.length - (intOf i).toNat)
  case atStart => exact ⟨0, 0, Nat.zero_le _, rfl, rfl, rfl, Below.refl _ _⟩
  case round =>
    obtain ⟨k, q, hk, rfl, HO, rfl, hbr⟩ := hrel
    have hq := len_bounds (HN.out.take k)
    rw [HO.out] at hq
    obtain ⟨hq1, hq2⟩ := hq
    by_cases hlt : k < n.length
    · obtain ⟨g, off, f, u, rfl, hg, hx, hc0, hc1⟩ := (hrd.out.keep hbr).iv hlt
      have hv := HN.out.1 _ (List.mem_of_getElem? hx)
      unfold vld at hv
      simp only at hv
      obtain ⟨hv1, hv2, hv3⟩ := hv
      have R := Lib.hid (show len (n.take (k + 1)) = q + (u - f) by rw [take_snoc hx, len_snoc, HO.out])
      have hbr1 := hbr.al (.cells #[.int .i64 f, .int .i64 u] 35)
      clear hx HO hbr
      go_wp2
      go_roundw
      case rel => exact ⟨k + 1, _, by omega, by go_num, R, rfl, hbr1⟩
      case measure => simp [intOf]; omega
    · obtain rfl : k = n.length := by omega
      have R := Lib.hid (show len n = q by have := HO.out; rwa [List.take_length] at this)
      clear HO
      go_wp2
      go_ret
      exact ⟨n, ret_int R.out.symm, HN.out, HM.out, hb2.trans (hbr.mono hb2.size)⟩
end Go.Proofs.Ytfilfdkbchkpmaa
