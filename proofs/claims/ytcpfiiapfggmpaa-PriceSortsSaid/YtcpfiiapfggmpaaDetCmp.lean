/- cmp.Compare at strings, cmp.Or at numbers, walked. -/
import Derived.Test.YtcpfiiapfggmpaaDetEnc
import Derived.Test.YtcpfiiapfggmpaaSort
import Derived.Test.YtcpfiiapfggmpaaShelf
import Derived.Test.YtcpfiiapfggmpaaJInts
import Derived.IntWalk
import Derived.BigQuiet
namespace Go.Proofs.Ytcpfiiapfggmpaa
open Go.RowKit Go.Lib

theorem cmpS_if (a b : ByteArray) : cmpS a b = if sltB a b = true then -1 else if sltB b a = true then 1 else 0 := by
  have h1 := cb_lt a.data.toList b.data.toList
  have h2 := cb_gt a.data.toList b.data.toList
  have r := cb_r a.data.toList b.data.toList
  unfold cmpS sltB
  simp only [ByteArray.toList_eq, decide_eq_true_eq, ← h1, ← h2]
  generalize Lib.compareBytes a.data.toList b.data.toList = x at *
  rcases r with rfl | rfl | rfl <;> simp
theorem eqS_def (a b : ByteArray) : (a.toList == b.toList) = eqS a b := rfl

theorem cmpInt_any (a b : Int) (W : World) : Calls Try.prog 26 #[.int .i64 a, .int .i64 b] W fun e w' => e = .returned (.int .i64 (cmpI a b)) ∧ w' = W :=
  AnyG.cmp_Compare_int Try.lay_cmpint_f26 a b W

theorem firstI_drop {l : List Int} {k : Nat} {x : Int} (h : l[k]? = some x) : firstI (l.drop k) = if x ≠ 0 then x else firstI (l.drop (k + 1)) := by
  obtain ⟨hk, rfl⟩ := List.getElem?_eq_some_iff.1 h
  rw [List.drop_eq_getElem_cons hk]; rfl
set_option maxRecDepth 100000 in
set_option maxHeartbeats 4000000 in
theorem or_any {A : Option Addr} (c : Nat) {l : List Int} {w : World} (h : Rd encI 1 w w.heap.size A l) (hl : l.length ≤ 1000) :
    Calls Try.prog 25 #[.slice A l.length c] w fun e w' => e = .returned (.int .i64 (firstI l)) ∧ w' = w := by
  have HH := Lib.hid h
  clear h
  go_enter Try.func25, Try.ntmps25
  go_wp2_with fail
  go_loopw [8] (fun i wr => ∃ k : Nat, k ≤ l.length ∧ i = .int .i64 k ∧ Hid (firstI (l.drop k) = firstI l) ∧ wr = w) (fun i _ => l.length - (RowKit.intOf i).toNat)
  case atStart => exact ⟨0, Nat.zero_le _, rfl, rfl, rfl⟩
  case round =>
    obtain ⟨k, hk, rfl, HQ, rfl⟩ := hrel
    by_cases hi : k < l.length
    · obtain ⟨b, off, x, hA, hg, hx, hc⟩ := HH.out.at_ hi
      have d0 := hc 0 _ rfl
      have HD := Lib.hid (firstI_drop hx)
      have HL := Lib.hid hi
      have hi1 : (0 : Int) ≤ (k : Int) := by omega
      have hi2 : (k : Int) < (l.length : Int) := by omega
      subst hA
      simp only [Nat.mul_one, Nat.add_zero] at d0
      clear hc hx
      by_cases hx0 : x = 0
      · have HN := Lib.hid (show firstI (l.drop (k + 1)) = firstI l by rw [← HQ.out, HD.out, if_neg (by simp [hx0])])
        have hx1 : (x != 0) = false := by simp [hx0]
        clear hx0
        go_wp2
        go_roundw
        case rel => exact ⟨k + 1, HL.out, by go_num, HN, trivial⟩
        case measure => have := HL.out; simp [RowKit.intOf]; omega
      · have HN : Hid (firstI l = x) := Lib.hid (show firstI l = x by rw [← HQ.out, HD.out, if_pos hx0])
        have hx1 : (x != 0) = true := by simp [hx0]
        clear hx0 HQ HD
        go_wp2
        go_ret
        exact ⟨by rw [HN.out]; rfl, rfl⟩
    · obtain rfl : k = l.length := by omega
      have HN : Hid (firstI l = 0) := Lib.hid (by rw [← HQ.out, List.drop_length]; rfl)
      clear HQ hi hk
      go_wp2
      go_ret
      exact ⟨by rw [HN.out]; rfl, rfl⟩
end Go.Proofs.Ytcpfiiapfggmpaa
