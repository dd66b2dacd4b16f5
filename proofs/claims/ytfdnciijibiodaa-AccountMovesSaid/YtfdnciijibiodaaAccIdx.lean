/- account.index, owned, Owner, and the reference's find, owns, Owner, walked. -/
import Derived.Test.YtfdnciijibiodaaAccEnc
import Derived.Test.YtfdnciijibiodaaIdx
import Derived.Test.YtfdnciijibiodaaBox
namespace Go.Proofs.Ytfdnciijibiodaa
open Go.RowKit Go.Lib

/-- ways of a test for the empty string -/
theorem toList_neE {a : ByteArray} (h : emp a = false) : ¬ a.toList = [] ∧ a.toList.isEmpty = false ∧ (a.toList == []) = false := by
  have h0 : ¬ a = ⟨#[]⟩ := fun q => by rw [(emp_iff a).2 q] at h; cases h
  have h1 : ¬ a.toList = [] := by
    intro q
    apply h0
    rw [ByteArray.toList_eq] at q
    cases a; simp only [ByteArray.mk.injEq]
    exact Array.toList_eq_nil_iff.1 q
  cases q : a.toList with
  | nil => exact absurd q h1
  | cons _ _ => exact ⟨by simp, rfl, rfl⟩

theorem toList_eE {a : ByteArray} (h : emp a = true) : a.toList = [] ∧ a.toList.isEmpty = true ∧ (a.toList == []) = true := by
  obtain rfl := (emp_iff a).1 h
  have : (⟨#[]⟩ : ByteArray).toList = [] := by rw [ByteArray.toList_eq]
  rw [this]
  exact ⟨rfl, rfl, rfl⟩

set_option maxRecDepth 100000 in
set_option maxHeartbeats 4000000 in
theorem index_any {A : Option Addr} (c : Nat) {l : List Ac} (s : ByteArray) {w : World} (h : Rd encAc 9 w w.heap.size A l) (hlen : l.length ≤ 9223372036854775807) :
    Calls Try.prog 20 #[.slice A l.length c, .string s] w fun e w' => (∃ i, e = .returned (.int .i64 i) ∧ IdxR (fun a : Ac => eqS a.v.name s) l i) ∧ Below w.heap.size w w' := by
  have H := Lib.hid h
  clear h
  go_enter Try.func20, Try.ntmps20
  go_wp2
  go_loopw [9] (fun i wr => ∃ k : Nat, k ≤ l.length ∧ i = .int .i64 k ∧ Hid (∀ y ∈ l.take k, eqS y.v.name s = false) ∧ Below w.heap.size w wr) (fun i _ => l.length - (RowKit.intOf i).toNat)
  case atStart => exact ⟨0, Nat.zero_le _, rfl, (by unfold Hid; simp), Below.refl _ _⟩
  case round =>
    obtain ⟨k, hk, rfl, HN, bW⟩ := hrel
    by_cases hi : k < l.length
    · obtain ⟨b, off, a, rfl, hb, hx, d0, d1, d2, d3, d4, d5, d6, d7, d8⟩ := (H.out.st bW).ac hi
      have bW2 := bW.al (.cells #[.string a.v.name, .string a.v.ag, .bool a.v.pre, .slice a.oA a.v.os.length a.oc, .int .i64 a.v.r0, .int .i64 a.v.r1, .int .i64 a.v.r2, .int .i64 a.v.r3, .bool a.v.ex] 39)
      have HK := Lib.hid hi
      cases he : eqS a.v.name s
      · have R := Lib.hid (all_succ' (p := fun y : Ac => eqS y.v.name s) hx HN.out he)
        have he2 : (a.v.name.toList == s.toList) = false := he
        clear hx he
        go_wp2_with fail
        go_roundw
        case rel => exact ⟨k + 1, HK.out, by go_num, R, bW2⟩
        case measure => have := HK.out; simp [RowKit.intOf]; omega
      · have R : Hid (IdxR (fun a : Ac => eqS a.v.name s) l (k : Int)) := Lib.hid (Or.inr ⟨k, a, hx, rfl, he, HN.out⟩)
        have he2 : (a.v.name.toList == s.toList) = true := he
        clear hx he
        go_wp2_with fail
        go_ret
        exact ⟨⟨_, rfl, R.out⟩, bW2⟩
    · obtain rfl : k = l.length := by omega
      have R : Hid (IdxR (fun a : Ac => eqS a.v.name s) l (-1)) := Lib.hid (Or.inl ⟨rfl, by have := HN.out; rwa [List.take_length] at this⟩)
      go_wp2
      go_ret
      exact ⟨⟨_, rfl, R.out⟩, bW⟩

set_option maxRecDepth 100000 in
set_option maxHeartbeats 4000000 in
theorem rfind_any {A : Option Addr} (c : Nat) {l : List Ac} (s : ByteArray) {w : World} (h : Rd encAc 9 w w.heap.size A l) (hlen : l.length ≤ 9223372036854775807) :
    Calls Try.prog 23 #[.slice A l.length c, .string s] w fun e w' => (∃ i, e = .returned (.int .i64 i) ∧ IdxR (fun a : Ac => eqS a.v.name s) l i) ∧ w' = w := by
  go_enter Try.func23, Try.ntmps23
  go_wp2
  go_loopw [5] (fun i wr => ∃ k : Nat, k ≤ l.length ∧ i = .int .i64 k ∧ Hid (∀ y ∈ l.take k, eqS y.v.name s = false) ∧ wr = w) (fun i _ => l.length - (RowKit.intOf i).toNat)
  case atStart => exact ⟨0, Nat.zero_le _, rfl, (by unfold Hid; simp), rfl⟩
  case round =>
    obtain ⟨k, hk, rfl, HN, rfl⟩ := hrel
    by_cases hi : k < l.length
    · obtain ⟨b, off, a, rfl, hb, hx, d0, d1, d2, d3, d4, d5, d6, d7, d8⟩ := h.ac hi
      have i1 : (0 : Int) ≤ (k : Int) := by omega
      have i2 : (k : Int) < (l.length : Int) := by omega
      have HK := Lib.hid hi
      cases he : eqS a.v.name s
      · have R := Lib.hid (all_succ' (p := fun y : Ac => eqS y.v.name s) hx HN.out he)
        have he2 : (a.v.name.toList == s.toList) = false := he
        clear hx he h
        go_wp2_with fail
        go_roundw
        case rel => exact ⟨k + 1, HK.out, by go_num, R, trivial⟩
        case measure => have := HK.out; simp [RowKit.intOf]; omega
      · have R : Hid (IdxR (fun a : Ac => eqS a.v.name s) l (k : Int)) := Lib.hid (Or.inr ⟨k, a, hx, rfl, he, HN.out⟩)
        have he2 : (a.v.name.toList == s.toList) = true := he
        clear hx he h
        go_wp2_with fail
        go_ret
        exact ⟨⟨_, rfl, R.out⟩, rfl⟩
    · obtain rfl : k = l.length := by omega
      have R : Hid (IdxR (fun a : Ac => eqS a.v.name s) l (-1)) := Lib.hid (Or.inl ⟨rfl, by have := HN.out; rwa [List.take_length] at this⟩)
      clear h
      go_wp2
      go_ret
      exact ⟨⟨_, rfl, R.out⟩, rfl⟩
end Go.Proofs.Ytfdnciijibiodaa
