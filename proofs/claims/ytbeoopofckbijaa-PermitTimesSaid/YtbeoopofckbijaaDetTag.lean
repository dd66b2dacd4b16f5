/- Transponder numbers: tag.Check and the reference's Check, walked. -/
import Derived.Test.YtbeoopofckbijaaProg
import Derived.Test.YtbeoopofckbijaaJFirst
import Derived.Outline
import Derived.Laws.RangeAny
import Derived.Laws.RangeString
import Derived.LoopTactic
import Derived.Laws.Closers25b
import Derived.IntWalk
namespace Go.Proofs.Ytbeoopofckbijaa
open Go.RowKit Go.Lib

def digB (c : Nat) : Bool := decide (48 ≤ c) && decide (c ≤ 57)
def digTo (s : ByteArray) (k : Nat) : Prop := ∀ i (h : i < s.size), i < k → digB (s[i]'h).toNat = true
/-- what digit c adds at place i -/
def lv (i c : Nat) : Int := if i % 2 = 0 then (if 9 < 2 * ((c : Int) - 48) then 2 * ((c : Int) - 48) - 9 else 2 * ((c : Int) - 48)) else (c : Int) - 48
def lsum (s : ByteArray) : Nat → Int
  | 0 => 0
  | k + 1 => lsum s k + lv k (s.get! k).toNat
def allDig (s : ByteArray) : Bool := (List.range s.size).all fun i => digB (s.get! i).toNat
def tagB (s : ByteArray) : Bool := decide (s.size = 12) && allDig s && decide (lsum s 12 % 10 = 0)
theorem get_at2 (s : ByteArray) (i : Nat) (h : i < s.size) : s.get! i = s[i]'h := get_at s i h
theorem allDig_iff (s : ByteArray) : allDig s = true ↔ digTo s s.size := by
  unfold allDig digTo
  simp only [List.all_eq_true, List.mem_range]
  constructor
  · intro h i hi _
    rw [← get_at2 s i hi]; exact h i hi
  · intro h i hi
    rw [get_at2 s i hi]; exact h i hi hi
theorem allDig_no {s : ByteArray} {k : Nat} (hk : k < s.size) (h : digB (s[k]'hk).toNat = false) : allDig s = false := by
  cases hb : allDig s
  · rfl
  · have := (allDig_iff s).1 hb k hk hk
    rw [h] at this; cases this
theorem digTo_succ {s : ByteArray} {k : Nat} (h : digTo s k) (hk : k < s.size) (ho : digB (s[k]'hk).toNat = true) : digTo s (k + 1) := by
  intro i hi hik
  rcases (by omega : i < k ∨ i = k) with e | rfl
  · exact h i hi e
  · exact ho
theorem digB_yes {c : Nat} (h : digB c = true) : 48 ≤ (c : Int) ∧ (c : Int) ≤ 57 := by unfold digB at h; simp at h; omega
theorem digB_no {c : Nat} (h : digB c = false) : (c : Int) < 48 ∨ (48 ≤ (c : Int) ∧ 57 < (c : Int)) := by unfold digB at h; simp at h; omega
theorem lv_bounds {i c : Nat} (h : digB c = true) : 0 ≤ lv i c ∧ lv i c ≤ 9 := by
  have := digB_yes h
  unfold lv
  split
  · split <;> omega
  · omega
theorem lsum_bounds {s : ByteArray} (h : allDig s = true) : ∀ k, k ≤ s.size → 0 ≤ lsum s k ∧ lsum s k ≤ 9 * (k : Int)
  | 0, _ => by simp [lsum]
  | k + 1, hk => by
    have ih := lsum_bounds h k (by omega)
    have := (allDig_iff s).1 h k (by omega) (by omega)
    rw [← get_at2 s k (by omega)] at this
    have hv := lv_bounds (i := k) this
    unfold lsum
    omega
theorem below_iter2 (w : World) (s : ByteArray) (pos : Nat) : Below w.heap.size w (w.iter s pos) := (Below.refl _ w).al _
theorem next_dig {P : Program} (w : World) (s : ByteArray) (pos : Nat) (hp : pos < s.size) :
    ∃ c wd : Nat, (∀ ty, (Instr.next (.pointer (some ⟨w.heap.size, 0, none⟩)) true ty).run P (w.iter s pos) = .ok (.tuple #[.bool true, .int .i64 pos, .int .i32 c]) (w.iter s (pos + wd))) ∧
      digB c = digB (s[pos]'hp).toNat ∧ (digB c = true → wd = 1 ∧ c = (s[pos]'hp).toNat) ∧ c ≤ 2147483647 := by
  by_cases ha : (s[pos]'hp).toNat < 128
  · exact ⟨(s[pos]'hp).toNat, 1, fun ty => run_next_ascii w s pos ty hp ha, rfl, fun _ => ⟨rfl, rfl⟩, by omega⟩
  · have h1 := (decode_high s pos hp (by omega)).1
    have e1 : digB (Utf8.decode s pos).1 = false := by
      unfold digB
      simp only [Bool.and_eq_false_iff, decide_eq_false_iff_not]
      omega
    have e2 : digB (s[pos]'hp).toNat = false := by
      unfold digB
      simp only [Bool.and_eq_false_iff, decide_eq_false_iff_not]
      omega
    refine ⟨(Utf8.decode s pos).1, (Utf8.decode s pos).2, fun ty => run_next_any w s pos ty hp, by rw [e1, e2], fun h => ?_, decode_le s pos⟩
    rw [e1] at h
    cases h

end Go.Proofs.Ytbeoopofckbijaa
