/- Plates: the plain normal form; plate.Normal, walked. -/
import Derived.Test.YtbeoopofckbijaaDetTag
import Derived.Test.YtbeoopofckbijaaBlk
import Derived.Laws.IdiomStrings
namespace Go.Proofs.Ytbeoopofckbijaa
open Go.RowKit Go.Lib

def encB (b : UInt8) : List Value := [.int .u8 (b.toNat : Int)]
theorem encB_ok : Enc encB 1 := ⟨fun _ => rfl, fun x u hu => by simp [encB] at hu; subst hu; rfl⟩
theorem tyB : TyS Try.prog 80 5 1 1 := TyS.mk' (z := .int .u8 0) Try.underlying80 (by kernel_rfl) rfl (by omega)
def upB (b : UInt8) : UInt8 := if 97 ≤ b.toNat ∧ b.toNat ≤ 122 then b - 32 else b
def skipB (b : UInt8) : Bool := decide (b.toNat = 32) || decide (b.toNat = 45)
def alB (b : UInt8) : Bool := (decide (65 ≤ b.toNat) && decide (b.toNat ≤ 90)) || (decide (48 ≤ b.toNat) && decide (b.toNat ≤ 57))
/-- a byte that may stand in a plate -/
def okPl (b : UInt8) : Bool := skipB b || alB (upB b)
def plAll (s : ByteArray) (k : Nat) : Prop := ∀ i (h : i < s.size), i < k → okPl (s[i]'h) = true
/-- the bytes of the normal form -/
def plOut (s : ByteArray) : Nat → List UInt8
  | 0 => []
  | k + 1 => plOut s k ++ (if skipB (s.get! k) = true then [] else [upB (s.get! k)])
def plAllB (s : ByteArray) : Bool := (List.range s.size).all fun i => okPl (s.get! i)
def plB (s : ByteArray) : Bool := plAllB s && decide (2 ≤ (plOut s s.size).length) && decide ((plOut s s.size).length ≤ 10)
/-- the normal form, empty where there is none -/
def plS (s : ByteArray) : ByteArray := if plB s = true then ⟨(plOut s s.size).toArray⟩ else ⟨#[]⟩
def plE (s : ByteArray) : Int := if plB s = true then 0 else 19
theorem plAllB_iff (s : ByteArray) : plAllB s = true ↔ plAll s s.size := by
  unfold plAllB plAll
  simp only [List.all_eq_true, List.mem_range]
  constructor
  · intro h i hi _
    rw [← get_at2 s i hi]; exact h i hi
  · intro h i hi
    rw [get_at2 s i hi]; exact h i hi hi
theorem plB_bad {s : ByteArray} {k : Nat} (hk : k < s.size) (h : okPl (s[k]'hk) = false) : plB s = false := by
  have : plAllB s = false := by
    cases hb : plAllB s
    · rfl
    · have := (plAllB_iff s).1 hb k hk hk
      rw [h] at this; cases this
  unfold plB; rw [this]; rfl
theorem plAll_succ {s : ByteArray} {k : Nat} (h : plAll s k) (hk : k < s.size) (ho : okPl (s[k]'hk) = true) : plAll s (k + 1) := by
  intro i hi hik
  rcases (by omega : i < k ∨ i = k) with e | rfl
  · exact h i hi e
  · exact ho
theorem plOut_skip {s : ByteArray} {k : Nat} (hk : k < s.size) (h : skipB (s[k]'hk) = true) : plOut s (k + 1) = plOut s k := by
  show plOut s k ++ _ = _
  rw [get_at2 s k hk, if_pos h, List.append_nil]
theorem plOut_add {s : ByteArray} {k : Nat} (hk : k < s.size) (h : skipB (s[k]'hk) = false) : plOut s (k + 1) = plOut s k ++ [upB (s[k]'hk)] := by
  show plOut s k ++ _ = _
  rw [get_at2 s k hk, if_neg (by rw [h]; simp)]
theorem plOut_mono (s : ByteArray) {k : Nat} : ∀ {n : Nat}, k ≤ n → (plOut s k).length ≤ (plOut s n).length
  | 0, h => by obtain rfl : k = 0 := by omega
               exact Nat.le_refl _
  | n + 1, h => by
    by_cases e : k = n + 1
    · subst e; exact Nat.le_refl _
    · refine Nat.le_trans (plOut_mono s (n := n) (by omega)) ?_
      show _ ≤ (plOut s n ++ _).length
      rw [List.length_append]; omega
theorem plOut_le (s : ByteArray) : ∀ k, (plOut s k).length ≤ k
  | 0 => Nat.le_refl _
  | k + 1 => by
    have := plOut_le s k
    show (plOut s k ++ _).length ≤ _
    rw [List.length_append]
    split <;> simp <;> omega
theorem plB_long {s : ByteArray} {k : Nat} (hk : k ≤ s.size) (h : 10 < (plOut s k).length) : plB s = false := by
  have := plOut_mono s hk
  unfold plB
  rw [decide_eq_false (by omega : ¬ (plOut s s.size).length ≤ 10), Bool.and_false]
theorem plB_end {s : ByteArray} (h : plAll s s.size) : plB s = (decide (2 ≤ (plOut s s.size).length) && decide ((plOut s s.size).length ≤ 10)) := by
  unfold plB
  rw [(plAllB_iff s).2 h, Bool.true_and]
/-- the ways of a byte -/
theorem pl_ways (b : UInt8) : (∃ x : UInt8, 97 ≤ (b.toNat : Int) ∧ (b.toNat : Int) ≤ 122 ∧ upB b = x ∧ (x.toNat : Int) = (b.toNat : Int) - 32 ∧ skipB b = false ∧ okPl b = true) ∨
    ((b.toNat : Int) = 32 ∧ skipB b = true ∧ okPl b = true) ∨ ((b.toNat : Int) = 45 ∧ skipB b = true ∧ okPl b = true) ∨
    (65 ≤ (b.toNat : Int) ∧ (b.toNat : Int) ≤ 90 ∧ upB b = b ∧ skipB b = false ∧ okPl b = true) ∨ (48 ≤ (b.toNat : Int) ∧ (b.toNat : Int) ≤ 57 ∧ upB b = b ∧ skipB b = false ∧ okPl b = true) ∨
    (okPl b = false ∧ (b.toNat : Int) ≠ 32 ∧ (b.toNat : Int) ≠ 45 ∧ ¬ (65 ≤ (b.toNat : Int) ∧ (b.toNat : Int) ≤ 90) ∧ ¬ (48 ≤ (b.toNat : Int) ∧ (b.toNat : Int) ≤ 57) ∧ ¬ (97 ≤ (b.toNat : Int) ∧ (b.toNat : Int) ≤ 122)) := by
  by_cases h1 : 97 ≤ b.toNat ∧ b.toNat ≤ 122
  · have e : (b - 32).toNat = b.toNat - 32 := by
      rw [UInt8.toNat_sub]
      have : (32 : UInt8).toNat = 32 := rfl
      omega
    have hs : skipB b = false := by unfold skipB; simp; omega
    refine Or.inl ⟨b - 32, by omega, by omega, by unfold upB; rw [if_pos h1], by omega, hs, ?_⟩
    unfold okPl
    rw [hs]
    unfold upB alB
    rw [if_pos h1, e]
    simp; omega
  · have hu : upB b = b := by unfold upB; rw [if_neg h1]
    by_cases h2 : b.toNat = 32
    · have hs : skipB b = true := by unfold skipB; simp [h2]
      exact Or.inr (Or.inl ⟨by omega, hs, by unfold okPl; rw [hs]; rfl⟩)
    · by_cases h3 : b.toNat = 45
      · have hs : skipB b = true := by unfold skipB; simp [h3]
        exact Or.inr (Or.inr (Or.inl ⟨by omega, hs, by unfold okPl; rw [hs]; rfl⟩))
      · have hs : skipB b = false := by unfold skipB; simp [h2, h3]
        by_cases h4 : 65 ≤ b.toNat ∧ b.toNat ≤ 90
        · exact Or.inr (Or.inr (Or.inr (Or.inl ⟨by omega, by omega, hu, hs, by unfold okPl; rw [hs, hu]; unfold alB; simp; omega⟩)))
        · by_cases h5 : 48 ≤ b.toNat ∧ b.toNat ≤ 57
          · exact Or.inr (Or.inr (Or.inr (Or.inr (Or.inl ⟨by omega, by omega, hu, hs, by unfold okPl; rw [hs, hu]; unfold alB; simp; omega⟩))))
          · refine Or.inr (Or.inr (Or.inr (Or.inr (Or.inr ⟨?_, by omega, by omega, by omega, by omega, by omega⟩))))
            unfold okPl
            rw [hs, hu]
            unfold alB
            simp; omega
end Go.Proofs.Ytbeoopofckbijaa
