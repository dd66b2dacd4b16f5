/- Compensating rules in plain words: the error, the reduction. No program in sight. -/
import Derived.Test.YtlnnbkpcnhlfcaaDoorFirst
import Derived.Test.YtlnnbkpcnhlfcaaDoorSpanMath
namespace Go.Proofs.YtlnnbkpcnhlfcaaDoor

/-- a rule: its kind, its part -/
def badR (r : Iv) : Bool := !decide (0 ≤ r.1 ∧ r.1 ≤ 3 ∧ 0 ≤ r.2 ∧ r.2 ≤ 1000)
theorem badR_no {r : Iv} (h : badR r = false) : 0 ≤ r.1 ∧ r.1 ≤ 3 ∧ 0 ≤ r.2 ∧ r.2 ≤ 1000 := by simpa [badR] using h
theorem badR_yes {r : Iv} (h : badR r = true) : ¬ (0 ≤ r.1 ∧ r.1 ≤ 3 ∧ 0 ≤ r.2 ∧ r.2 ≤ 1000) := by unfold badR at h; intro k; rw [decide_eq_true k] at h; cases h
def relE (l : List Iv) (i : Nat) : Int := ((l[i]?).map fun r => if badR r then 1 else if (l.take i).any (fun y => y.1 == r.1) then 9 else 0).getD 0
def relsE (l : List Iv) : Int := if 12 < l.length then 3 else firstE (relE l) l.length
theorem relE_at {l : List Iv} {i : Nat} {r : Iv} (h : l[i]? = some r) : relE l i = if badR r then 1 else if (l.take i).any (fun y => y.1 == r.1) then 9 else 0 := by unfold relE; rw [h]; rfl
/-- firstE is 0: all are -/
theorem firstE_zero {f : Nat → Int} {n : Nat} (h : firstE f n = 0) : ∀ j, j < n → f j = 0 := by
  intro j
  induction j using Nat.strongRecOn with
  | ind j ih =>
    intro hj
    by_cases hf : f j = 0
    · exact hf
    · have := firstE_some (fun m hm => ih m hm (by omega)) hj hf
      rw [h] at this
      exact absurd this.symm hf
theorem relsE_ok {l : List Iv} (h : relsE l = 0) : l.length ≤ 12 ∧ ∀ r ∈ l, 0 ≤ r.1 ∧ r.1 ≤ 3 ∧ 0 ≤ r.2 ∧ r.2 ≤ 1000 := by
  unfold relsE at h
  split at h
  · exact absurd h (by decide)
  · refine ⟨by omega, fun r hr => ?_⟩
    obtain ⟨i, hi, rfl⟩ := List.getElem_of_mem hr
    have h1 := firstE_zero h i hi
    rw [relE_at (List.getElem?_eq_getElem hi)] at h1
    split at h1
    · exact absurd h1 (by decide)
    · rename_i q
      exact badR_no (by simpa using q)
def hasK (l : List Iv) (j : Int) : Bool := l.any fun y => y.1 == j
theorem hasK_snoc (l : List Iv) (r : Iv) (j : Int) : hasK (l ++ [r]) j = (hasK l j || (r.1 == j)) := by simp [hasK]
theorem relE_1 {l : List Iv} {i : Nat} {r : Iv} (h : l[i]? = some r) (hb : badR r = true) : relE l i = 1 := by rw [relE_at h, if_pos hb]
theorem relE_9 {l : List Iv} {i : Nat} {r : Iv} (h : l[i]? = some r) (hb : badR r = false) (hk : hasK (l.take i) r.1 = true) : relE l i = 9 := by
  rw [relE_at h, if_neg (by rw [hb]; simp)]
  exact if_pos hk
theorem relE_0 {l : List Iv} {i : Nat} {r : Iv} (h : l[i]? = some r) (hb : badR r = false) (hk : hasK (l.take i) r.1 = false) : relE l i = 0 := by
  rw [relE_at h, if_neg (by rw [hb]; simp)]
  exact if_neg (by unfold hasK at hk; rw [hk]; simp)
/-- a kind of devices -/
def knK (k : Int) : Bool := decide (1 ≤ k ∧ k ≤ 3)
def dnB (ks : List Int) (j : Int) : Bool := ks.any fun k => knK k && (j == 0 || j == k)
theorem dnB_snoc (ks : List Int) (x j : Int) : dnB (ks ++ [x]) j = (dnB ks j || (knK x && (j == 0 || j == x))) := by simp [dnB]
def partF (ks : List Int) (n : Int) (r : Iv) : Int := if dnB ks r.1 = true then max n r.2 else n
def partL (ks : List Int) (l : List Iv) : Int := l.foldl (partF ks) 0
def partN (l : List Iv) (ks : List Int) : Int := if relsE l ≠ 0 then 0 else partL ks l
theorem partL_snoc (ks : List Int) (l : List Iv) (r : Iv) : partL ks (l ++ [r]) = partF ks (partL ks l) r := by simp [partL]
theorem partL_bounds (ks : List Int) : ∀ (l : List Iv) (n : Int), (∀ r ∈ l, 0 ≤ r.2 ∧ r.2 ≤ 1000) → 0 ≤ n ∧ n ≤ 1000 → n ≤ l.foldl (partF ks) n ∧ l.foldl (partF ks) n ≤ 1000
  | [], n, _, h => ⟨Int.le_refl _, h.2⟩
  | r :: l, n, h, hn => by
    rw [List.foldl_cons]
    have hr := h r (by simp)
    have hp : n ≤ partF ks n r ∧ partF ks n r ≤ 1000 := by
      unfold partF
      split <;> omega
    have := partL_bounds ks l (partF ks n r) (fun x hx => h x (by simp [hx])) (by omega)
    omega
theorem partN_bounds (l : List Iv) (ks : List Int) : 0 ≤ partN l ks ∧ partN l ks ≤ 1000 := by
  unfold partN
  split
  · omega
  · rename_i h
    have := partL_bounds ks l 0 (fun r hr => by have := (relsE_ok (by omega)).2 r hr; omega) (by omega)
    exact this
/-- a tenth of a tenth of a tenth, rounded up -/
def upN (n m : Int) : Int := (n * m + 999) / 1000
theorem upN_bounds {n m : Int} (h0 : 0 ≤ n) (h1 : 0 ≤ m) (h2 : m ≤ 1000) : 0 ≤ upN n m ∧ upN n m ≤ n := by
  unfold upN
  have a : 0 ≤ n * m := Int.mul_nonneg h0 h1
  have b : n * m ≤ n * 1000 := Int.mul_le_mul_of_nonneg_left h2 h0
  omega
end Go.Proofs.YtlnnbkpcnhlfcaaDoor
