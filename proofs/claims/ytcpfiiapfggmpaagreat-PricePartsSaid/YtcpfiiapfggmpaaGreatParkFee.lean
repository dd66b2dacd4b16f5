/- Fees of days, the longest stay, refunds: plain mathematics. No program in sight. -/
import Derived.Test.YtcpfiiapfggmpaaGreatJParkMath
import Derived.Test.YtcpfiiapfggmpaaGreatZoneEnforced
namespace Go.Proofs.YtcpfiiapfggmpaaGreat

def capD (dm n : Int) : Int := if 0 < dm then min n dm else n
def feeD (z : Zn) (a b d : Int) : Int := capD z.dayMax (V z.ss (U z.hs a (min (86400 * (d + 1)) b)) - V z.ss (U z.hs a (min (86400 * d) b)))
def dayN (a b : Int) : Nat := ((b - 1) / 86400 - a / 86400 + 1).toNat
def sumN (f : Nat → Int) (n : Nat) : Int := ((List.range n).map f).sum
theorem sumN_zero (f : Nat → Int) : sumN f 0 = 0 := rfl
theorem sumN_succ (f : Nat → Int) (n : Nat) : sumN f (n + 1) = sumN f n + f n := by
  unfold sumN
  rw [List.range_succ, List.map_append, List.sum_append]
  simp
theorem sumN_mono {f g : Nat → Int} : ∀ {n : Nat}, (∀ k, k < n → f k ≤ g k) → sumN f n ≤ sumN g n
  | 0, _ => by simp [sumN_zero]
  | n + 1, h => by
    rw [sumN_succ, sumN_succ]
    have := sumN_mono (n := n) fun k hk => h k (by omega)
    have := h n (by omega)
    omega
theorem sumN_nonneg {f : Nat → Int} : ∀ {n : Nat}, (∀ k, k < n → 0 ≤ f k) → 0 ≤ sumN f n
  | 0, _ => by simp [sumN_zero]
  | n + 1, h => by
    rw [sumN_succ]
    have := sumN_nonneg (n := n) fun k hk => h k (by omega)
    have := h n (by omega)
    omega
theorem sumN_more {f : Nat → Int} {m n : Nat} (hmn : m ≤ n) (h : ∀ k, k < n → 0 ≤ f k) : sumN f m ≤ sumN f n := by
  induction n with
  | zero => rw [show m = 0 by omega]; exact Int.le_refl _
  | succ n ih =>
    rcases (by omega : m ≤ n ∨ m = n + 1) with k | rfl
    · rw [sumN_succ]
      have := ih k fun j hj => h j (by omega)
      have := h n (by omega)
      omega
    · exact Int.le_refl _
def feeK (z : Zn) (a b : Int) (k : Nat) : Int := feeD z a b (a / 86400 + k)
def feesL (z : Zn) (a b : Int) : List Int := (List.range (dayN a b)).map (feeK z a b)
def feeS (z : Zn) (a b : Int) : Int := (feesL z a b).sum
theorem feeS_sum (z : Zn) (a b : Int) : feeS z a b = sumN (feeK z a b) (dayN a b) := rfl
theorem feesL_length (z : Zn) (a b : Int) : (feesL z a b).length = dayN a b := by simp [feesL]
theorem feesL_get {z : Zn} {a b : Int} {k : Nat} (h : k < dayN a b) : (feesL z a b)[k]? = some (feeK z a b k) := by
  unfold feesL
  rw [List.getElem?_map, List.getElem?_range h]
  rfl
theorem capD_range {dm n : Int} (h : 0 ≤ n) : 0 ≤ capD dm n ∧ capD dm n ≤ n ∧ (0 < dm → capD dm n ≤ dm) := by
  unfold capD
  split <;> omega
theorem capD_mono {dm m n : Int} (h : m ≤ n) : capD dm m ≤ capD dm n := by
  unfold capD
  split <;> omega
theorem feeD_range {z : Zn} (hs : StOk z.ss) (a b d : Int) : 0 ≤ feeD z a b d ∧ feeD z a b d ≤ V z.ss (U z.hs a b) ∧ (0 < z.dayMax → feeD z a b d ≤ z.dayMax) := by
  have h1 := V_mono hs (U_mono z.hs a (show min (86400 * d) b ≤ min (86400 * (d + 1)) b by omega))
  have h2 := V_mono hs (U_mono z.hs a (show min (86400 * (d + 1)) b ≤ b by omega))
  have h3 := V_nonneg hs (U z.hs a (min (86400 * d) b))
  have h4 := capD_range (dm := z.dayMax) (show 0 ≤ V z.ss (U z.hs a (min (86400 * (d + 1)) b)) - V z.ss (U z.hs a (min (86400 * d) b)) by omega)
  unfold feeD
  exact ⟨h4.1, by omega, h4.2.2⟩
theorem feeK_mono {z : Zn} (hs : StOk z.ss) {a b c : Int} (hbc : b ≤ c) {k : Nat} (hk : k < dayN a b) : feeK z a b k ≤ feeK z a c k := by
  unfold feeK feeD
  refine capD_mono ?_
  unfold dayN at hk
  have h1 : 86400 * (a / 86400 + (k : Int)) ≤ b - 1 := by omega
  have h2 := V_mono hs (U_mono z.hs a (show min (86400 * (a / 86400 + (k : Int) + 1)) b ≤ min (86400 * (a / 86400 + (k : Int) + 1)) c by omega))
  rw [show min (86400 * (a / 86400 + (k : Int))) b = 86400 * (a / 86400 + (k : Int)) by omega, show min (86400 * (a / 86400 + (k : Int))) c = 86400 * (a / 86400 + (k : Int)) by omega]
  omega
theorem dayN_mono {a b c : Int} (h : b ≤ c) : dayN a b ≤ dayN a c := by
  unfold dayN
  have := Int.ediv_le_ediv (show (0 : Int) < 86400 by omega) (show b - 1 ≤ c - 1 by omega)
  omega
theorem feeS_mono {z : Zn} (hs : StOk z.ss) {a b c : Int} (hbc : b ≤ c) : feeS z a b ≤ feeS z a c := by
  rw [feeS_sum, feeS_sum]
  have h1 := sumN_mono (f := feeK z a b) (g := feeK z a c) (n := dayN a b) fun k hk => feeK_mono hs hbc hk
  have h2 := sumN_more (f := feeK z a c) (dayN_mono (a := a) hbc) fun k _ => (feeD_range hs a c _).1
  omega
theorem feeS_nonneg {z : Zn} (hs : StOk z.ss) (a b : Int) : 0 ≤ feeS z a b := by
  rw [feeS_sum]
  exact sumN_nonneg fun k _ => (feeD_range hs a b _).1

/-! ### the answers -/
def stepsPE (z : Zn) (s : Int) : Int :=
  if checkE z ≠ 0 then checkE z else if s < 0 ∨ 68719476736 < s then 1 else if 1125899906842624 < V z.ss s then 13 else 0
def stepsPN (z : Zn) (s : Int) : Int := if stepsPE z s = 0 then V z.ss s else 0
def dayE (z : Zn) (a b : Int) : Int :=
  if checkE z ≠ 0 then checkE z else if daysE a b ≠ 0 then daysE a b else if 1125899906842624 < V z.ss (U z.hs a b) then 13 else 0
def dayL (z : Zn) (a b : Int) : List Int := if dayE z a b = 0 then feesL z a b else []
def feeE (z : Zn) (a b : Int) : Int := if dayE z a b ≠ 0 then dayE z a b else if 1125899906842624 < feeS z a b then 13 else 0
def feeN (z : Zn) (a b : Int) : Int := if feeE z a b = 0 then feeS z a b else 0
theorem check_st {z : Zn} (h : checkE z = 0) : StOk z.ss ∧ (∀ x ∈ z.hs, vw x = true) ∧ z.hs.length ≤ 32 ∧ 0 ≤ z.maxStay ∧ z.maxStay ≤ 68719476736 ∧ 0 ≤ z.dayMax ∧ z.dayMax ≤ 1125899906842624 := by
  unfold checkE at h
  split at h
  · cases h
  split at h
  · cases h
  rename_i h32
  split at h
  · cases h
  rename_i hv
  split at h
  · rename_i h1
    exact absurd h h1
  rename_i h1
  have hst := StOk.of (Decidable.not_not.1 h1)
  unfold tailE rangeZ at h
  split at h
  · cases h
  split at h
  · cases h
  refine ⟨hst, fun x hx => ?_, by omega, by omega, by omega, by omega, by omega⟩
  rw [Bool.not_eq_false, List.all_eq_true] at hv
  exact hv x hx
theorem dayE_ok {z : Zn} {a b : Int} (h : dayE z a b = 0) : checkE z = 0 ∧ daysE a b = 0 ∧ V z.ss (U z.hs a b) ≤ 1125899906842624 := by
  unfold dayE at h
  split at h
  · rename_i h1; exact absurd h h1
  split at h
  · rename_i h1; exact absurd h h1
  split at h
  · cases h
  · rename_i h1 h2 h3
    exact ⟨Decidable.not_not.1 h1, Decidable.not_not.1 h2, by omega⟩
theorem dayE_is {z : Zn} {a b : Int} (h1 : checkE z = 0) (h2 : daysE a b = 0) : dayE z a b = if 1125899906842624 < V z.ss (U z.hs a b) then 13 else 0 := by
  unfold dayE
  rw [if_neg (by simp [h1]), if_neg (by simp [h2])]
theorem dayE_1 {z : Zn} {a b : Int} (h1 : checkE z ≠ 0) : dayE z a b = checkE z := by unfold dayE; rw [if_pos h1]
theorem dayE_2 {z : Zn} {a b : Int} (h1 : checkE z = 0) (h2 : daysE a b ≠ 0) : dayE z a b = daysE a b := by unfold dayE; rw [if_neg (by simp [h1]), if_pos h2]
theorem feeE_ok {z : Zn} {a b : Int} (h : feeE z a b = 0) : dayE z a b = 0 ∧ feeS z a b ≤ 1125899906842624 := by
  unfold feeE at h
  split at h
  · rename_i h1; exact absurd h h1
  · rename_i h1
    split at h
    · cases h
    · exact ⟨Decidable.not_not.1 h1, by omega⟩
theorem daysE_rng {f u : Int} (h : daysE f u = 0) : 0 ≤ f ∧ f < u ∧ u ≤ 68719476736 ∧ (u - 1) / 86400 - f / 86400 ≤ 365 := by
  unfold daysE at h
  split at h
  · cases h
  · split at h
    · cases h
    · omega
theorem daysE_sub {a b c : Int} (h : daysE a c = 0) (hab : a < b) (hbc : b ≤ c) : daysE a b = 0 := by
  have hr := daysE_rng h
  have := Int.ediv_le_ediv (show (0 : Int) < 86400 by omega) (show b - 1 ≤ c - 1 by omega)
  exact daysE_0 ⟨hr.1, hab, by omega⟩ (by omega)
/-- a beginning of an interval that has a fee has a fee, and no greater one -/
theorem feeE_sub {z : Zn} {a b c : Int} (h : feeE z a c = 0) (hab : a < b) (hbc : b ≤ c) : feeE z a b = 0 ∧ feeS z a b ≤ feeS z a c := by
  obtain ⟨h1, h2⟩ := feeE_ok h
  obtain ⟨h3, h4, h5⟩ := dayE_ok h1
  have hs := (check_st h3).1
  have m := feeS_mono hs (a := a) hbc
  have v := V_mono hs (U_mono z.hs a hbc)
  have e : dayE z a b = 0 := by rw [dayE_is h3 (daysE_sub h4 hab hbc), if_neg (by omega)]
  refine ⟨?_, m⟩
  unfold feeE
  rw [if_neg (by simp [e]), if_neg (by omega)]

/-! ### the longest stay -/
def limZ (z : Zn) (f : Int) : Int := if 0 < z.maxStay then min (min 68719476736 (86400 * (f / 86400 + 366))) (f + z.maxStay) else min 68719476736 (86400 * (f / 86400 + 366))
/-- an end that the amount pays for -/
def paid (z : Zn) (f cents m : Int) : Prop := feeE z f m = 0 ∧ feeS z f m ≤ cents
instance (z : Zn) (f cents m : Int) : Decidable (paid z f cents m) := by unfold paid; infer_instance
theorem paid_sub {z : Zn} {f cents m n : Int} (h : paid z f cents n) (h1 : f < m) (h2 : m ≤ n) : paid z f cents m := by
  obtain ⟨a, b⟩ := feeE_sub h.1 h1 h2
  exact ⟨a, by have := h.2; omega⟩
theorem limZ_range (z : Zn) {f : Int} (h0 : 0 ≤ f) (h1 : f < 68719476736) : f < limZ z f ∧ limZ z f ≤ 68719476736 ∧ (∀ m, f < m → m ≤ limZ z f → daysE f m = 0) := by
  have hl : f < limZ z f ∧ limZ z f ≤ 68719476736 ∧ limZ z f ≤ 86400 * (f / 86400 + 366) := by
    unfold limZ
    split <;> omega
  refine ⟨hl.1, hl.2.1, fun m p q => daysE_0 ⟨h0, p, by omega⟩ (by omega)⟩
/-- paid, for an end within the limit, of a valid zone -/
theorem paid_iff {z : Zn} {f cents m : Int} (hc : checkE z = 0) (hd : daysE f m = 0) (hm : cents ≤ 1125899906842624) : paid z f cents m ↔ V z.ss (U z.hs f m) ≤ 1125899906842624 ∧ feeS z f m ≤ cents := by
  unfold paid
  constructor
  · rintro ⟨a, b⟩
    exact ⟨(dayE_ok (feeE_ok a).1).2.2, b⟩
  · rintro ⟨a, b⟩
    refine ⟨?_, b⟩
    unfold feeE
    rw [dayE_is hc hd, if_neg (by rw [if_neg (by omega)]; simp), if_neg (by omega)]
/-- k seconds are paid for, and no more -/
def Lng (z : Zn) (f cents k : Int) : Prop := 0 ≤ k ∧ k ≤ limZ z f - f ∧ (0 < k → paid z f cents (f + k)) ∧ (k < limZ z f - f → ¬ paid z f cents (f + k + 1))
theorem Lng.unique {z : Zn} {f cents k j : Int} (h : Lng z f cents k) (g : Lng z f cents j) : k = j := by
  obtain ⟨a, b, c, d⟩ := h
  obtain ⟨a', b', c', d'⟩ := g
  rcases (by omega : k < j ∨ j < k ∨ k = j) with e | e | e
  · exact absurd (paid_sub (c' (by omega)) (by omega : f < f + k + 1) (by omega)) (d (by omega))
  · exact absurd (paid_sub (c (by omega)) (by omega : f < f + j + 1) (by omega)) (d' (by omega))
  · exact e
def longE0 (z : Zn) (f cents : Int) : Int := if checkE z ≠ 0 then checkE z else if f < 0 ∨ 68719476736 ≤ f then 12 else if cents < 0 ∨ 1125899906842624 < cents then 13 else 0
/-- what Longest answers -/
def LongR (z : Zn) (f cents : Int) (n e : Int) : Prop :=
  (longE0 z f cents ≠ 0 → n = 0 ∧ e = longE0 z f cents) ∧ (longE0 z f cents = 0 → ∃ k, Lng z f cents k ∧ (k = 0 → n = 0 ∧ e = 27) ∧ (k ≠ 0 → n = f + k ∧ e = 0))
theorem LongR.unique {z : Zn} {f cents n e m g : Int} (h : LongR z f cents n e) (k : LongR z f cents m g) : n = m ∧ e = g := by
  by_cases hz : longE0 z f cents = 0
  · obtain ⟨a, a1, a2, a3⟩ := h.2 hz
    obtain ⟨b, b1, b2, b3⟩ := k.2 hz
    obtain rfl := a1.unique b1
    by_cases ha : a = 0
    · obtain ⟨p, q⟩ := a2 ha
      obtain ⟨p', q'⟩ := b2 ha
      exact ⟨p.trans p'.symm, q.trans q'.symm⟩
    · obtain ⟨p, q⟩ := a3 ha
      obtain ⟨p', q'⟩ := b3 ha
      exact ⟨p.trans p'.symm, q.trans q'.symm⟩
  · obtain ⟨p, q⟩ := h.1 hz
    obtain ⟨p', q'⟩ := k.1 hz
    exact ⟨p.trans p'.symm, q.trans q'.symm⟩
theorem longE0_ok {z : Zn} {f cents : Int} (h : longE0 z f cents = 0) : checkE z = 0 ∧ 0 ≤ f ∧ f < 68719476736 ∧ 0 ≤ cents ∧ cents ≤ 1125899906842624 := by
  unfold longE0 at h
  split at h
  · rename_i h1; exact absurd h h1
  split at h
  · cases h
  split at h
  · cases h
  · rename_i h1 h2 h3
    exact ⟨Decidable.not_not.1 h1, by omega, by omega, by omega, by omega⟩

/-! ### refunds -/
def refE (z : Zn) (a b t : Int) : Int :=
  if feeE z a b ≠ 0 then feeE z a b else if t < a ∨ b < t then 12 else 0
def refN (z : Zn) (a b t : Int) : Int := if refE z a b t ≠ 0 then 0 else if t = a then feeS z a b else feeS z a b - feeS z a t
end Go.Proofs.YtcpfiiapfggmpaaGreat
