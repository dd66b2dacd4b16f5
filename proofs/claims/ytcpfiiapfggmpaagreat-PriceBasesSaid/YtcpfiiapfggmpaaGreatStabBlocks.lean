/- Blocks of a stable sort, plain. No program in sight. -/
import Derived.Test.YtcpfiiapfggmpaaGreatStabMerge
namespace Go.Proofs.YtcpfiiapfggmpaaGreat
open Go.Sort

section
variable {α : Type} [Inhabited α] {lt : α → α → Bool}
def InB (s q i : Nat) : Prop := s * q ≤ i ∧ i < s * q + s
theorem InB.uniq {s q p i : Nat} (h : InB s q i) (k : InB s p i) : q = p := by
  unfold InB at h k
  have a : s * q < s * (p + 1) := by rw [Nat.mul_succ]; omega
  have b : s * p < s * (q + 1) := by rw [Nat.mul_succ]; omega
  have := Nat.lt_of_mul_lt_mul_left a
  have := Nat.lt_of_mul_lt_mul_left b
  omega
theorem InB.half {s q i : Nat} (h : InB (2 * s) q i) : InB s (2 * q) i ∨ InB s (2 * q + 1) i := by
  unfold InB at *
  have e1 : s * (2 * q) = 2 * s * q := by rw [Nat.mul_left_comm, Nat.mul_assoc]
  have e2 : s * (2 * q + 1) = 2 * s * q + s := by rw [Nat.mul_succ, e1]
  omega
theorem InB.dbl {s q i : Nat} (h : InB s (2 * q) i ∨ InB s (2 * q + 1) i) : InB (2 * s) q i := by
  unfold InB at *
  have e1 : s * (2 * q) = 2 * s * q := by rw [Nat.mul_left_comm, Nat.mul_assoc]
  have e2 : s * (2 * q + 1) = 2 * s * q + s := by rw [Nat.mul_succ, e1]
  omega
def FullB (lt : α → α → Bool) (nn s : Nat) (d : Array (α × Nat)) : Prop :=
  (∀ q i j, InB s q i → i < j → InB s q j → j < nn → lexB lt d[j]! d[i]! = false) ∧ ∀ q i, InB s q i → i < nn → InB s q d[i]!.2
def MidB (lt : α → α → Bool) (nn s a : Nat) (d : Array (α × Nat)) : Prop :=
  (∀ q i j, InB (2 * s) q i → i < j → InB (2 * s) q j → j < a → j < nn → lexB lt d[j]! d[i]! = false) ∧
  (∀ q i j, InB s q i → i < j → InB s q j → a ≤ i → j < nn → lexB lt d[j]! d[i]! = false) ∧
  (∀ q i, InB s q i → a ≤ i → i < nn → InB s q d[i]!.2) ∧ ∀ q i, InB (2 * s) q i → i < nn → InB (2 * s) q d[i]!.2
theorem FullB.start {nn s : Nat} {d : Array (α × Nat)} (h : FullB lt nn s d) : MidB lt nn s 0 d := by
  refine ⟨fun q i j _ _ _ h4 _ => by omega, fun q i j h1 h2 h3 _ h4 => h.1 q i j h1 h2 h3 h4, fun q i h1 _ h2 => h.2 q i h1 h2, fun q i h1 h2 => ?_⟩
  rcases h1.half with k | k
  · exact InB.dbl (.inl (h.2 _ i k h2))
  · exact InB.dbl (.inr (h.2 _ i k h2))
theorem FullB.all {nn s : Nat} {d : Array (α × Nat)} (h : FullB lt nn s d) (hs : nn ≤ s) : Srt lt 0 nn d :=
  fun i j _ h2 h3 => h.1 0 i j (by unfold InB; omega) h2 (by unfold InB; omega) h3
theorem MidB.prem {nn s a q b : Nat} {d : Array (α × Nat)} (h : MidB lt nn s a d) (ha : a = 2 * s * q) (hb : b ≤ nn) (hb2 : b ≤ a + 2 * s) (hb3 : a + s < b) :
    Srt lt a (a + s) d ∧ Srt lt (a + s) b d ∧ Crs a (a + s) b d := by
  have e1 : s * (2 * q) = a := by rw [ha, Nat.mul_left_comm, Nat.mul_assoc]
  have e2 : s * (2 * q + 1) = a + s := by rw [Nat.mul_succ, e1]
  refine ⟨fun i j h1 h2 h3 => h.2.1 (2 * q) i j (by unfold InB; omega) h2 (by unfold InB; omega) h1 (by omega), fun i j h1 h2 h3 => h.2.1 (2 * q + 1) i j (by unfold InB; omega) h2 (by unfold InB; omega) (by omega) (by omega), fun i j h1 h2 h3 h4 => ?_⟩
  have k1 := h.2.2.1 (2 * q) i (by unfold InB; omega) h1 (by omega)
  have k2 := h.2.2.1 (2 * q + 1) j (by unfold InB; omega) (by omega) (by omega)
  unfold InB at k1 k2
  omega
theorem MidB.step {nn s a q b : Nat} {d d' : Array (α × Nat)} (h : MidB lt nn s a d) (ha : a = 2 * s * q) (hab : a ≤ b) (hb : b ≤ nn) (hb2 : b ≤ a + 2 * s) (hsz : nn ≤ d.size) (p : PermIn a b d d') (hs : Srt lt a b d') : MidB lt nn s b d' := by
  have blk : ∀ i, a ≤ i → i < b → InB (2 * s) q i := fun i h1 h2 => by unfold InB; omega
  refine ⟨fun r i j h1 h2 h3 h4 h5 => ?_, fun r i j h1 h2 h3 h4 h5 => ?_, fun r i h1 h2 h3 => ?_, fun r i h1 h2 => ?_⟩
  · by_cases hj : j < a
    · rw [p.2.1 i (.inl (by omega)), p.2.1 j (.inl hj)]
      exact h.1 r i j h1 h2 h3 hj h5
    · obtain rfl := h3.uniq (blk j (by omega) h4)
      unfold InB at h1
      exact hs i j (by omega) h2 h4
  · rw [p.2.1 i (.inr h4), p.2.1 j (.inr (by omega))]
    exact h.2.1 r i j h1 h2 h3 (by omega) h5
  · rw [p.2.1 i (.inr h2)]
    exact h.2.2.1 r i h1 (by omega) h3
  · by_cases hi : a ≤ i ∧ i < b
    · obtain rfl := h1.uniq (blk i hi.1 hi.2)
      exact permIn_all d d' a b (fun x => InB (2 * s) r x.2) (by omega) p (fun u h5 h6 => h.2.2.2 r u (blk u h5 h6) (by omega)) i hi.1 hi.2
    · rw [p.2.1 i (by omega)]
      exact h.2.2.2 r i h1 h2
theorem MidB.done {nn s a q : Nat} {d : Array (α × Nat)} (h : MidB lt nn s a d) (ha : a = 2 * s * q) (hn : nn ≤ a + s) : FullB lt nn (2 * s) d := by
  have e1 : s * (2 * q) = a := by rw [ha, Nat.mul_left_comm, Nat.mul_assoc]
  refine ⟨fun r i j h1 h2 h3 h4 => ?_, fun r i h1 h2 => h.2.2.2 r i h1 h2⟩
  by_cases hj : j < a
  · exact h.1 r i j h1 h2 h3 hj h4
  · have : InB (2 * s) q j := by unfold InB; omega
    obtain rfl := h3.uniq this
    unfold InB at h1
    exact h.2.1 (2 * r) i j (by unfold InB; omega) h2 (by unfold InB; omega) (by omega) h4
theorem MidB.full {nn s : Nat} {d : Array (α × Nat)} (h : MidB lt nn s nn d) : FullB lt nn (2 * s) d :=
  ⟨fun r i j h1 h2 h3 h4 => h.1 r i j h1 h2 h3 h4 h4, fun r i h1 h2 => h.2.2.2 r i h1 h2⟩
/-! ### the blocks of twenty -/
def InsB (lt : α → α → Bool) (nn a : Nat) (d : Array (α × Nat)) : Prop :=
  (∀ q i j, InB 20 q i → i < j → InB 20 q j → j < a → lexB lt d[j]! d[i]! = false) ∧ (∀ i, a ≤ i → i < nn → d[i]!.2 = i) ∧ ∀ q i, InB 20 q i → i < a → InB 20 q d[i]!.2
theorem InsB.start {nn : Nat} {d : Array (α × Nat)} (h : ∀ i, i < nn → d[i]!.2 = i) : InsB lt nn 0 d :=
  ⟨fun q i j _ _ _ h4 => by omega, fun i _ h2 => h i h2, fun q i _ h2 => by omega⟩
theorem InsB.prem {nn a b : Nat} {d : Array (α × Nat)} (h : InsB lt nn a d) (hb : b ≤ nn) : ∀ s t, a ≤ s → s < t → t < b → d[s]!.2 < d[t]!.2 :=
  fun s t h1 h2 h3 => by rw [h.2.1 s h1 (by omega), h.2.1 t (by omega) (by omega)]; exact h2
theorem InsB.step {nn a q b : Nat} {d d' : Array (α × Nat)} (h : InsB lt nn a d) (ha : a = 20 * q) (hab : a ≤ b) (hb : b ≤ nn) (hb2 : b ≤ a + 20) (hsz : nn ≤ d.size) (p : PermIn a b d d') (hs : Srt lt a b d') : InsB lt nn b d' := by
  have blk : ∀ i, a ≤ i → i < b → InB 20 q i := fun i h1 h2 => by unfold InB; omega
  refine ⟨fun r i j h1 h2 h3 h4 => ?_, fun i h1 h2 => ?_, fun r i h1 h2 => ?_⟩
  · by_cases hj : j < a
    · rw [p.2.1 i (.inl (by omega)), p.2.1 j (.inl hj)]
      exact h.1 r i j h1 h2 h3 hj
    · obtain rfl := h3.uniq (blk j (by omega) h4)
      unfold InB at h1
      exact hs i j (by omega) h2 h4
  · rw [p.2.1 i (.inr h1)]
    exact h.2.1 i (by omega) h2
  · by_cases hi : a ≤ i
    · obtain rfl := h1.uniq (blk i hi h2)
      exact permIn_all d d' a b (fun x => InB 20 r x.2) (by omega) p (fun u h5 h6 => by rw [h.2.1 u h5 (by omega)]; exact blk u h5 h6) i hi h2
    · rw [p.2.1 i (.inl (by omega))]
      exact h.2.2 r i h1 (by omega)
theorem InsB.full {nn : Nat} {d : Array (α × Nat)} (h : InsB lt nn nn d) : FullB lt nn 20 d := ⟨h.1, h.2.2⟩
end
end Go.Proofs.YtcpfiiapfggmpaaGreat
