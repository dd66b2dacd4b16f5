/- Comparisons that are read one after another: signs, total orders, strictly ascending lists. No program in sight. -/
import Derived.Test.YtcpfiiapfggmpaaStr
import Derived.Lib.Small
import Derived.Shelf.SlSortCmp.Insertion
namespace Go.Proofs.Ytcpfiiapfggmpaa
open Go.Sort

/-- the first number that is not 0 -/
def firstI : List Int → Int
  | [] => 0
  | x :: l => if x ≠ 0 then x else firstI l
/-- a comparison: signs, antisymmetric, transitive, and equal things are told apart from none -/
structure PreC {α : Type} (f : α → α → Int) : Prop where
  r : ∀ a b, f a b = -1 ∨ f a b = 0 ∨ f a b = 1
  s : ∀ a b, f b a = -f a b
  t : ∀ a b c, f a b < 0 → f b c < 0 → f a c < 0
  e : ∀ a b c, f a b = 0 → f a c = f b c
section
variable {α β : Type} {f g : α → α → Int}
theorem PreC.e2 (h : PreC f) (a b c : α) (k : f a b = 0) : f c a = f c b := by
  rw [h.s a c, h.s b c, h.e a b c k]
theorem PreC.on (h : PreC f) (p : β → α) : PreC (fun a b => f (p a) (p b)) := ⟨fun a b => h.r _ _, fun a b => h.s _ _, fun a b c => h.t _ _ _, fun a b c => h.e _ _ _⟩
theorem PreC.cons (h : PreC f) (k : PreC g) : PreC (fun a b => if f a b ≠ 0 then f a b else g a b) where
  r a b := by
    by_cases q : f a b = 0
    · rw [if_neg (by simp [q])]; exact k.r a b
    · rw [if_pos q]; exact h.r a b
  s a b := by
    by_cases q : f a b = 0
    · rw [if_neg (by rw [h.s a b, q]; simp), if_neg (by simp [q])]; exact k.s a b
    · rw [if_pos (by rw [h.s a b]; omega), if_pos q]; exact h.s a b
  t a b c := by
    by_cases q : f a b = 0
    · rw [if_neg (by simp [q] : ¬ f a b ≠ 0), h.e a b c q]
      intro h1
      by_cases q2 : f b c = 0
      · rw [if_neg (by simp [q2]), if_neg (by simp [q2])]; exact k.t a b c h1
      · rw [if_pos q2, if_pos q2]; exact id
    · rw [if_pos q]
      intro h1
      by_cases q2 : f b c = 0
      · rw [if_neg (by simp [q2])]
        intro _
        rw [if_pos (by rw [← h.e2 b c a q2]; exact q), ← h.e2 b c a q2]; exact h1
      · rw [if_pos q2]
        intro h2
        have h3 := h.t a b c h1 h2
        rw [if_pos (by omega)]; exact h3
  e a b c := by
    by_cases q : f a b = 0
    · rw [if_neg (by simp [q] : ¬ f a b ≠ 0), h.e a b c q]
      intro h1
      rw [k.e a b c h1]
    · rw [if_pos q]; exact fun h1 => absurd h1 q
theorem PreC.swo (h : PreC f) : SWO (ltOf f) where
  irrefl x := by
    unfold ltOf
    have := h.s x x
    exact decide_eq_false (by omega)
  trans x y z h1 h2 := by
    unfold ltOf at *
    exact decide_eq_true (h.t x y z (of_decide_eq_true h1) (of_decide_eq_true h2))
  ntrans x y z h1 h2 := by
    unfold ltOf at *
    have h1 := of_decide_eq_false h1
    have h2 := of_decide_eq_false h2
    refine decide_eq_false fun h3 => ?_
    rcases h.r x y with q | q | q
    · omega
    · rw [h.e x y z q] at h3; omega
    · rcases h.r y z with p | p | p
      · omega
      · rw [← h.e2 y z x p] at h3; omega
      · have := h.t z y x (by rw [h.s y z]; omega) (by rw [h.s x y]; omega)
        rw [h.s x z] at this; omega
end
abbrev cmpI : Int → Int → Int := Lib.compareInt
theorem cmpI_pre : PreC cmpI where
  r a b := by unfold cmpI Lib.compareInt; split; simp; split <;> simp
  s a b := by unfold cmpI Lib.compareInt; split <;> split <;> first | omega | (split <;> omega)
  t a b c := by unfold cmpI Lib.compareInt; intro h1 h2; split at h1 <;> (try (split at h1)) <;> split at h2 <;> (try (split at h2)) <;> first | omega | (rw [if_pos (by omega)]; omega)
  e a b c := by unfold cmpI Lib.compareInt; intro h1; split at h1 <;> (try (split at h1)) <;> first | omega | (have : a = b := by omega); subst this; rfl
theorem cmpI_zero {a b : Int} : cmpI a b = 0 ↔ a = b := by
  unfold cmpI Lib.compareInt
  constructor
  · intro h1; split at h1 <;> (try (split at h1)) <;> omega
  · rintro rfl; simp
def cmpS (a b : ByteArray) : Int := Lib.compareBytes a.data.toList b.data.toList
theorem cb_r : ∀ a b : List UInt8, Lib.compareBytes a b = -1 ∨ Lib.compareBytes a b = 0 ∨ Lib.compareBytes a b = 1
  | [], [] => by simp [Lib.compareBytes]
  | [], _ :: _ => by simp [Lib.compareBytes]
  | _ :: _, [] => by simp [Lib.compareBytes]
  | x :: a, y :: b => by unfold Lib.compareBytes; split; simp; split; simp; exact cb_r a b
theorem cb_lt (a b : List UInt8) : Lib.compareBytes a b < 0 ↔ a < b := (cmp_lt a b).1
theorem cb_gt (a b : List UInt8) : 0 < Lib.compareBytes a b ↔ b < a := (cmp_lt a b).2
theorem cb_zero (a b : List UInt8) : Lib.compareBytes a b = 0 ↔ a = b := by
  constructor
  · intro h
    have h1 := mt (cb_lt a b).2 (by omega)
    have h2 := mt (cb_gt a b).2 (by omega)
    exact List.le_antisymm (List.not_lt.1 h2) (List.not_lt.1 h1)
  · rintro rfl
    have h1 := mt (cb_lt a a).1 (List.lt_irrefl a)
    have h2 := mt (cb_gt a a).1 (List.lt_irrefl a)
    omega
theorem cmpS_zero {a b : ByteArray} : cmpS a b = 0 ↔ a = b := by
  unfold cmpS
  rw [cb_zero]
  constructor
  · intro h; cases a; cases b; simp only [ByteArray.mk.injEq]; exact Array.ext' h
  · rintro rfl; rfl
theorem cmpS_pre : PreC cmpS where
  r a b := cb_r _ _
  s a b := by
    unfold cmpS
    have h1 := cb_lt a.data.toList b.data.toList
    have h2 := cb_gt a.data.toList b.data.toList
    have h3 := cb_lt b.data.toList a.data.toList
    have h4 := cb_gt b.data.toList a.data.toList
    have r1 := cb_r a.data.toList b.data.toList
    have r2 := cb_r b.data.toList a.data.toList
    generalize Lib.compareBytes a.data.toList b.data.toList = x at *
    generalize Lib.compareBytes b.data.toList a.data.toList = y at *
    have e1 : x < 0 ↔ 0 < y := h1.trans h4.symm
    have e2 : 0 < x ↔ y < 0 := h2.trans h3.symm
    omega
  t a b c := by
    unfold cmpS
    rw [cb_lt, cb_lt, cb_lt]
    exact List.lt_trans
  e a b c := by
    intro h
    rw [cmpS_zero] at h
    subst h; rfl

/-- ascending without equal neighbours -/
def AscC {α : Type} (f : α → α → Int) (l : List α) : Prop := l.Pairwise fun a b => f a b < 0
theorem AscC.eq {α : Type} {f : α → α → Int} (h : PreC f) : ∀ {l r : List α}, AscC f l → AscC f r → (∀ x, x ∈ l ↔ x ∈ r) → l = r
  | [], [], _, _, _ => rfl
  | [], y :: r, _, _, m => by have := (m y).2 (by simp); simp at this
  | x :: l, [], _, _, m => by have := (m x).1 (by simp); simp at this
  | x :: l, y :: r, hl, hr, m => by
    have hl' := List.pairwise_cons.1 hl
    have hr' := List.pairwise_cons.1 hr
    have irr : ∀ z, ¬ f z z < 0 := fun z => by have := h.s z z; omega
    have exy : x = y := by
      rcases List.mem_cons.1 ((m x).1 (by simp)) with e | e
      · exact e
      · rcases List.mem_cons.1 ((m y).2 (by simp)) with e2 | e2
        · exact e2.symm
        · exact absurd (h.t x y x (hl'.1 y e2) (hr'.1 x e)) (irr x)
    subst exy
    congr 1
    refine AscC.eq h hl'.2 hr'.2 fun z => ?_
    constructor
    · intro hz
      rcases List.mem_cons.1 ((m z).1 (by simp [hz])) with e | e
      · subst e; exact absurd (hl'.1 z hz) (irr z)
      · exact e
    · intro hz
      rcases List.mem_cons.1 ((m z).2 (by simp [hz])) with e | e
      · subst e; exact absurd (hr'.1 z hz) (irr z)
      · exact e
end Go.Proofs.Ytcpfiiapfggmpaa
