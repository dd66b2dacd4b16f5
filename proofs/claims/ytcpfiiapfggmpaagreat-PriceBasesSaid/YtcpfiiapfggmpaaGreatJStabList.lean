/- Joined texts: StabList, Str, DetMath. -/
import Derived.Test.YtcpfiiapfggmpaaGreatJPrcTot
import Derived.Test.YtcpfiiapfggmpaaGreatJStrEq
import Derived.Sort.LotA
import Derived.Sort.Walk0
import Derived.Lib.Bytealg
import Derived.Laws.Strings
import Derived.Lib.Small
import Derived.Shelf.SlSortCmp.Insertion
/- What a stable sort makes of a list, plain. No program in sight. -/
namespace Go.Proofs.YtcpfiiapfggmpaaGreat
open Go.Sort

section
variable {β : Type} {lt : β → β → Bool}
/-- l' is l sorted stably -/
def StabOf (lt : β → β → Bool) (l l' : List β) : Prop := ∃ t : List (β × Nat), t.Perm l.zipIdx ∧ t.Pairwise (fun x y => lexB lt y x = false) ∧ l' = t.map Prod.fst
theorem StabOf.perm {l l' : List β} (h : StabOf lt l l') : l'.Perm l := by
  obtain ⟨t, hp, _, rfl⟩ := h
  have := hp.map Prod.fst
  rwa [List.zipIdx_map_fst] at this
theorem zipIdx_same {l : List β} {x y : β × Nat} (hx : x ∈ l.zipIdx) (hy : y ∈ l.zipIdx) (h : x.2 = y.2) : x = y := by
  obtain ⟨x, i⟩ := x
  obtain ⟨y, j⟩ := y
  have a := List.mem_zipIdx_iff_getElem?.1 hx
  have b := List.mem_zipIdx_iff_getElem?.1 hy
  simp only at h a b
  subst h
  rw [a] at b
  simpa using b
theorem StabOf.unique {l a b : List β} (h : StabOf lt l a) (k : StabOf lt l b) : a = b := by
  obtain ⟨t, hp, hs, rfl⟩ := h
  obtain ⟨u, kp, ks, rfl⟩ := k
  congr 1
  refine List.Perm.eq_of_pairwise (le := fun x y => lexB lt y x = false) ?_ hs ks (hp.trans kp.symm)
  intro x y hx hy h1 h2
  rw [lexB_no] at h1 h2
  refine zipIdx_same (hp.subset hx) (kp.subset hy) ?_
  rcases h1.2 with q | q
  · rw [h2.1] at q; cases q
  · rcases h2.2 with r | r
    · rw [h1.1] at r; cases r
    · omega
/-- one element more, behind its equals -/
def insS (lt : β → β → Bool) (x : β) : List β → List β
  | [] => [x]
  | y :: r => if lt x y then x :: y :: r else y :: insS lt x r
def insT (lt : β → β → Bool) (x : β × Nat) : List (β × Nat) → List (β × Nat)
  | [] => [x]
  | y :: r => if lt x.1 y.1 then x :: y :: r else y :: insT lt x r
theorem insT_fst (x : β × Nat) : ∀ t : List (β × Nat), (insT lt x t).map Prod.fst = insS lt x.1 (t.map Prod.fst)
  | [] => rfl
  | y :: r => by
    rw [insT, List.map_cons, insS]
    split
    · rfl
    · rw [List.map_cons, insT_fst x r]
theorem insT_perm (x : β × Nat) : ∀ t : List (β × Nat), (insT lt x t).Perm (x :: t)
  | [] => List.Perm.refl _
  | y :: r => by
    rw [insT]
    split
    · exact List.Perm.refl _
    · exact ((insT_perm x r).cons y).trans (List.Perm.swap x y r)
theorem insT_sorted (hS : SWO lt) (x : β × Nat) : ∀ t : List (β × Nat), t.Pairwise (fun a b => lexB lt b a = false) → (∀ y ∈ t, y.2 < x.2) → (insT lt x t).Pairwise (fun a b => lexB lt b a = false)
  | [], _, _ => by simp [insT]
  | y :: r, h, ht => by
    rw [insT]
    have h' := List.pairwise_cons.1 h
    split
    · rename_i hxy
      refine List.pairwise_cons.2 ⟨fun z hz => ?_, h⟩
      have hzy : lt z.1 y.1 = false := by
        rcases List.mem_cons.1 hz with rfl | hz
        · exact hS.irrefl _
        · have := h'.1 z hz
          rw [lexB_no] at this
          exact this.1
      have hxz : lt x.1 z.1 = true := by
        cases e : lt x.1 z.1
        · rw [hS.ntrans _ _ _ e hzy] at hxy; cases hxy
        · rfl
      rw [lexB_no]
      exact ⟨hS.asymmA hxz, .inl hxz⟩
    · rename_i hxy
      have hxy' : lt x.1 y.1 = false := by simpa using hxy
      refine List.pairwise_cons.2 ⟨fun z hz => ?_, insT_sorted hS x r h'.2 fun z hz => ht z (List.mem_cons_of_mem _ hz)⟩
      rcases List.mem_cons.1 ((insT_perm x r).subset hz) with rfl | hz
      · rw [lexB_no]
        exact ⟨hxy', .inr (Nat.le_of_lt (ht y (List.mem_cons_self ..)))⟩
      · exact h'.1 z hz
theorem StabOf.nil : StabOf lt [] ([] : List β) := ⟨[], List.Perm.refl _, List.Pairwise.nil, rfl⟩
theorem StabOf.snoc (hS : SWO lt) {l r : List β} (h : StabOf lt l r) (x : β) : StabOf lt (l ++ [x]) (insS lt x r) := by
  obtain ⟨t, hp, hs, rfl⟩ := h
  refine ⟨insT lt (x, l.length) t, ?_, insT_sorted hS _ t hs fun y hy => ?_, (insT_fst (x, l.length) t).symm⟩
  · refine (insT_perm _ t).trans ?_
    rw [List.zipIdx_append]
    simp only [List.zipIdx_cons, List.zipIdx_nil, Nat.zero_add]
    exact (hp.cons _).trans (List.perm_append_singleton _ _).symm
  · obtain ⟨y, j⟩ := y
    have := List.mem_zipIdx_iff_getElem?.1 (hp.subset hy)
    exact (List.getElem?_eq_some_iff.1 this).1
/-- the place behind the equals -/
theorem insS_at {x : β} : ∀ (r : List β) (k : Nat), k ≤ r.length → (∀ j y, j < k → r[j]? = some y → lt x y = false) → (∀ y, r[k]? = some y → lt x y = true) → insS lt x r = r.take k ++ [x] ++ r.drop k
  | [], k, hk, _, _ => by
    have : k = 0 := by simpa using hk
    subst this; rfl
  | y :: r, 0, _, _, h2 => by
    rw [insS, if_pos (h2 y rfl)]; rfl
  | y :: r, k + 1, hk, h1, h2 => by
    have e := h1 0 y (by omega) rfl
    rw [insS, e]
    simp only [Bool.false_eq_true, ↓reduceIte, List.take_succ_cons, List.drop_succ_cons, List.cons_append]
    rw [insS_at r k (by simpa using hk) (fun j z hj hz => h1 (j + 1) z (by omega) (by simpa using hz)) (fun z hz => h2 z (by simpa using hz))]
end
end Go.Proofs.YtcpfiiapfggmpaaGreat
/- Strings: equality and order as the walk spells them. No program in sight. -/
namespace Go.Proofs.YtcpfiiapfggmpaaGreat
open Go.Sort

def sltB (a b : ByteArray) : Bool := decide (a.toList < b.toList)
theorem cmp_lt : ∀ a b : List UInt8, (Lib.compareBytes a b < 0 ↔ a < b) ∧ (0 < Lib.compareBytes a b ↔ b < a)
  | [], [] => by simp [Lib.compareBytes]
  | [], _ :: _ => by simp [Lib.compareBytes]
  | _ :: _, [] => by simp [Lib.compareBytes]
  | x :: a, y :: b => by
    have ih := cmp_lt a b
    unfold Lib.compareBytes
    rw [List.cons_lt_cons_iff, List.cons_lt_cons_iff]
    by_cases h1 : x < y
    · have h2 : ¬ y < x := fun h => UInt8.lt_irrefl _ (UInt8.lt_trans h1 h)
      have h3 : ¬ y = x := fun h => by subst h; exact UInt8.lt_irrefl _ h1
      simp [h1, h2, h3]
    · by_cases h2 : y < x
      · have h3 : ¬ x = y := fun h => by subst h; exact UInt8.lt_irrefl _ h2
        simp [h1, h2, h3]
      · have h3 : x = y := UInt8.le_antisymm (UInt8.not_lt.1 h2) (UInt8.not_lt.1 h1)
        subst h3
        simp only [h1, if_false]
        constructor
        · rw [ih.1]; simp
        · rw [ih.2]; simp
theorem cmp_slt (a b : ByteArray) : decide (Lib.compareBytes a.data.toList b.data.toList < 0) = sltB a b := by
  unfold sltB
  rw [ByteArray.toList_eq, ByteArray.toList_eq, Bool.eq_iff_iff, decide_eq_true_eq, decide_eq_true_eq]
  exact (cmp_lt _ _).1
theorem less_slt (a b : ByteArray) : Op.bytesLess a.toList b.toList = sltB a b := bytesLess_eq _ _
theorem sltB_swo : SWO sltB := ⟨fun x => swo_ltStr.irrefl x.toList, fun x y z => swo_ltStr.trans x.toList y.toList z.toList, fun x y z => swo_ltStr.ntrans x.toList y.toList z.toList⟩
theorem sltB_total {a b : ByteArray} (h : sltB a b = false) (k : sltB b a = false) : a = b := by
  unfold sltB at h k
  rw [decide_eq_false_iff_not, List.not_lt] at h k
  exact (eqS_iff a b).1 (by unfold eqS; rw [beq_iff_eq]; exact List.le_antisymm k h)
theorem leq_slt (a b : ByteArray) : (Op.bytesLess a.toList b.toList || a.toList == b.toList) = !sltB b a := by
  rw [less_slt]
  cases h : sltB b a
  · cases k : sltB a b
    · have := sltB_total k h
      subst this
      simp
    · rfl
  · have k : sltB a b = false := sltB_swo.asymmA h
    have : (a.toList == b.toList) = false := by
      rw [Bool.eq_false_iff]
      intro e
      have := (eqS_iff a b).1 e
      subst this
      rw [sltB_swo.irrefl] at h; cases h
    rw [k, this]; rfl

theorem StabOf.map {β γ : Type} {lt : β → β → Bool} {lt' : γ → γ → Bool} (f : β → γ) (hf : ∀ x y, lt x y = lt' (f x) (f y)) {l r : List β} (h : StabOf lt l r) : StabOf lt' (l.map f) (r.map f) := by
  obtain ⟨t, hp, hs, rfl⟩ := h
  refine ⟨t.map (Prod.map f id), ?_, ?_, ?_⟩
  · have := hp.map (Prod.map f id)
    rwa [show l.zipIdx.map (Prod.map f id) = (l.map f).zipIdx by rw [List.zipIdx_map]] at this
  · rw [List.pairwise_map]
    refine hs.imp fun {a b} hab => ?_
    rw [lexB_no] at hab ⊢
    simp only [Prod.map_fst, Prod.map_snd, id_eq]
    rw [← hf, ← hf]
    exact hab
  · rw [List.map_map, List.map_map]; rfl
end Go.Proofs.YtcpfiiapfggmpaaGreat
/- Comparisons that are read one after another: signs, total orders, strictly ascending lists. No program in sight. -/
namespace Go.Proofs.YtcpfiiapfggmpaaGreat
open Go.Sort

/-- the first number that is not 0 -/
def firstI : List Int → Int
  | [] => 0
  | x :: l => if x ≠ 0 then x else firstI l
/-- a comparison: signs, antisymmetric, transitive, and equal things are told apart from none -/
structure PreC {α : Type} (f : α → α → Int) : Prop where
  r : ∀ a b, f a b = -1 ∨ f a b = 0 ∨ f a b = 1
  s : ∀ a b, f b a = -f a b
  t : ∀ a b c, f a b < 0 → f b c < 0 → f a c < 0
  e : ∀ a b c, f a b = 0 → f a c = f b c
section
variable {α β : Type} {f g : α → α → Int}
theorem PreC.e2 (h : PreC f) (a b c : α) (k : f a b = 0) : f c a = f c b := by
  rw [h.s a c, h.s b c, h.e a b c k]
theorem PreC.on (h : PreC f) (p : β → α) : PreC (fun a b => f (p a) (p b)) := ⟨fun a b => h.r _ _, fun a b => h.s _ _, fun a b c => h.t _ _ _, fun a b c => h.e _ _ _⟩
theorem PreC.cons (h : PreC f) (k : PreC g) : PreC (fun a b => if f a b ≠ 0 then f a b else g a b) where
  r a b := by
    by_cases q : f a b = 0
    · rw [if_neg (by simp [q])]; exact k.r a b
    · rw [if_pos q]; exact h.r a b
  s a b := by
    by_cases q : f a b = 0
    · rw [if_neg (by rw [h.s a b, q]; simp), if_neg (by simp [q])]; exact k.s a b
    · rw [if_pos (by rw [h.s a b]; omega), if_pos q]; exact h.s a b
  t a b c := by
    by_cases q : f a b = 0
    · rw [if_neg (by simp [q] : ¬ f a b ≠ 0), h.e a b c q]
      intro h1
      by_cases q2 : f b c = 0
      · rw [if_neg (by simp [q2]), if_neg (by simp [q2])]; exact k.t a b c h1
      · rw [if_pos q2, if_pos q2]; exact id
    · rw [if_pos q]
      intro h1
      by_cases q2 : f b c = 0
      · rw [if_neg (by simp [q2])]
        intro _
        rw [if_pos (by rw [← h.e2 b c a q2]; exact q), ← h.e2 b c a q2]; exact h1
      · rw [if_pos q2]
        intro h2
        have h3 := h.t a b c h1 h2
        rw [if_pos (by omega)]; exact h3
  e a b c := by
    by_cases q : f a b = 0
    · rw [if_neg (by simp [q] : ¬ f a b ≠ 0), h.e a b c q]
      intro h1
      rw [k.e a b c h1]
    · rw [if_pos q]; exact fun h1 => absurd h1 q
theorem PreC.swo (h : PreC f) : SWO (ltOf f) where
  irrefl x := by
    unfold ltOf
    have := h.s x x
    exact decide_eq_false (by omega)
  trans x y z h1 h2 := by
    unfold ltOf at *
    exact decide_eq_true (h.t x y z (of_decide_eq_true h1) (of_decide_eq_true h2))
  ntrans x y z h1 h2 := by
    unfold ltOf at *
    have h1 := of_decide_eq_false h1
    have h2 := of_decide_eq_false h2
    refine decide_eq_false fun h3 => ?_
    rcases h.r x y with q | q | q
    · omega
    · rw [h.e x y z q] at h3; omega
    · rcases h.r y z with p | p | p
      · omega
      · rw [← h.e2 y z x p] at h3; omega
      · have := h.t z y x (by rw [h.s y z]; omega) (by rw [h.s x y]; omega)
        rw [h.s x z] at this; omega
end
abbrev cmpI : Int → Int → Int := Lib.compareInt
theorem cmpI_pre : PreC cmpI where
  r a b := by unfold cmpI Lib.compareInt; split; simp; split <;> simp
  s a b := by unfold cmpI Lib.compareInt; split <;> split <;> first | omega | (split <;> omega)
  t a b c := by unfold cmpI Lib.compareInt; intro h1 h2; split at h1 <;> (try (split at h1)) <;> split at h2 <;> (try (split at h2)) <;> first | omega | (rw [if_pos (by omega)]; omega)
  e a b c := by unfold cmpI Lib.compareInt; intro h1; split at h1 <;> (try (split at h1)) <;> first | omega | (have : a = b := by omega); subst this; rfl
theorem cmpI_zero {a b : Int} : cmpI a b = 0 ↔ a = b := by
  unfold cmpI Lib.compareInt
  constructor
  · intro h1; split at h1 <;> (try (split at h1)) <;> omega
  · rintro rfl; simp
def cmpS (a b : ByteArray) : Int := Lib.compareBytes a.data.toList b.data.toList
theorem cb_r : ∀ a b : List UInt8, Lib.compareBytes a b = -1 ∨ Lib.compareBytes a b = 0 ∨ Lib.compareBytes a b = 1
  | [], [] => by simp [Lib.compareBytes]
  | [], _ :: _ => by simp [Lib.compareBytes]
  | _ :: _, [] => by simp [Lib.compareBytes]
  | x :: a, y :: b => by unfold Lib.compareBytes; split; simp; split; simp; exact cb_r a b
theorem cb_lt (a b : List UInt8) : Lib.compareBytes a b < 0 ↔ a < b := (cmp_lt a b).1
theorem cb_gt (a b : List UInt8) : 0 < Lib.compareBytes a b ↔ b < a := (cmp_lt a b).2
theorem cb_zero (a b : List UInt8) : Lib.compareBytes a b = 0 ↔ a = b := by
  constructor
  · intro h
    have h1 := mt (cb_lt a b).2 (by omega)
    have h2 := mt (cb_gt a b).2 (by omega)
    exact List.le_antisymm (List.not_lt.1 h2) (List.not_lt.1 h1)
  · rintro rfl
    have h1 := mt (cb_lt a a).1 (List.lt_irrefl a)
    have h2 := mt (cb_gt a a).1 (List.lt_irrefl a)
    omega
theorem cmpS_zero {a b : ByteArray} : cmpS a b = 0 ↔ a = b := by
  unfold cmpS
  rw [cb_zero]
  constructor
  · intro h; cases a; cases b; simp only [ByteArray.mk.injEq]; exact Array.ext' h
  · rintro rfl; rfl
theorem cmpS_pre : PreC cmpS where
  r a b := cb_r _ _
  s a b := by
    unfold cmpS
    have h1 := cb_lt a.data.toList b.data.toList
    have h2 := cb_gt a.data.toList b.data.toList
    have h3 := cb_lt b.data.toList a.data.toList
    have h4 := cb_gt b.data.toList a.data.toList
    have r1 := cb_r a.data.toList b.data.toList
    have r2 := cb_r b.data.toList a.data.toList
    generalize Lib.compareBytes a.data.toList b.data.toList = x at *
    generalize Lib.compareBytes b.data.toList a.data.toList = y at *
    have e1 : x < 0 ↔ 0 < y := h1.trans h4.symm
    have e2 : 0 < x ↔ y < 0 := h2.trans h3.symm
    omega
  t a b c := by
    unfold cmpS
    rw [cb_lt, cb_lt, cb_lt]
    exact List.lt_trans
  e a b c := by
    intro h
    rw [cmpS_zero] at h
    subst h; rfl

/-- ascending without equal neighbours -/
def AscC {α : Type} (f : α → α → Int) (l : List α) : Prop := l.Pairwise fun a b => f a b < 0
theorem AscC.eq {α : Type} {f : α → α → Int} (h : PreC f) : ∀ {l r : List α}, AscC f l → AscC f r → (∀ x, x ∈ l ↔ x ∈ r) → l = r
  | [], [], _, _, _ => rfl
  | [], y :: r, _, _, m => by have := (m y).2 (by simp); simp at this
  | x :: l, [], _, _, m => by have := (m x).1 (by simp); simp at this
  | x :: l, y :: r, hl, hr, m => by
    have hl' := List.pairwise_cons.1 hl
    have hr' := List.pairwise_cons.1 hr
    have irr : ∀ z, ¬ f z z < 0 := fun z => by have := h.s z z; omega
    have exy : x = y := by
      rcases List.mem_cons.1 ((m x).1 (by simp)) with e | e
      · exact e
      · rcases List.mem_cons.1 ((m y).2 (by simp)) with e2 | e2
        · exact e2.symm
        · exact absurd (h.t x y x (hl'.1 y e2) (hr'.1 x e)) (irr x)
    subst exy
    congr 1
    refine AscC.eq h hl'.2 hr'.2 fun z => ?_
    constructor
    · intro hz
      rcases List.mem_cons.1 ((m z).1 (by simp [hz])) with e | e
      · subst e; exact absurd (hl'.1 z hz) (irr z)
      · exact e
    · intro hz
      rcases List.mem_cons.1 ((m z).2 (by simp [hz])) with e | e
      · subst e; exact absurd (hr'.1 z hz) (irr z)
      · exact e
end Go.Proofs.YtcpfiiapfggmpaaGreat
