/- What a stable sort makes of a list, plain. No program in sight. -/
import Derived.Test.YtcpfiiapfggmpaaStabMath
namespace Go.Proofs.Ytcpfiiapfggmpaa
open Go.Sort

section
variable {β : Type} {lt : β → β → Bool}
/-- l' is l sorted stably -/
def StabOf (lt : β → β → Bool) (l l' : List β) : Prop := ∃ t : List (β × Nat), t.Perm l.zipIdx ∧ t.Pairwise (fun x y => lexB lt y x = false) ∧ l' = t.map Prod.fst
theorem StabOf.perm {l l' : List β} (h : StabOf lt l l') : l'.Perm l := by
  obtain ⟨t, hp, _, rfl⟩ := h
  have := hp.map Prod.fst
  rwa [List.zipIdx_map_fst] at this
theorem zipIdx_same {l : List β} {x y : β × Nat} (hx : x ∈ l.zipIdx) (hy : y ∈ l.zipIdx) (h : x.2 = y.2) : x = y := by
  obtain ⟨x, i⟩ := x
  obtain ⟨y, j⟩ := y
  have a := List.mem_zipIdx_iff_getElem?.1 hx
  have b := List.mem_zipIdx_iff_getElem?.1 hy
  simp only at h a b
  subst h
  rw [a] at b
  simpa using b
theorem StabOf.unique {l a b : List β} (h : StabOf lt l a) (k : StabOf lt l b) : a = b := by
  obtain ⟨t, hp, hs, rfl⟩ := h
  obtain ⟨u, kp, ks, rfl⟩ := k
  congr 1
  refine List.Perm.eq_of_pairwise (le := fun x y => lexB lt y x = false) ?_ hs ks (hp.trans kp.symm)
  intro x y hx hy h1 h2
  rw [lexB_no] at h1 h2
  refine zipIdx_same (hp.subset hx) (kp.subset hy) ?_
  rcases h1.2 with q | q
  · rw [h2.1] at q; cases q
  · rcases h2.2 with r | r
    · rw [h1.1] at r; cases r
    · omega
/-- one element more, behind its equals -/
def insS (lt : β → β → Bool) (x : β) : List β → List β
  | [] => [x]
  | y :: r => if lt x y then x :: y :: r else y :: insS lt x r
def insT (lt : β → β → Bool) (x : β × Nat) : List (β × Nat) → List (β × Nat)
  | [] => [x]
  | y :: r => if lt x.1 y.1 then x :: y :: r else y :: insT lt x r
theorem insT_fst (x : β × Nat) : ∀ t : List (β × Nat), (insT lt x t).map Prod.fst = insS lt x.1 (t.map Prod.fst)
  | [] => rfl
  | y :: r => by
    rw [insT, List.map_cons, insS]
    split
    · rfl
    · rw [List.map_cons, insT_fst x r]
theorem insT_perm (x : β × Nat) : ∀ t : List (β × Nat), (insT lt x t).Perm (x :: t)
  | [] => List.Perm.refl _
  | y :: r => by
    rw [insT]
    split
    · exact List.Perm.refl _
    · exact ((insT_perm x r).cons y).trans (List.Perm.swap x y r)
theorem insT_sorted (hS : SWO lt) (x : β × Nat) : ∀ t : List (β × Nat), t.Pairwise (fun a b => lexB lt b a = false) → (∀ y ∈ t, y.2 < x.2) → (insT lt x t).Pairwise (fun a b => lexB lt b a = false)
  | [], _, _ => by simp [insT]
  | y :: r, h, ht => by
    rw [insT]
    have h' := List.pairwise_cons.1 h
    split
    · rename_i hxy
      refine List.pairwise_cons.2 ⟨fun z hz => ?_, h⟩
      have hzy : lt z.1 y.1 = false := by
        rcases List.mem_cons.1 hz with rfl | hz
        · exact hS.irrefl _
        · have := h'.1 z hz
          rw [lexB_no] at this
          exact this.1
      have hxz : lt x.1 z.1 = true := by
        cases e : lt x.1 z.1
        · rw [hS.ntrans _ _ _ e hzy] at hxy; cases hxy
        · rfl
      rw [lexB_no]
      exact ⟨hS.asymmA hxz, .inl hxz⟩
    · rename_i hxy
      have hxy' : lt x.1 y.1 = false := by simpa using hxy
      refine List.pairwise_cons.2 ⟨fun z hz => ?_, insT_sorted hS x r h'.2 fun z hz => ht z (List.mem_cons_of_mem _ hz)⟩
      rcases List.mem_cons.1 ((insT_perm x r).subset hz) with rfl | hz
      · rw [lexB_no]
        exact ⟨hxy', .inr (Nat.le_of_lt (ht y (List.mem_cons_self ..)))⟩
      · exact h'.1 z hz
theorem StabOf.nil : StabOf lt [] ([] : List β) := ⟨[], List.Perm.refl _, List.Pairwise.nil, rfl⟩
theorem StabOf.snoc (hS : SWO lt) {l r : List β} (h : StabOf lt l r) (x : β) : StabOf lt (l ++ [x]) (insS lt x r) := by
  obtain ⟨t, hp, hs, rfl⟩ := h
  refine ⟨insT lt (x, l.length) t, ?_, insT_sorted hS _ t hs fun y hy => ?_, (insT_fst (x, l.length) t).symm⟩
  · refine (insT_perm _ t).trans ?_
    rw [List.zipIdx_append]
    simp only [List.zipIdx_cons, List.zipIdx_nil, Nat.zero_add]
    exact (hp.cons _).trans (List.perm_append_singleton _ _).symm
  · obtain ⟨y, j⟩ := y
    have := List.mem_zipIdx_iff_getElem?.1 (hp.subset hy)
    exact (List.getElem?_eq_some_iff.1 this).1
/-- the place behind the equals -/
theorem insS_at {x : β} : ∀ (r : List β) (k : Nat), k ≤ r.length → (∀ j y, j < k → r[j]? = some y → lt x y = false) → (∀ y, r[k]? = some y → lt x y = true) → insS lt x r = r.take k ++ [x] ++ r.drop k
  | [], k, hk, _, _ => by
    have : k = 0 := by simpa using hk
    subst this; rfl
  | y :: r, 0, _, _, h2 => by
    rw [insS, if_pos (h2 y rfl)]; rfl
  | y :: r, k + 1, hk, h1, h2 => by
    have e := h1 0 y (by omega) rfl
    rw [insS, e]
    simp only [Bool.false_eq_true, ↓reduceIte, List.take_succ_cons, List.drop_succ_cons, List.cons_append]
    rw [insS_at r k (by simpa using hk) (fun j z hj hz => h1 (j + 1) z (by omega) (by simpa using hz)) (fun z hz => h2 z (by simpa using hz))]
end
end Go.Proofs.Ytcpfiiapfggmpaa
