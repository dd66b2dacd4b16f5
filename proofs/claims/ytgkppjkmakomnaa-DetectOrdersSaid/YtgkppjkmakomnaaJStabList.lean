/- Joined texts: StabList, StrEq, Str. -/
import Derived.Test.YtgkppjkmakomnaaStabMath
import Derived.Lib.Bytealg
import Derived.Laws.Strings
import Derived.Sort.LotA
import Derived.Sort.Walk0
/- What a stable sort makes of a list, plain. No program in sight. -/
namespace Go.Proofs.Ytgkppjkmakomnaa
open Go.Sort

section
variable {β : Type} {lt : β → β → Bool}
/-- l' is l sorted stably -/
def StabOf (lt : β → β → Bool) (l l' : List β) : Prop := ∃ t : List (β × Nat), t.Perm l.zipIdx ∧ t.Pairwise (fun x y => lexB lt y x = false) ∧ l' = t.map Prod.fst
theorem StabOf.perm {l l' : List β} (h : StabOf lt l l') : l'.Perm l := by
  obtain ⟨t, hp, _, rfl⟩ := h
  have := hp.map Prod.fst
  rwa [List.zipIdx_map_fst] at this
theorem zipIdx_same {l : List β} {x y : β × Nat} (hx : x ∈ l.zipIdx) (hy : y ∈ l.zipIdx) (h : x.2 = y.2) : x = y := by
  obtain ⟨x, i⟩ := x
  obtain ⟨y, j⟩ := y
  have a := List.mem_zipIdx_iff_getElem?.1 hx
  have b := List.mem_zipIdx_iff_getElem?.1 hy
  simp only at h a b
  subst h
  rw [a] at b
  simpa using b
theorem StabOf.unique {l a b : List β} (h : StabOf lt l a) (k : StabOf lt l b) : a = b := by
  obtain ⟨t, hp, hs, rfl⟩ := h
  obtain ⟨u, kp, ks, rfl⟩ := k
  congr 1
  refine List.Perm.eq_of_pairwise (le := fun x y => lexB lt y x = false) ?_ hs ks (hp.trans kp.symm)
  intro x y hx hy h1 h2
  rw [lexB_no] at h1 h2
  refine zipIdx_same (hp.subset hx) (kp.subset hy) ?_
  rcases h1.2 with q | q
  · rw [h2.1] at q; cases q
  · rcases h2.2 with r | r
    · rw [h1.1] at r; cases r
    · omega
/-- one element more, behind its equals -/
def insS (lt : β → β → Bool) (x : β) : List β → List β
  | [] => [x]
  | y :: r => if lt x y then x :: y :: r else y :: insS lt x r
def insT (lt : β → β → Bool) (x : β × Nat) : List (β × Nat) → List (β × Nat)
  | [] => [x]
  | y :: r => if lt x.1 y.1 then x :: y :: r else y :: insT lt x r
theorem insT_fst (x : β × Nat) : ∀ t : List (β × Nat), (insT lt x t).map Prod.fst = insS lt x.1 (t.map Prod.fst)
  | [] => rfl
  | y :: r => by
    rw [insT, List.map_cons, insS]
    split
    · rfl
    · rw [List.map_cons, insT_fst x r]
theorem insT_perm (x : β × Nat) : ∀ t : List (β × Nat), (insT lt x t).Perm (x :: t)
  | [] => List.Perm.refl _
  | y :: r => by
    rw [insT]
    split
    · exact List.Perm.refl _
    · exact ((insT_perm x r).cons y).trans (List.Perm.swap x y r)
theorem insT_sorted (hS : SWO lt) (x : β × Nat) : ∀ t : List (β × Nat), t.Pairwise (fun a b => lexB lt b a = false) → (∀ y ∈ t, y.2 < x.2) → (insT lt x t).Pairwise (fun a b => lexB lt b a = false)
  | [], _, _ => by simp [insT]
  | y :: r, h, ht => by
    rw [insT]
    have h' := List.pairwise_cons.1 h
    split
    · rename_i hxy
      refine List.pairwise_cons.2 ⟨fun z hz => ?_, h⟩
      have hzy : lt z.1 y.1 = false := by
        rcases List.mem_cons.1 hz with rfl | hz
        · exact hS.irrefl _
        · have := h'.1 z hz
          rw [lexB_no] at this
          exact this.1
      have hxz : lt x.1 z.1 = true := by
        cases e : lt x.1 z.1
        · rw [hS.ntrans _ _ _ e hzy] at hxy; cases hxy
        · rfl
      rw [lexB_no]
      exact ⟨hS.asymmA hxz, .inl hxz⟩
    · rename_i hxy
      have hxy' : lt x.1 y.1 = false := by simpa using hxy
      refine List.pairwise_cons.2 ⟨fun z hz => ?_, insT_sorted hS x r h'.2 fun z hz => ht z (List.mem_cons_of_mem _ hz)⟩
      rcases List.mem_cons.1 ((insT_perm x r).subset hz) with rfl | hz
      · rw [lexB_no]
        exact ⟨hxy', .inr (Nat.le_of_lt (ht y (List.mem_cons_self ..)))⟩
      · exact h'.1 z hz
theorem StabOf.nil : StabOf lt [] ([] : List β) := ⟨[], List.Perm.refl _, List.Pairwise.nil, rfl⟩
theorem StabOf.snoc (hS : SWO lt) {l r : List β} (h : StabOf lt l r) (x : β) : StabOf lt (l ++ [x]) (insS lt x r) := by
  obtain ⟨t, hp, hs, rfl⟩ := h
  refine ⟨insT lt (x, l.length) t, ?_, insT_sorted hS _ t hs fun y hy => ?_, (insT_fst (x, l.length) t).symm⟩
  · refine (insT_perm _ t).trans ?_
    rw [List.zipIdx_append]
    simp only [List.zipIdx_cons, List.zipIdx_nil, Nat.zero_add]
    exact (hp.cons _).trans (List.perm_append_singleton _ _).symm
  · obtain ⟨y, j⟩ := y
    have := List.mem_zipIdx_iff_getElem?.1 (hp.subset hy)
    exact (List.getElem?_eq_some_iff.1 this).1
/-- the place behind the equals -/
theorem insS_at {x : β} : ∀ (r : List β) (k : Nat), k ≤ r.length → (∀ j y, j < k → r[j]? = some y → lt x y = false) → (∀ y, r[k]? = some y → lt x y = true) → insS lt x r = r.take k ++ [x] ++ r.drop k
  | [], k, hk, _, _ => by
    have : k = 0 := by simpa using hk
    subst this; rfl
  | y :: r, 0, _, _, h2 => by
    rw [insS, if_pos (h2 y rfl)]; rfl
  | y :: r, k + 1, hk, h1, h2 => by
    have e := h1 0 y (by omega) rfl
    rw [insS, e]
    simp only [Bool.false_eq_true, ↓reduceIte, List.take_succ_cons, List.drop_succ_cons, List.cons_append]
    rw [insS_at r k (by simpa using hk) (fun j z hj hz => h1 (j + 1) z (by omega) (by simpa using hz)) (fun z hz => h2 z (by simpa using hz))]
end
end Go.Proofs.Ytgkppjkmakomnaa
/- Equality of strings, as the walk spells it. No program in sight. -/
namespace Go.Proofs.Ytgkppjkmakomnaa

def eqS (a b : ByteArray) : Bool := a.toList == b.toList
theorem eqS_iff (a b : ByteArray) : eqS a b = true ↔ a = b := by
  unfold eqS
  rw [beq_iff_eq, ByteArray.toList_eq, ByteArray.toList_eq]
  constructor
  · intro h
    cases a; cases b
    simp only [ByteArray.mk.injEq]
    exact Array.ext' h
  · rintro rfl; rfl
theorem eqS_refl (a : ByteArray) : eqS a a = true := (eqS_iff a a).2 rfl
theorem eqS_comm (a b : ByteArray) : eqS a b = eqS b a := by
  rw [Bool.eq_iff_iff, eqS_iff, eqS_iff]; exact eq_comm
end Go.Proofs.Ytgkppjkmakomnaa
/- Strings: equality and order as the walk spells them. No program in sight. -/
namespace Go.Proofs.Ytgkppjkmakomnaa
open Go.Sort

def sltB (a b : ByteArray) : Bool := decide (a.toList < b.toList)
theorem cmp_lt : ∀ a b : List UInt8, (Lib.compareBytes a b < 0 ↔ a < b) ∧ (0 < Lib.compareBytes a b ↔ b < a)
  | [], [] => by simp [Lib.compareBytes]
  | [], _ :: _ => by simp [Lib.compareBytes]
  | _ :: _, [] => by simp [Lib.compareBytes]
  | x :: a, y :: b => by
    have ih := cmp_lt a b
    unfold Lib.compareBytes
    rw [List.cons_lt_cons_iff, List.cons_lt_cons_iff]
    by_cases h1 : x < y
    · have h2 : ¬ y < x := fun h => UInt8.lt_irrefl _ (UInt8.lt_trans h1 h)
      have h3 : ¬ y = x := fun h => by subst h; exact UInt8.lt_irrefl _ h1
      simp [h1, h2, h3]
    · by_cases h2 : y < x
      · have h3 : ¬ x = y := fun h => by subst h; exact UInt8.lt_irrefl _ h2
        simp [h1, h2, h3]
      · have h3 : x = y := UInt8.le_antisymm (UInt8.not_lt.1 h2) (UInt8.not_lt.1 h1)
        subst h3
        simp only [h1, if_false]
        constructor
        · rw [ih.1]; simp
        · rw [ih.2]; simp
theorem cmp_slt (a b : ByteArray) : decide (Lib.compareBytes a.data.toList b.data.toList < 0) = sltB a b := by
  unfold sltB
  rw [ByteArray.toList_eq, ByteArray.toList_eq, Bool.eq_iff_iff, decide_eq_true_eq, decide_eq_true_eq]
  exact (cmp_lt _ _).1
theorem less_slt (a b : ByteArray) : Op.bytesLess a.toList b.toList = sltB a b := bytesLess_eq _ _
theorem sltB_swo : SWO sltB := ⟨fun x => swo_ltStr.irrefl x.toList, fun x y z => swo_ltStr.trans x.toList y.toList z.toList, fun x y z => swo_ltStr.ntrans x.toList y.toList z.toList⟩
theorem sltB_total {a b : ByteArray} (h : sltB a b = false) (k : sltB b a = false) : a = b := by
  unfold sltB at h k
  rw [decide_eq_false_iff_not, List.not_lt] at h k
  exact (eqS_iff a b).1 (by unfold eqS; rw [beq_iff_eq]; exact List.le_antisymm k h)
theorem leq_slt (a b : ByteArray) : (Op.bytesLess a.toList b.toList || a.toList == b.toList) = !sltB b a := by
  rw [less_slt]
  cases h : sltB b a
  · cases k : sltB a b
    · have := sltB_total k h
      subst this
      simp
    · rfl
  · have k : sltB a b = false := sltB_swo.asymmA h
    have : (a.toList == b.toList) = false := by
      rw [Bool.eq_false_iff]
      intro e
      have := (eqS_iff a b).1 e
      subst this
      rw [sltB_swo.irrefl] at h; cases h
    rw [k, this]; rfl

theorem StabOf.map {β γ : Type} {lt : β → β → Bool} {lt' : γ → γ → Bool} (f : β → γ) (hf : ∀ x y, lt x y = lt' (f x) (f y)) {l r : List β} (h : StabOf lt l r) : StabOf lt' (l.map f) (r.map f) := by
  obtain ⟨t, hp, hs, rfl⟩ := h
  refine ⟨t.map (Prod.map f id), ?_, ?_, ?_⟩
  · have := hp.map (Prod.map f id)
    rwa [show l.zipIdx.map (Prod.map f id) = (l.map f).zipIdx by rw [List.zipIdx_map]] at this
  · rw [List.pairwise_map]
    refine hs.imp fun {a b} hab => ?_
    rw [lexB_no] at hab ⊢
    simp only [Prod.map_fst, Prod.map_snd, id_eq]
    rw [← hf, ← hf]
    exact hab
  · rw [List.map_map, List.map_map]; rfl
end Go.Proofs.Ytgkppjkmakomnaa
