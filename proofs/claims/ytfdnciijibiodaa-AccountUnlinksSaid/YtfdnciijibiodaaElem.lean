/- A whole element stored into a slice of the call's own. -/
import Derived.Test.YtfdnciijibiodaaBlk
import Derived.Lib.SliceRun
import Derived.Laws.Tables
namespace Go.Proofs.Ytfdnciijibiodaa
open Go.RowKit Go.Lib
section
variable {α : Type} {e : Nat} {enc : α → List Value} {k : Nat} {w : World} {base : Nat} {A : Option Addr} {c : Nat} {l : List α}
theorem setCells_sz (b : Nat) (vs : List Value) (o : Nat) (w : World) : (w.setCells b o vs).heap.size = w.heap.size := by
  induction vs generalizing o w with
  | nil => rfl
  | cons v vs ih => exact (ih _ _).trans (by simp)
theorem setCells_other (b : Nat) (vs : List Value) (o : Nat) (w : World) {n : Nat} (hn : n ≠ b) : (w.setCells b o vs).heap[n]? = w.heap[n]? := by
  induction vs generalizing o w with
  | nil => rfl
  | cons v vs ih => exact (ih _ _).trans (Below.heap_setCell w ⟨b, o, none⟩ v n hn)
theorem Below_setCs {B g : Nat} {w W : World} (h : Below B w W) (hg : B ≤ g) (o : Nat) (vs : List Value) : Below B w (W.setCells g o vs) := by
  induction vs generalizing o W with
  | nil => exact h
  | cons v vs ih => exact ih (h.setCell (p := ⟨g, o, none⟩) hg v) _
theorem ownsRow_setCells {g n : Nat} {sz cp : Nat} : ∀ (vs : List Value) (o : Nat) {w : World} {xs : List Value}, w.ownsRow base e sz (.slice (some ⟨g, 0, none⟩) n cp) n xs → o + vs.length ≤ xs.length → (w.setCells g o vs).ownsRow base e sz (.slice (some ⟨g, 0, none⟩) n cp) n (xs.take o ++ vs ++ xs.drop (o + vs.length))
  | [], o, w, xs, h, _ => by
    simp only [List.append_nil, List.length_nil, Nat.add_zero, List.take_append_drop]
    exact h
  | v :: vs, o, w, xs, h, hl => by
    have h1 := (World.ownsRow.stored h o v).1
    simp only [List.length_cons] at hl
    have h2 := ownsRow_setCells vs (o + 1) h1 (by rw [List.length_set]; omega)
    have e1 : (xs.set o v).take (o + 1) ++ vs ++ (xs.set o v).drop (o + 1 + vs.length) = xs.take o ++ (v :: vs) ++ xs.drop (o + (vs.length + 1)) := by
      rw [List.drop_set_of_lt (by omega), List.take_set, List.set_eq_take_append_cons_drop, if_pos (by rw [List.length_take]; omega), List.take_take, List.drop_take]
      rw [show min o (o + 1) = o by omega, show o + 1 - (o + 1) = 0 by omega, List.take_zero]
      simp only [List.append_assoc, List.cons_append, List.nil_append]
      rw [show o + 1 + vs.length = o + (vs.length + 1) by omega]
    rw [e1] at h2
    exact h2
theorem flat_set (hE : ∀ x, (enc x).length = k) (y : α) : ∀ (l : List α) (i : Nat), i < l.length → (l.flatMap enc).take (i * k) ++ enc y ++ (l.flatMap enc).drop (i * k + k) = (l.set i y).flatMap enc
  | x :: l, 0, _ => by
    simp only [Nat.zero_mul, List.take_zero, List.nil_append, Nat.zero_add, List.flatMap_cons, List.set_cons_zero]
    rw [List.drop_append_of_le_length (by rw [hE]; exact Nat.le_refl _), List.drop_of_length_le (by rw [hE]; exact Nat.le_refl _), List.nil_append]
  | x :: l, i + 1, h => by
    have ih := flat_set hE y l i (by simpa using h)
    simp only [List.flatMap_cons, List.set_cons_succ]
    rw [← ih, show (i + 1) * k = (enc x).length + i * k by rw [hE, Nat.succ_mul]; omega, List.take_length_add_append, show (enc x).length + i * k + k = (enc x).length + (i * k + k) by omega, List.drop_length_add_append]
    simp only [List.append_assoc]
theorem Own.storeEl {P : Program} (h : Own e enc k w base A c l) (hE : Enc enc k) {g i : Nat} (hA : A = some ⟨g, 0, none⟩) (hi : i < l.length) (y : α) :
    Own e enc k (w.setCells g (i * k) (enc y)) base A c (l.set i y) ∧ (storeCells ⟨g, i * k, none⟩ (enc y) 0).run P w = .ok () (w.setCells g (i * k) (enc y)) := by
  subst hA
  have hfl := flat_length hE l
  have hik : i * k + k ≤ l.length * k := by have := Nat.mul_le_mul_right k (show i + 1 ≤ l.length from hi); rw [Nat.succ_mul] at this; exact this
  refine ⟨?_, ?_⟩
  · have := ownsRow_setCells (enc y) (i * k) (show w.ownsRow base e k (.slice (some ⟨g, 0, none⟩) l.length c) l.length (l.flatMap enc) from h) (by rw [hE.1, hfl]; exact hik)
    rw [hE.1, flat_set hE.1 y l i hi] at this
    unfold Own
    rw [List.length_set]
    exact this
  · have hc : ∀ j, j < (enc y).length → (w.cell? ⟨g, i * k + 0 + j, none⟩).isSome = true ∧ w.frozen? ⟨g, i * k + 0 + j, none⟩ = false := fun j hj => by
      rw [hE.1] at hj
      have hj2 : j < (enc l[i]).length := by rw [hE.1]; exact hj
      rw [Nat.add_zero, h.cells hE rfl (List.getElem?_eq_getElem hi) (List.getElem?_eq_getElem hj2)]
      exact ⟨rfl, h.frozen rfl _⟩
    have := run_storeCells_cells (P := P) g (i * k) (enc y) 0 w (fun j hj => (hc j hj).1) (fun j hj => (hc j hj).2) (fun v hv => hE.2 y v hv)
    rwa [Nat.add_zero] at this
/-- a store of a whole element into an own slice -/
theorem wpList_ownEl {P : Program} {ops : Array Oper} {rest : List Oper} {o : Oper} {a : Act} {Q : Exit → Act → World → Prop} (hgd : o.guard = none) {ty : TypeId} {x y : Operand} (ho : o.op = .store ty x y)
    {g i : Nat} {cells : Array Value} (v : α) (hx : a.eval x = .pointer (some ⟨g, i * k, none⟩)) (hy : a.eval y = .agg cells) (hcv : cells.toList = enc v) (hi : (P.info? ty).map (·.size) = some k) (hE : Enc enc k) (hown : Own e enc k w base A c l) (hA : A = some ⟨g, 0, none⟩) (hd : i < l.length)
    (h : ∀ w', Own e enc k w' base A c (l.set i v) → (∀ B w0, B ≤ g → Below B w0 w → Below B w0 w') → w'.heap.size = w.heap.size → (∀ b, b ≠ g → w'.heap[b]? = w.heap[b]?) → wpList P ops Q rest (a.put o.dst undef) w') : wpList P ops Q (o :: rest) a w := by
  refine wpList_plain hgd fun K hK => ?_
  unfold Oper.wp execOp
  obtain ⟨h1, h2⟩ := hown.storeEl (P := P) hE hA hd v
  have hsz : cells.size = k := by rw [← Array.length_toList, hcv, hE.1]
  have hsv : (storeVar ty ⟨g, i * k, none⟩ (.agg cells)).run P w = .ok () (w.setCells g (i * k) (enc v)) := by
    cases hq : P.info? ty with
    | none => simp [hq] at hi
    | some i =>
      have hs : cells.size = i.size := by simp [hq] at hi; omega
      rw [← hcv] at h2 ⊢
      simp [storeVar, sizeOf, typeInfo, hq, Value.cells, hs, h2]
  simp only [ho, hx, hy, Instr.storeAt, Instr.sureAddr, Sem.run_bind, Sem.run_pure, Result.andThen_ok, hsv]
  exact hK _ _ (h _ h1 (fun B w0 hB hb => Below_setCs hb hB _ _) (setCells_sz _ _ _ _) (fun b hb => setCells_other _ _ _ _ hb))
/-- a front part of an own slice -/
theorem Own.front (h : Own e enc k w base A c l) (hE : Enc enc k) {n : Nat} (hn : n ≤ l.length) (hA : A ≠ none) : Own e enc k w base A c (l.take n) := by
  obtain ⟨h1, h2⟩ := h
  have hnl : (l.take n).length = n := by rw [List.length_take]; omega
  have hq : l.flatMap enc = (l.take n).flatMap enc ++ (l.drop n).flatMap enc := by rw [← List.flatMap_append, List.take_append_drop]
  have hql : ((l.take n).flatMap enc).length = n * k := by rw [flat_length hE, hnl]
  have hfl : (l.take n).flatMap enc = (l.flatMap enc).take (n * k) := by
    rw [hq, List.take_append_of_le_length (Nat.le_of_eq hql.symm), List.take_of_length_le (Nat.le_of_eq hql)]
  unfold Own
  rw [hnl, hfl]
  have hk : n * k ≤ l.length * k := Nat.mul_le_mul_right k hn
  refine ⟨by rw [List.length_take, h1]; omega, ?_⟩
  rcases h2 with ⟨hv, _⟩ | ⟨g, cap, cur, hv, hb, hg, hnc, hcm, hcs, ht⟩
  · injection hv with hv; exact absurd hv hA
  · injection hv with hv1 hv2 hv3
    subst hv1; subst hv3
    refine Or.inr ⟨g, c, cur, rfl, hb, hg, by omega, hcm, hcs, ?_⟩
    rw [← ht, List.take_take, Nat.min_eq_left hk]
end
end Go.Proofs.Ytfdnciijibiodaa
