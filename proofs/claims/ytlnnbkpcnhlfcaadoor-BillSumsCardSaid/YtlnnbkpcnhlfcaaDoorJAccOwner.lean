/- Joined texts: AccOwner, Elem. -/
import Derived.Test.YtlnnbkpcnhlfcaaDoorJValid
import Derived.Test.YtlnnbkpcnhlfcaaDoorJInts
import Derived.Lib.SliceRun
import Derived.Laws.Tables
/- account.Owner, walked. -/
namespace Go.Proofs.YtlnnbkpcnhlfcaaDoor
open Go.RowKit Go.Lib

theorem find_at {α : Type} {p : α → Bool} {l : List α} {k : Nat} {x : α} (hx : l[k]? = some x) (hp : p x = true) (h : ∀ y ∈ l.take k, p y = false) : l.find? p = some x := (IdxR.any_at hx hp h).2
theorem owner_at {l : List Ac} {k : Nat} {a : Ac} {v : ByteArray} {t : Int} (hx : l[k]? = some a) (hp : ownA v t a.v = true) (h : ∀ y ∈ l.take k, ownA v t y.v = false) : ownerN (vals l) v t = a.v.name ∧ ownerB (vals l) v t = true := by
  have h1 : (vals l).find? (ownA v t) = some a.v := by
    refine find_at (k := k) (by unfold vals; rw [List.getElem?_map, hx]; rfl) hp fun y hy => ?_
    unfold vals at hy
    rw [← List.map_take, List.mem_map] at hy
    obtain ⟨z, hz, rfl⟩ := hy
    exact h z hz
  refine ⟨by unfold ownerN; rw [h1], ?_⟩
  unfold ownerB
  exact List.any_eq_true.2 ⟨a.v, List.mem_of_find?_eq_some h1, hp⟩
theorem owner_none {l : List Ac} {v : ByteArray} {t : Int} (h : ∀ y ∈ l.take l.length, ownA v t y.v = false) : ownerN (vals l) v t = ⟨#[]⟩ ∧ ownerB (vals l) v t = false := by
  rw [List.take_length] at h
  have hh : ∀ y ∈ vals l, ownA v t y = false := fun y hy => by
    unfold vals at hy
    rw [List.mem_map] at hy
    obtain ⟨z, hz, rfl⟩ := hy
    exact h z hz
  refine ⟨?_, ?_⟩
  · unfold ownerN
    rw [List.find?_eq_none.2 fun y hy => by rw [hh y hy]; simp]
  · unfold ownerB
    rw [List.any_eq_false]
    intro y hy
    rw [hh y hy]; simp
theorem ownA_idx {a : Ac} {v : ByteArray} {t : Int} {i : Int} (h : IdxR (ownsB v t) a.v.os i) : (ownA v t a.v = false ∧ i = -1) ∨ (ownA v t a.v = true ∧ ∃ k : Nat, i = (k : Int)) := by
  rcases h with ⟨h1, h2⟩ | ⟨k, x, hx, h1, hp, hn⟩
  · exact Or.inl ⟨(IdxR.any_no h2).1, h1⟩
  · exact Or.inr ⟨(IdxR.any_at hx hp hn).1, k, h1⟩

set_option maxRecDepth 100000 in
set_option maxHeartbeats 8000000 in
theorem owner_any {A : Option Addr} (c : Nat) {l : List Ac} (v : ByteArray) (t : Int) {w : World} (h : AL w A c l) (hsm : smL l) :
    Calls Tryd.prog 30 #[.slice A l.length c, .string v, .int .i64 t] w fun e w' => e = .returned (.tuple #[.string (ownerN (vals l) v t), .bool (ownerB (vals l) v t)]) ∧ Below w.heap.size w w' := by
  have H := Lib.hid h
  have CO := Lib.hid (fun (a : Ac) (ha : a ∈ l) (X : World) (hX : Below w.heap.size w X) => owned_any a.oc v t (h.2.1.st hX a ha).1 (by have := (hsm.2 a ha).1; omega))
  have HAT := Lib.hid (fun (k : Nat) (a : Ac) (hx : l[k]? = some a) q1 q2 => owner_at (v := v) (t := t) hx q1 q2)
  have HNO := Lib.hid (owner_none (l := l) (v := v) (t := t))
  have hlen : l.length ≤ 1000 := hsm.1
  generalize ownerN (vals l) v t = rn at *
  generalize ownerB (vals l) v t = rb at *
  clear h hsm
  go_enter Tryd.func30, Tryd.ntmps30
  go_wp2
  go_loopw [12] (fun i wr => ∃ k : Nat, k ≤ l.length ∧ i = .int .i64 k ∧ Hid (∀ y ∈ l.take k, ownA v t y.v = false) ∧ Below w.heap.size w wr) (fun i _ => l.length - (RowKit.intOf i).toNat)
  case atStart => exact ⟨0, Nat.zero_le _, rfl, (by unfold Hid; simp), Below.refl _ _⟩
  case round =>
    obtain ⟨k, hk, rfl, HN, bW⟩ := hrel
    by_cases hi : k < l.length
    · obtain ⟨b, off, a, rfl, hb, hx, d0, d1, d2, d3, d4, d5, d6, d7, d8⟩ := (H.out.1.st bW).ac hi
      obtain ⟨Y2, hY2⟩ : ∃ Y, wr.alloc (.cells #[.string a.v.name, .string a.v.ag, .bool a.v.pre, .slice a.oA a.v.os.length a.oc, .int .i64 a.v.r0, .int .i64 a.v.r1, .int .i64 a.v.r2, .int .i64 a.v.r3, .bool a.v.ex] 91) = Y := ⟨_, rfl⟩
      have BX : Blk Y2 wr.heap.size #[.string a.v.name, .string a.v.ag, .bool a.v.pre, .slice a.oA a.v.os.length a.oc, .int .i64 a.v.r0, .int .i64 a.v.r1, .int .i64 a.v.r2, .int .i64 a.v.r3, .bool a.v.ex] 91 := by rw [← hY2]; exact Blk.new wr _ _
      have bW2 : Below w.heap.size w Y2 := by rw [← hY2]; exact bW.al _
      have x3 : World.cell? Y2 ⟨wr.heap.size, 3, none⟩ = some (.slice a.oA a.v.os.length a.oc) := BX.cell 3 rfl
      have HK := Lib.hid hi
      have HX := Lib.hid hx
      have COa := Lib.hid (CO.out a (List.mem_of_getElem? hx) Y2 bW2)
      clear hx hi
      go_wp2_with fail
      refine COa.out.mono ?_
      rintro e w5 ⟨⟨i, rfl, hI⟩, hbn⟩
      have bW5 := bW2.st hbn
      have B5 := BX.below hbn BX.lt
      have y0 : World.cell? w5 ⟨wr.heap.size, 0, none⟩ = some (.string a.v.name) := B5.cell 0 rfl
      rcases ownA_idx hI with ⟨hq, rfl⟩ | ⟨hq, j, rfl⟩
      · have R := Lib.hid (all_succ' (p := fun y : Ac => ownA v t y.v) HX.out HN.out hq)
        clear hq hI
        go_wp2_with fail
        go_roundw
        case rel => exact ⟨k + 1, HK.out, by go_num, R, bW5⟩
        case measure => have := HK.out; simp [RowKit.intOf]; omega
      · have R := Lib.hid (HAT.out k a HX.out hq HN.out)
        have j0 : (0 : Int) ≤ (j : Int) := by omega
        clear hq hI
        go_wp2_with fail
        go_ret2
        obtain ⟨rfl, rfl⟩ := R.out
        exact ⟨rfl, bW5⟩
    · obtain rfl : k = l.length := by omega
      have R := Lib.hid (HNO.out HN.out)
      go_wp2
      go_ret2
      obtain ⟨rfl, rfl⟩ := R.out
      exact ⟨rfl, bW⟩
end Go.Proofs.YtlnnbkpcnhlfcaaDoor
/- A whole element stored into a slice of the call's own. -/
namespace Go.Proofs.YtlnnbkpcnhlfcaaDoor
open Go.RowKit Go.Lib
section
variable {α : Type} {e : Nat} {enc : α → List Value} {k : Nat} {w : World} {base : Nat} {A : Option Addr} {c : Nat} {l : List α}
theorem setCells_sz (b : Nat) (vs : List Value) (o : Nat) (w : World) : (w.setCells b o vs).heap.size = w.heap.size := by
  induction vs generalizing o w with
  | nil => rfl
  | cons v vs ih => exact (ih _ _).trans (by simp)
theorem setCells_other (b : Nat) (vs : List Value) (o : Nat) (w : World) {n : Nat} (hn : n ≠ b) : (w.setCells b o vs).heap[n]? = w.heap[n]? := by
  induction vs generalizing o w with
  | nil => rfl
  | cons v vs ih => exact (ih _ _).trans (Below.heap_setCell w ⟨b, o, none⟩ v n hn)
theorem Below_setCs {B g : Nat} {w W : World} (h : Below B w W) (hg : B ≤ g) (o : Nat) (vs : List Value) : Below B w (W.setCells g o vs) := by
  induction vs generalizing o W with
  | nil => exact h
  | cons v vs ih => exact ih (h.setCell (p := ⟨g, o, none⟩) hg v) _
theorem ownsRow_setCells {g n : Nat} {sz cp : Nat} : ∀ (vs : List Value) (o : Nat) {w : World} {xs : List Value}, w.ownsRow base e sz (.slice (some ⟨g, 0, none⟩) n cp) n xs → o + vs.length ≤ xs.length → (w.setCells g o vs).ownsRow base e sz (.slice (some ⟨g, 0, none⟩) n cp) n (xs.take o ++ vs ++ xs.drop (o + vs.length))
  | [], o, w, xs, h, _ => by
    simp only [List.append_nil, List.length_nil, Nat.add_zero, List.take_append_drop]
    exact h
  | v :: vs, o, w, xs, h, hl => by
    have h1 := (World.ownsRow.stored h o v).1
    simp only [List.length_cons] at hl
    have h2 := ownsRow_setCells vs (o + 1) h1 (by rw [List.length_set]; omega)
    have e1 : (xs.set o v).take (o + 1) ++ vs ++ (xs.set o v).drop (o + 1 + vs.length) = xs.take o ++ (v :: vs) ++ xs.drop (o + (vs.length + 1)) := by
      rw [List.drop_set_of_lt (by omega), List.take_set, List.set_eq_take_append_cons_drop, if_pos (by rw [List.length_take]; omega), List.take_take, List.drop_take]
      rw [show min o (o + 1) = o by omega, show o + 1 - (o + 1) = 0 by omega, List.take_zero]
      simp only [List.append_assoc, List.cons_append, List.nil_append]
      rw [show o + 1 + vs.length = o + (vs.length + 1) by omega]
    rw [e1] at h2
    exact h2
theorem flat_set (hE : ∀ x, (enc x).length = k) (y : α) : ∀ (l : List α) (i : Nat), i < l.length → (l.flatMap enc).take (i * k) ++ enc y ++ (l.flatMap enc).drop (i * k + k) = (l.set i y).flatMap enc
  | x :: l, 0, _ => by
    simp only [Nat.zero_mul, List.take_zero, List.nil_append, Nat.zero_add, List.flatMap_cons, List.set_cons_zero]
    rw [List.drop_append_of_le_length (by rw [hE]; exact Nat.le_refl _), List.drop_of_length_le (by rw [hE]; exact Nat.le_refl _), List.nil_append]
  | x :: l, i + 1, h => by
    have ih := flat_set hE y l i (by simpa using h)
    simp only [List.flatMap_cons, List.set_cons_succ]
    rw [← ih, show (i + 1) * k = (enc x).length + i * k by rw [hE, Nat.succ_mul]; omega, List.take_length_add_append, show (enc x).length + i * k + k = (enc x).length + (i * k + k) by omega, List.drop_length_add_append]
    simp only [List.append_assoc]
theorem Own.storeEl {P : Program} (h : Own e enc k w base A c l) (hE : Enc enc k) {g i : Nat} (hA : A = some ⟨g, 0, none⟩) (hi : i < l.length) (y : α) :
    Own e enc k (w.setCells g (i * k) (enc y)) base A c (l.set i y) ∧ (storeCells ⟨g, i * k, none⟩ (enc y) 0).run P w = .ok () (w.setCells g (i * k) (enc y)) := by
  subst hA
  have hfl := flat_length hE l
  have hik : i * k + k ≤ l.length * k := by have := Nat.mul_le_mul_right k (show i + 1 ≤ l.length from hi); rw [Nat.succ_mul] at this; exact this
  refine ⟨?_, ?_⟩
  · have := ownsRow_setCells (enc y) (i * k) (show w.ownsRow base e k (.slice (some ⟨g, 0, none⟩) l.length c) l.length (l.flatMap enc) from h) (by rw [hE.1, hfl]; exact hik)
    rw [hE.1, flat_set hE.1 y l i hi] at this
    unfold Own
    rw [List.length_set]
    exact this
  · have hc : ∀ j, j < (enc y).length → (w.cell? ⟨g, i * k + 0 + j, none⟩).isSome = true ∧ w.frozen? ⟨g, i * k + 0 + j, none⟩ = false := fun j hj => by
      rw [hE.1] at hj
      have hj2 : j < (enc l[i]).length := by rw [hE.1]; exact hj
      rw [Nat.add_zero, h.cells hE rfl (List.getElem?_eq_getElem hi) (List.getElem?_eq_getElem hj2)]
      exact ⟨rfl, h.frozen rfl _⟩
    have := run_storeCells_cells (P := P) g (i * k) (enc y) 0 w (fun j hj => (hc j hj).1) (fun j hj => (hc j hj).2) (fun v hv => hE.2 y v hv)
    rwa [Nat.add_zero] at this
/-- a store of a whole element into an own slice -/
theorem wpList_ownEl {P : Program} {ops : Array Oper} {rest : List Oper} {o : Oper} {a : Act} {Q : Exit → Act → World → Prop} (hgd : o.guard = none) {ty : TypeId} {x y : Operand} (ho : o.op = .store ty x y)
    {g i : Nat} {cells : Array Value} (v : α) (hx : a.eval x = .pointer (some ⟨g, i * k, none⟩)) (hy : a.eval y = .agg cells) (hcv : cells.toList = enc v) (hi : (P.info? ty).map (·.size) = some k) (hE : Enc enc k) (hown : Own e enc k w base A c l) (hA : A = some ⟨g, 0, none⟩) (hd : i < l.length)
    (h : ∀ w', Own e enc k w' base A c (l.set i v) → (∀ B w0, B ≤ g → Below B w0 w → Below B w0 w') → w'.heap.size = w.heap.size → (∀ b, b ≠ g → w'.heap[b]? = w.heap[b]?) → wpList P ops Q rest (a.put o.dst undef) w') : wpList P ops Q (o :: rest) a w := by
  refine wpList_plain hgd fun K hK => ?_
  unfold Oper.wp execOp
  obtain ⟨h1, h2⟩ := hown.storeEl (P := P) hE hA hd v
  have hsz : cells.size = k := by rw [← Array.length_toList, hcv, hE.1]
  have hsv : (storeVar ty ⟨g, i * k, none⟩ (.agg cells)).run P w = .ok () (w.setCells g (i * k) (enc v)) := by
    cases hq : P.info? ty with
    | none => simp [hq] at hi
    | some i =>
      have hs : cells.size = i.size := by simp [hq] at hi; omega
      rw [← hcv] at h2 ⊢
      simp [storeVar, sizeOf, typeInfo, hq, Value.cells, hs, h2]
  simp only [ho, hx, hy, Instr.storeAt, Instr.sureAddr, Sem.run_bind, Sem.run_pure, Result.andThen_ok, hsv]
  exact hK _ _ (h _ h1 (fun B w0 hB hb => Below_setCs hb hB _ _) (setCells_sz _ _ _ _) (fun b hb => setCells_other _ _ _ _ hb))
/-- a front part of an own slice -/
theorem Own.front (h : Own e enc k w base A c l) (hE : Enc enc k) {n : Nat} (hn : n ≤ l.length) (hA : A ≠ none) : Own e enc k w base A c (l.take n) := by
  obtain ⟨h1, h2⟩ := h
  have hnl : (l.take n).length = n := by rw [List.length_take]; omega
  have hq : l.flatMap enc = (l.take n).flatMap enc ++ (l.drop n).flatMap enc := by rw [← List.flatMap_append, List.take_append_drop]
  have hql : ((l.take n).flatMap enc).length = n * k := by rw [flat_length hE, hnl]
  have hfl : (l.take n).flatMap enc = (l.flatMap enc).take (n * k) := by
    rw [hq, List.take_append_of_le_length (Nat.le_of_eq hql.symm), List.take_of_length_le (Nat.le_of_eq hql)]
  unfold Own
  rw [hnl, hfl]
  have hk : n * k ≤ l.length * k := Nat.mul_le_mul_right k hn
  refine ⟨by rw [List.length_take, h1]; omega, ?_⟩
  rcases h2 with ⟨hv, _⟩ | ⟨g, cap, cur, hv, hb, hg, hnc, hcm, hcs, ht⟩
  · injection hv with hv; exact absurd hv hA
  · injection hv with hv1 hv2 hv3
    subst hv1; subst hv3
    refine Or.inr ⟨g, c, cur, rfl, hb, hg, by omega, hcm, hcs, ?_⟩
    rw [← ht, List.take_take, Nat.min_eq_left hk]
end
end Go.Proofs.YtlnnbkpcnhlfcaaDoor
