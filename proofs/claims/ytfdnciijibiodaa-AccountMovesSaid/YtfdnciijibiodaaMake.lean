/- make([]T, n) and copy of a whole slice into a slice of the call's own, elements of whatever size. -/
import Derived.Test.YtfdnciijibiodaaElem
import Derived.Laws.IdiomCopy
import Derived.Laws.OwnMore
import Derived.OwnWalk
namespace Go.Proofs.Ytfdnciijibiodaa
open Go.RowKit Go.Lib
section
variable {α : Type} {e : Nat} {enc : α → List Value} {k : Nat} {w : World} {base : Nat} {A : Option Addr} {c : Nat} {l : List α} {P : Program} {t bytes : Nat}
theorem rd_flat (hE : Enc enc k) (k0 : 0 < k) {B : Nat} {b off : Nat} (h : Rd enc k w B (some ⟨b, off, none⟩) l) : ∀ j v, (l.flatMap enc)[j]? = some v → w.cell? ((⟨b, off, none⟩ : Addr).add j) = some v := by
  intro j u hu
  have e1 : j / k * k + j % k = j := by rw [Nat.mul_comm]; exact Nat.div_add_mod j k
  have hjk : j % k < k := Nat.mod_lt _ k0
  have hfl := flat_get hE l (j / k) (j % k) hjk
  rw [e1, hu] at hfl
  have hne : l ≠ [] := by rintro rfl; simp at hu
  obtain ⟨b', off', hA, _, hc⟩ := h hne
  injection hA with hA
  injection hA with hA1 hA2
  subst hA1 hA2
  cases hg : l[j / k]? with
  | none => rw [hg] at hfl; simp at hfl
  | some x =>
    rw [hg] at hfl
    simp only [Option.bind_some] at hfl
    have := hc (j / k) x hg (j % k) u hfl.symm
    rw [Nat.add_assoc, e1] at this
    have hadd : (⟨b, off, none⟩ : Addr).add j = ⟨b, off + j, none⟩ := by unfold Addr.add; split <;> simp_all
    rw [hadd]
    exact this
/-- what make hands back is an own slice of zero elements -/
theorem own_made (hE : Enc enc k) (k0 : 0 < k) {z : α} {Z : Value} (hz : Z.cells.toList = enc z) {g n : Nat} (h : w.ownsRow base e k (.slice (some ⟨g, 0, none⟩) n n) n (madeCells Z.cells (n * k)).toList) :
    Own e enc k w base (some ⟨g, 0, none⟩) n (List.replicate n z) := by
  have hzs : Z.cells.size = k := by rw [← Array.length_toList, hz, hE.1]
  have he : (madeCells Z.cells (n * k)).toList = (List.replicate n z).flatMap enc := by
    apply List.ext_getElem?
    intro j
    by_cases hj : j < n * k
    · have e1 : j / k * k + j % k = j := by rw [Nat.mul_comm]; exact Nat.div_add_mod j k
      have hfl := flat_get hE (List.replicate n z) (j / k) (j % k) (Nat.mod_lt _ k0)
      rw [e1] at hfl
      have hjn : j / k < n := by rw [Nat.div_lt_iff_lt_mul k0]; exact hj
      have hjm : j % k < Z.cells.size := by rw [hzs]; exact Nat.mod_lt _ k0
      rw [hfl, List.getElem?_replicate, if_pos hjn, Option.bind_some, ← hz]
      simp [madeCells, hj, hzs, Array.getElem?_eq_getElem hjm, getElem!_pos Z.cells (j % k) hjm]
    · rw [List.getElem?_eq_none (by rw [Array.length_toList, size_madeCells]; omega), List.getElem?_eq_none (by rw [flat_length hE, List.length_replicate]; omega)]
  unfold Own
  rw [List.length_replicate, ← he]
  exact h
theorem wpList_make {ops : Array Oper} {rest : List Oper} {o : Oper} {a : Act} {Q : Exit → Act → World → Prop} (hg : o.guard = none) (x y : Operand) (T : TyS P t e k bytes) (hE : Enc enc k)
    (hop : o.op = Op.makeSlice t x y) (base : Nat) (z : α) (hz : (P.info? e).bind (·.zero) = some (.agg (enc z).toArray))
    (kl kc : IntKind) (n : Nat) (hl : a.eval x = .int kl (n : Int)) (hc : a.eval y = .int kc (n : Int)) (b2 : bytes * n ≤ 281474976710656) (b3 : n ≤ 100000000000) (b4 : base ≤ w.heap.size)
    (h : ∀ w', Own e enc k w' base (some ⟨w.heap.size, 0, none⟩) n (List.replicate n z) → Below w.heap.size w w' → w.heap.size < w'.heap.size → wpList P ops Q rest (a.put o.dst (.slice (some ⟨w.heap.size, 0, none⟩) n n)) w') :
    wpList P ops Q (o :: rest) a w := by
  obtain ⟨i, Z, hi, hz0, hsz, hby, hzs⟩ := T.info
  rw [hi, Option.bind_some, hz0] at hz
  injection hz with hz
  refine wpList_make_full w hg x y t hop base e i Z k T.under hi hz0 hsz kl kc n n n hl hc rfl rfl (by rw [hby]; exact b2) (by unfold maxLen; omega) b4 fun w' h1 h2 => ?_
  refine h w' (own_made hE T.pos (by rw [hz]; simp [Value.cells]) h1) ?_ ?_
  · exact (Below.refl _ w).grown h2 (Nat.le_refl _) fun g hg => by cases hg
  · have := World.ownsRow.lt h1 w.heap.size (by simp [Value.ownBlock])
    exact this.2
theorem run_copy_all (hE : Enc enc k) (T : TyS P t e k bytes) {g : Nat} {l0 : List α} (h : Own e enc k w base (some ⟨g, 0, none⟩) c l0) {B : Nat} {A2 : Option Addr} {c2 : Nat} {l : List α} (hr : Rd enc k w B A2 l) (hn : l.length = l0.length) (sT ty : TypeId) :
    ∃ w', (Builtin.copy_ #[t, sT] ty #[.slice (some ⟨g, 0, none⟩) l0.length c, .slice A2 l.length c2]).run P w = .ok (goInt l.length) w' ∧ Own e enc k w' base (some ⟨g, 0, none⟩) c l ∧ (∀ B w0, B ≤ g → Below B w0 w → Below B w0 w') ∧ (∀ b, b ≠ g → w'.heap[b]? = w.heap[b]?) ∧ w'.heap.size = w.heap.size := by
  obtain ⟨i, Z, hi, hz0, hsz, hby, hzs⟩ := T.info
  by_cases hne : l = []
  · subst hne
    have hl0 : l0 = [] := List.eq_nil_of_length_eq_zero (by simpa using hn.symm)
    subst hl0
    refine ⟨w, ?_, h, fun _ _ _ hb => hb, fun _ _ => rfl, rfl⟩
    have hl : ∀ (x : Addr), (loadCells x 0).run P w = .ok #[] w := fun x => by simpa using run_loadCells_list (P := P) w x [] (by simp)
    cases A2 <;> simp [Builtin.copy_, run_underlying T.under, Builtin.lenOf, Builtin.firstCells, sizeOf, typeInfo, hi, storeCells, hl]
  · obtain ⟨b, off, rfl, _, _⟩ := hr hne
    have hsrc := rd_flat hE T.pos hr
    have hl := run_loadCells_list (P := P) w ⟨b, off, none⟩ (l.flatMap enc) hsrc
    rw [flat_length hE] at hl
    have hfl0 := flat_length hE l0
    have hc : ∀ j, j < (l.flatMap enc).length → (w.cell? ⟨g, 0 + 0 + j, none⟩).isSome = true ∧ w.frozen? ⟨g, 0 + 0 + j, none⟩ = false := fun j hj => by
      rw [flat_length hE, hn, ← hfl0] at hj
      rw [show 0 + 0 + j = j by omega]
      refine ⟨?_, h.frozen rfl _⟩
      rw [World.ownsRow.cellAt h j (by rw [← hfl0]; exact hj), List.getElem?_eq_getElem hj]
      rfl
    have hst := run_storeCells_cells (P := P) g 0 (l.flatMap enc) 0 w (fun j hj => (hc j hj).1) (fun j hj => (hc j hj).2) (fun v hv => by
      rw [List.mem_flatMap] at hv
      obtain ⟨y, _, hy⟩ := hv
      exact hE.2 y v hy)
    have hown := ownsRow_setCells (l.flatMap enc) 0 (show w.ownsRow base e k (.slice (some ⟨g, 0, none⟩) l0.length c) l0.length (l0.flatMap enc) from h) (by rw [flat_length hE, flat_length hE, hn]; omega)
    rw [List.take_zero, List.nil_append, List.drop_of_length_le (by rw [flat_length hE, flat_length hE, hn]; omega), List.append_nil] at hown
    refine ⟨w.setCells g 0 (l.flatMap enc), ?_, ?_, fun B w0 hB hb => Below_setCs hb hB _ _, fun b hb => setCells_other _ _ _ _ hb, setCells_sz _ _ _ _⟩
    · simp [Builtin.copy_, run_underlying T.under, Builtin.lenOf, Builtin.firstCells, sizeOf, typeInfo, hi, hsz, hn, Nat.min_self]
      rw [← hn, hl]
      simp [hst]
    · unfold Own
      rw [hn]
      exact hown
theorem wpList_copyAll {ops : Array Oper} {rest : List Oper} {o : Oper} {a : Act} {Q : Exit → Act → World → Prop} (hgd : o.guard = none) (d s : Operand) (T : TyS P t e k bytes) (hE : Enc enc k)
    (ho : o.op = .call { callee := .builtin .copy, args := #[d, s], argTypes := #[t, t] }) {g : Nat} {l0 : List α} {n m : Nat} (hd : a.eval d = .slice (some ⟨g, 0, none⟩) n c) (hn : n = l0.length) (h : Own e enc k w base (some ⟨g, 0, none⟩) c l0)
    {B : Nat} {A2 : Option Addr} {c2 : Nat} {l : List α} (hs : a.eval s = .slice A2 m c2) (hm : m = l.length) (hr : Rd enc k w B A2 l) (hll : l.length = l0.length)
    (hK : ∀ w', Own e enc k w' base (some ⟨g, 0, none⟩) c l → (∀ B w0, B ≤ g → Below B w0 w → Below B w0 w') → (∀ b, b ≠ g → w'.heap[b]? = w.heap[b]?) → w'.heap.size = w.heap.size → wpList P ops Q rest (a.put o.dst (goInt l.length)) w') : wpList P ops Q (o :: rest) a w := by
  subst hn
  subst hm
  refine wpList_plain hgd fun K hK' => ?_
  obtain ⟨w', hrun, h1, h2, h3, h4⟩ := run_copy_all hE T h hr hll t o.type (c2 := c2)
  unfold Oper.wp
  simp only [execOp, ho, resolve, invoke, builtin, Sem.run_bind, Sem.run_pure, Result.andThen_ok, List.map_toArray, List.map_cons, List.map_nil, hd, hs, hrun]
  exact hK' _ _ (hK w' h1 h2 h3 h4)
end
end Go.Proofs.Ytfdnciijibiodaa
