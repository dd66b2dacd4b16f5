/- Joined texts: Make, AccClone, AccCloneAll, AccFind. -/
import Derived.Test.YtlnnbkpcnhlfcaaDoorJAccOwner
import Derived.Laws.IdiomCopy
import Derived.Laws.OwnMore
import Derived.OwnWalk
import Derived.Test.YtlnnbkpcnhlfcaaDoorJAccMath
import Derived.Test.YtlnnbkpcnhlfcaaDoorJBox
/- make([]T, n) and copy of a whole slice into a slice of the call's own, elements of whatever size. -/
namespace Go.Proofs.YtlnnbkpcnhlfcaaDoor
open Go.RowKit Go.Lib
section
variable {α : Type} {e : Nat} {enc : α → List Value} {k : Nat} {w : World} {base : Nat} {A : Option Addr} {c : Nat} {l : List α} {P : Program} {t bytes : Nat}
theorem rd_flat (hE : Enc enc k) (k0 : 0 < k) {B : Nat} {b off : Nat} (h : Rd enc k w B (some ⟨b, off, none⟩) l) : ∀ j v, (l.flatMap enc)[j]? = some v → w.cell? ((⟨b, off, none⟩ : Addr).add j) = some v := by
  intro j u hu
  have e1 : j / k * k + j % k = j := by rw [Nat.mul_comm]; exact Nat.div_add_mod j k
  have hjk : j % k < k := Nat.mod_lt _ k0
  have hfl := flat_get hE l (j / k) (j % k) hjk
  rw [e1, hu] at hfl
  have hne : l ≠ [] := by rintro rfl; simp at hu
  obtain ⟨b', off', hA, _, hc⟩ := h hne
  injection hA with hA
  injection hA with hA1 hA2
  subst hA1 hA2
  cases hg : l[j / k]? with
  | none => rw [hg] at hfl; simp at hfl
  | some x =>
    rw [hg] at hfl
    simp only [Option.bind_some] at hfl
    have := hc (j / k) x hg (j % k) u hfl.symm
    rw [Nat.add_assoc, e1] at this
    have hadd : (⟨b, off, none⟩ : Addr).add j = ⟨b, off + j, none⟩ := by unfold Addr.add; split <;> simp_all
    rw [hadd]
    exact this
/-- what make hands back is an own slice of zero elements -/
theorem own_made (hE : Enc enc k) (k0 : 0 < k) {z : α} {Z : Value} (hz : Z.cells.toList = enc z) {g n : Nat} (h : w.ownsRow base e k (.slice (some ⟨g, 0, none⟩) n n) n (madeCells Z.cells (n * k)).toList) :
    Own e enc k w base (some ⟨g, 0, none⟩) n (List.replicate n z) := by
  have hzs : Z.cells.size = k := by rw [← Array.length_toList, hz, hE.1]
  have he : (madeCells Z.cells (n * k)).toList = (List.replicate n z).flatMap enc := by
    apply List.ext_getElem?
    intro j
    by_cases hj : j < n * k
    · have e1 : j / k * k + j % k = j := by rw [Nat.mul_comm]; exact Nat.div_add_mod j k
      have hfl := flat_get hE (List.replicate n z) (j / k) (j % k) (Nat.mod_lt _ k0)
      rw [e1] at hfl
      have hjn : j / k < n := by rw [Nat.div_lt_iff_lt_mul k0]; exact hj
      have hjm : j % k < Z.cells.size := by rw [hzs]; exact Nat.mod_lt _ k0
      rw [hfl, List.getElem?_replicate, if_pos hjn, Option.bind_some, ← hz]
      simp [madeCells, hj, hzs, Array.getElem?_eq_getElem hjm, getElem!_pos Z.cells (j % k) hjm]
    · rw [List.getElem?_eq_none (by rw [Array.length_toList, size_madeCells]; omega), List.getElem?_eq_none (by rw [flat_length hE, List.length_replicate]; omega)]
  unfold Own
  rw [List.length_replicate, ← he]
  exact h
theorem wpList_make {ops : Array Oper} {rest : List Oper} {o : Oper} {a : Act} {Q : Exit → Act → World → Prop} (hg : o.guard = none) (x y : Operand) (T : TyS P t e k bytes) (hE : Enc enc k)
    (hop : o.op = Op.makeSlice t x y) (base : Nat) (z : α) (hz : (P.info? e).bind (·.zero) = some (.agg (enc z).toArray))
    (kl kc : IntKind) (n : Nat) (hl : a.eval x = .int kl (n : Int)) (hc : a.eval y = .int kc (n : Int)) (b2 : bytes * n ≤ 281474976710656) (b3 : n ≤ 100000000000) (b4 : base ≤ w.heap.size)
    (h : ∀ w', Own e enc k w' base (some ⟨w.heap.size, 0, none⟩) n (List.replicate n z) → Below w.heap.size w w' → w.heap.size < w'.heap.size → wpList P ops Q rest (a.put o.dst (.slice (some ⟨w.heap.size, 0, none⟩) n n)) w') :
    wpList P ops Q (o :: rest) a w := by
  obtain ⟨i, Z, hi, hz0, hsz, hby, hzs⟩ := T.info
  rw [hi, Option.bind_some, hz0] at hz
  injection hz with hz
  refine wpList_make_full w hg x y t hop base e i Z k T.under hi hz0 hsz kl kc n n n hl hc rfl rfl (by rw [hby]; exact b2) (by unfold maxLen; omega) b4 fun w' h1 h2 => ?_
  refine h w' (own_made hE T.pos (by rw [hz]; simp [Value.cells]) h1) ?_ ?_
  · exact (Below.refl _ w).grown h2 (Nat.le_refl _) fun g hg => by cases hg
  · have := World.ownsRow.lt h1 w.heap.size (by simp [Value.ownBlock])
    exact this.2
/-- make at elements whose zero is no struct -/
theorem wpList_makeZ {ops : Array Oper} {rest : List Oper} {o : Oper} {a : Act} {Q : Exit → Act → World → Prop} (hg : o.guard = none) (x y : Operand) (T : TyS P t e k bytes) (hE : Enc enc k)
    (hop : o.op = Op.makeSlice t x y) (base : Nat) (z : α) (Z0 : Value) (hz : (P.info? e).bind (·.zero) = some Z0) (hZ0 : Z0.cells.toList = enc z)
    (kl kc : IntKind) (n : Nat) (hl : a.eval x = .int kl (n : Int)) (hc : a.eval y = .int kc (n : Int)) (b2 : bytes * n ≤ 281474976710656) (b3 : n ≤ 100000000000) (b4 : base ≤ w.heap.size)
    (h : ∀ w', Own e enc k w' base (some ⟨w.heap.size, 0, none⟩) n (List.replicate n z) → Below w.heap.size w w' → w.heap.size < w'.heap.size → wpList P ops Q rest (a.put o.dst (.slice (some ⟨w.heap.size, 0, none⟩) n n)) w') :
    wpList P ops Q (o :: rest) a w := by
  obtain ⟨i, Z, hi, hz0, hsz, hby, hzs⟩ := T.info
  rw [hi, Option.bind_some, hz0] at hz
  injection hz with hz
  refine wpList_make_full w hg x y t hop base e i Z k T.under hi hz0 hsz kl kc n n n hl hc rfl rfl (by rw [hby]; exact b2) (by unfold maxLen; omega) b4 fun w' h1 h2 => ?_
  refine h w' (own_made hE T.pos (by rw [hz]; exact hZ0) h1) ?_ ?_
  · exact (Below.refl _ w).grown h2 (Nat.le_refl _) fun g hg => by cases hg
  · have := World.ownsRow.lt h1 w.heap.size (by simp [Value.ownBlock])
    exact this.2
theorem run_copy_all (hE : Enc enc k) (T : TyS P t e k bytes) {g : Nat} {l0 : List α} (h : Own e enc k w base (some ⟨g, 0, none⟩) c l0) {B : Nat} {A2 : Option Addr} {c2 : Nat} {l : List α} (hr : Rd enc k w B A2 l) (hn : l.length = l0.length) (sT ty : TypeId) :
    ∃ w', (Builtin.copy_ #[t, sT] ty #[.slice (some ⟨g, 0, none⟩) l0.length c, .slice A2 l.length c2]).run P w = .ok (goInt l.length) w' ∧ Own e enc k w' base (some ⟨g, 0, none⟩) c l ∧ (∀ B w0, B ≤ g → Below B w0 w → Below B w0 w') ∧ (∀ b, b ≠ g → w'.heap[b]? = w.heap[b]?) ∧ w'.heap.size = w.heap.size := by
  obtain ⟨i, Z, hi, hz0, hsz, hby, hzs⟩ := T.info
  by_cases hne : l = []
  · subst hne
    have hl0 : l0 = [] := List.eq_nil_of_length_eq_zero (by simpa using hn.symm)
    subst hl0
    refine ⟨w, ?_, h, fun _ _ _ hb => hb, fun _ _ => rfl, rfl⟩
    have hl : ∀ (x : Addr), (loadCells x 0).run P w = .ok #[] w := fun x => by simpa using run_loadCells_list (P := P) w x [] (by simp)
    cases A2 <;> simp [Builtin.copy_, run_underlying T.under, Builtin.lenOf, Builtin.firstCells, sizeOf, typeInfo, hi, storeCells, hl]
  · obtain ⟨b, off, rfl, _, _⟩ := hr hne
    have hsrc := rd_flat hE T.pos hr
    have hl := run_loadCells_list (P := P) w ⟨b, off, none⟩ (l.flatMap enc) hsrc
    rw [flat_length hE] at hl
    have hfl0 := flat_length hE l0
    have hc : ∀ j, j < (l.flatMap enc).length → (w.cell? ⟨g, 0 + 0 + j, none⟩).isSome = true ∧ w.frozen? ⟨g, 0 + 0 + j, none⟩ = false := fun j hj => by
      rw [flat_length hE, hn, ← hfl0] at hj
      rw [show 0 + 0 + j = j by omega]
      refine ⟨?_, h.frozen rfl _⟩
      rw [World.ownsRow.cellAt h j (by rw [← hfl0]; exact hj), List.getElem?_eq_getElem hj]
      rfl
    have hst := run_storeCells_cells (P := P) g 0 (l.flatMap enc) 0 w (fun j hj => (hc j hj).1) (fun j hj => (hc j hj).2) (fun v hv => by
      rw [List.mem_flatMap] at hv
      obtain ⟨y, _, hy⟩ := hv
      exact hE.2 y v hy)
    have hown := ownsRow_setCells (l.flatMap enc) 0 (show w.ownsRow base e k (.slice (some ⟨g, 0, none⟩) l0.length c) l0.length (l0.flatMap enc) from h) (by rw [flat_length hE, flat_length hE, hn]; omega)
    rw [List.take_zero, List.nil_append, List.drop_of_length_le (by rw [flat_length hE, flat_length hE, hn]; omega), List.append_nil] at hown
    refine ⟨w.setCells g 0 (l.flatMap enc), ?_, ?_, fun B w0 hB hb => Below_setCs hb hB _ _, fun b hb => setCells_other _ _ _ _ hb, setCells_sz _ _ _ _⟩
    · simp [Builtin.copy_, run_underlying T.under, Builtin.lenOf, Builtin.firstCells, sizeOf, typeInfo, hi, hsz, hn, Nat.min_self]
      rw [← hn, hl]
      simp [hst]
    · unfold Own
      rw [hn]
      exact hown
theorem wpList_copyAll {ops : Array Oper} {rest : List Oper} {o : Oper} {a : Act} {Q : Exit → Act → World → Prop} (hgd : o.guard = none) (d s : Operand) (T : TyS P t e k bytes) (hE : Enc enc k)
    (ho : o.op = .call { callee := .builtin .copy, args := #[d, s], argTypes := #[t, t] }) {g : Nat} {l0 : List α} {n m : Nat} (hd : a.eval d = .slice (some ⟨g, 0, none⟩) n c) (hn : n = l0.length) (h : Own e enc k w base (some ⟨g, 0, none⟩) c l0)
    {B : Nat} {A2 : Option Addr} {c2 : Nat} {l : List α} (hs : a.eval s = .slice A2 m c2) (hm : m = l.length) (hr : Rd enc k w B A2 l) (hll : l.length = l0.length)
    (hK : ∀ w', Own e enc k w' base (some ⟨g, 0, none⟩) c l → (∀ B w0, B ≤ g → Below B w0 w → Below B w0 w') → (∀ b, b ≠ g → w'.heap[b]? = w.heap[b]?) → w'.heap.size = w.heap.size → wpList P ops Q rest (a.put o.dst (goInt l.length)) w') : wpList P ops Q (o :: rest) a w := by
  subst hn
  subst hm
  refine wpList_plain hgd fun K hK' => ?_
  obtain ⟨w', hrun, h1, h2, h3, h4⟩ := run_copy_all hE T h hr hll t o.type (c2 := c2)
  unfold Oper.wp
  simp only [execOp, ho, resolve, invoke, builtin, Sem.run_bind, Sem.run_pure, Result.andThen_ok, List.map_toArray, List.map_cons, List.map_nil, hd, hs, hrun]
  exact hK' _ _ (hK w' h1 h2 h3 h4)
end
end Go.Proofs.YtlnnbkpcnhlfcaaDoor
/- account.clone, walked. -/
namespace Go.Proofs.YtlnnbkpcnhlfcaaDoor
open Go.RowKit Go.Lib

theorem vals_eta (v : Av) : (⟨v.name, v.ag, v.pre, v.os, v.r0, v.r1, v.r2, v.r3, v.ex⟩ : Av) = v := rfl

set_option maxRecDepth 100000 in
set_option maxHeartbeats 8000000 in
theorem clone_any (a : Ac) {w : World} (h : AOk w a) (hl : a.v.os.length ≤ 1000) :
    Calls Tryd.prog 79 #[AcV a] w fun e w' => ∃ g, e = .returned (AcV ⟨a.v, some ⟨g, 0, none⟩, a.v.os.length⟩) ∧ Own 95 encOw 4 w' (w.heap.size + 2) (some ⟨g, 0, none⟩) a.v.os.length a.v.os ∧ Below w.heap.size w w' := by
  obtain ⟨⟨nm, ag, pre, os, r0, r1, r2, r3, ex⟩, oA, oc⟩ := a
  have H := Lib.hid h.1
  clear h
  simp only [AcV] at *
  obtain ⟨Y1, hY1⟩ : ∃ Y, w.alloc (.cells #[.string nm, .string ag, .bool pre, .slice oA os.length oc, .int .i64 r0, .int .i64 r1, .int .i64 r2, .int .i64 r3, .bool ex] 91) = Y := ⟨_, rfl⟩
  obtain ⟨Y2, hY2⟩ : ∃ Y, Y1.alloc (.cells #[.string ⟨#[]⟩, .string ⟨#[]⟩, .bool false, .slice none 0 0, .int .i64 0, .int .i64 0, .int .i64 0, .int .i64 0, .bool false] 91) = Y := ⟨_, rfl⟩
  have sY1 : Y1.heap.size = w.heap.size + 1 := by rw [← hY1]; simp
  have sY2 : Y2.heap.size = w.heap.size + 1 + 1 := by rw [← hY2, ← sY1]; simp
  have bW : Below w.heap.size w Y2 := by rw [← hY2, ← hY1]; exact ((Below.refl _ w).al _).al _
  have BA : Blk Y2 w.heap.size #[.string nm, .string ag, .bool pre, .slice oA os.length oc, .int .i64 r0, .int .i64 r1, .int .i64 r2, .int .i64 r3, .bool ex] 91 := by rw [← hY2, ← hY1]; exact (Blk.new w _ _).alloc _
  have BZ : Blk Y2 (w.heap.size + 1) #[.string ⟨#[]⟩, .string ⟨#[]⟩, .bool false, .slice none 0 0, .int .i64 0, .int .i64 0, .int .i64 0, .int .i64 0, .bool false] 91 := by rw [← hY2, ← sY1]; exact Blk.new Y1 _ _
  have a3 := BA.cell 3 (v := .slice oA os.length oc) rfl
  have hb0 : w.heap.size + 1 + 1 ≤ Y2.heap.size := by omega
  go_enter Tryd.func79, Tryd.ntmps79
  go_wp2_with (first | (refine wpList_make rfl (.tmp 6) (.tmp 6) tyOw encOw_ok rfl (w.heap.size + 1 + 1) zeroOw (by kernel_rfl) .i64 .i64 os.length rfl rfl (by omega) (by omega) hb0 ?_; intro w3 hown hb3 hs3; rw [sY2] at hown hb3; have bW3 := bW.st (hb3.mono (by omega)); have BA := BA.below hb3 (by omega); have BZ := BZ.below hb3 (by omega); have a3 := BA.cell 3 (v := .slice oA os.length oc) rfl; have RD := Lib.hid (H.out.st bW3)) | (refine wpList_copyAll rfl (.tmp 8) (.tmp 10) tyOw encOw_ok rfl rfl List.length_replicate.symm hown rfl rfl RD.out List.length_replicate.symm ?_; intro w4 hown4 hbz hoz hs4; have bW4 := hbz _ _ (by omega) bW3; have BA := BA.oth hoz (by omega); have BZ := BZ.oth hoz (by omega); have f3 := BA.frozen 3; have a3 := BA.cell 3 (v := .slice oA os.length oc) rfl; have BA5 := BA.set 3 (.slice (some ⟨w.heap.size + 1 + 1, 0, none⟩) os.length os.length); have BZ5 := BZ.other (p := ⟨w.heap.size, 3, none⟩) (by show w.heap.size + 1 ≠ w.heap.size; omega) (.slice (some ⟨w.heap.size + 1 + 1, 0, none⟩) os.length os.length); have bW5 := bW4.setCell (p := ⟨w.heap.size, 3, none⟩) (Nat.le_refl _) (.slice (some ⟨w.heap.size + 1 + 1, 0, none⟩) os.length os.length); have hown5 := hown4.other (p := ⟨w.heap.size, 3, none⟩) (by show w.heap.size < w.heap.size + 1 + 1; omega) (.slice (some ⟨w.heap.size + 1 + 1, 0, none⟩) os.length os.length)) | (refine wpList_boxLoad rfl (ty := 91) (x := .tmp 1) (cs := #[.string nm, .string ag, .bool pre, .slice (some ⟨w.heap.size + 1 + 1, 0, none⟩) os.length os.length, .int .i64 r0, .int .i64 r1, .int .i64 r2, .int .i64 r3, .bool ex]) rfl BA5 rfl ⟨_, Tryd.underlying91, by kernel_rfl⟩ ?_) | (refine wpList_boxStore rfl (ty := 91) (x := .tmp 2) (y := .tmp 14) (cells := #[.string nm, .string ag, .bool pre, .slice (some ⟨w.heap.size + 1 + 1, 0, none⟩) os.length os.length, .int .i64 r0, .int .i64 r1, .int .i64 r2, .int .i64 r3, .bool ex]) rfl BZ5 rfl rfl (by kernel_rfl) rfl (by kernel_rfl) ?_; intro w6 BZ6 hoz6 hbz6))
  refine bodyPost_ret (v := .agg #[.string nm, .string ag, .bool pre, .slice (some ⟨w.heap.size + 1 + 1, 0, none⟩) os.length os.length, .int .i64 r0, .int .i64 r1, .int .i64 r2, .int .i64 r3, .bool ex]) ?_ rfl ⟨w.heap.size + 1 + 1, rfl, hown5.same (fun g hg => hoz6 g (by omega)), hbz6 _ _ (by omega) bW5⟩
  exact results_box Tryd.results79 _ rfl BZ6 ⟨_, Tryd.underlying91, by kernel_rfl⟩
end Go.Proofs.YtlnnbkpcnhlfcaaDoor
/- account.cloneAll, walked. -/
namespace Go.Proofs.YtlnnbkpcnhlfcaaDoor
open Go.RowKit Go.Lib

/-- an account whose list of vehicles is the call's own -/
def OwnA (w : World) (base : Nat) (b : Ac) : Prop := ∃ g, b.oA = some ⟨g, 0, none⟩ ∧ Own 95 encOw 4 w base (some ⟨g, 0, none⟩) b.oc b.v.os
/-- accounts whose lists of vehicles are the call's own, each in a block of its own -/
def CList (w : World) (base : Nat) (l : List Ac) : Prop := (∀ b ∈ l, OwnA w base b) ∧ l.Pairwise fun a b => a.oA ≠ b.oA
theorem OwnA.lt {w : World} {base : Nat} {b : Ac} (h : OwnA w base b) : ∃ g, b.oA = some ⟨g, 0, none⟩ ∧ base ≤ g ∧ g < w.heap.size := by
  obtain ⟨g, hA, hown⟩ := h
  rcases hown.form with ⟨q, _⟩ | ⟨g', q, h1, h2⟩
  · cases q
  · injection q with q; injection q with q; subst q
    exact ⟨g, hA, h1, h2⟩
theorem OwnA.st {w w' : World} {base : Nat} {b : Ac} (h : OwnA w base b) (hb : Below w.heap.size w w') : OwnA w' base b := by
  obtain ⟨g, hA, hown⟩ := h
  exact ⟨g, hA, hown.st hb⟩
theorem OwnA.same {w w' : World} {base : Nat} {b : Ac} (h : OwnA w base b) (hk : ∀ g, base ≤ g → w'.heap[g]? = w.heap[g]?) : OwnA w' base b := by
  obtain ⟨g, hA, hown⟩ := h
  exact ⟨g, hA, hown.same hk⟩
theorem OwnA.ok {w : World} {base : Nat} {b : Ac} (h : OwnA w base b) : AOk w b := by
  obtain ⟨g, hA, hown⟩ := h
  refine ⟨by rw [hA]; exact hown.rd encOw_ok, hown.cap, ?_⟩
  rcases hown.2 with ⟨h1, h2⟩ | ⟨g, cap, cur, hv, _, _, _, hm, _⟩
  · injection h1 with p q r; rw [r]; omega
  · injection hv with p q r; rw [r]; unfold maxLen at hm; exact hm
theorem CList.st {w w' : World} {base : Nat} {l : List Ac} (h : CList w base l) (hb : Below w.heap.size w w') : CList w' base l := ⟨fun b hb' => (h.1 b hb').st hb, h.2⟩
theorem CList.same {w w' : World} {base : Nat} {l : List Ac} (h : CList w base l) (hk : ∀ g, base ≤ g → w'.heap[g]? = w.heap[g]?) : CList w' base l := ⟨fun b hb => (h.1 b hb).same hk, h.2⟩
theorem CList.ok {w : World} {base : Nat} {l : List Ac} (h : CList w base l) : AsOk w l := fun b hb => (h.1 b hb).ok
theorem CList.nil (w : World) (base : Nat) : CList w base [] := ⟨by simp, by simp⟩
theorem CList.snoc {w w' : World} {base : Nat} {l : List Ac} {b : Ac} (h : CList w base l) (hb : Below w.heap.size w w') (hx : OwnA w' base b) (hn : ∀ g, b.oA = some ⟨g, 0, none⟩ → w.heap.size ≤ g) : CList w' base (l ++ [b]) := by
  refine ⟨fun x hx' => ?_, List.pairwise_append.2 ⟨h.2, by simp, fun x hx' y hy => ?_⟩⟩
  · rcases List.mem_append.1 hx' with q | q
    · exact (h.1 x q).st hb
    · simp at q; subst q; exact hx
  · simp at hy
    subst hy
    obtain ⟨g, hA, _, hg⟩ := (h.1 x hx').lt
    intro q
    rw [hA] at q
    have := hn g q.symm
    omega
theorem Own.maxc {α : Type} {e : Nat} {enc : α → List Value} {k : Nat} {w : World} {base : Nat} {A : Option Addr} {c : Nat} {l : List α} (h : Own e enc k w base A c l) : c ≤ 9223372036854775807 := by
  rcases h.2 with ⟨h1, h2⟩ | ⟨g, cap, cur, hv, _, _, _, hm, _⟩
  · injection h1 with p q r; rw [r]; omega
  · injection hv with p q r; rw [r]; unfold maxLen at hm; exact hm
theorem cut_get {cs l : List Ac} {k : Nat} (hk : cs.length = k) (hi : k < l.length) : (cs ++ l.drop k)[k]? = some l[k] := by
  rw [List.getElem?_append_right (by omega), hk, Nat.sub_self, List.getElem?_drop, Nat.add_zero, List.getElem?_eq_getElem hi]
theorem cut_set {cs l : List Ac} {k : Nat} (hk : cs.length = k) (hi : k < l.length) (b : Ac) : (cs ++ l.drop k).set k b = (cs ++ [b]) ++ l.drop (k + 1) := by
  rw [List.set_append_right _ _ (by omega), hk, Nat.sub_self, List.drop_eq_getElem_cons hi, List.set_cons_zero, List.append_assoc]
  rfl

end Go.Proofs.YtlnnbkpcnhlfcaaDoor
/- account.Find and the reference's Find, walked. -/
namespace Go.Proofs.YtlnnbkpcnhlfcaaDoor
open Go.RowKit Go.Lib

theorem findA_idx {l : List Ac} {s : ByteArray} {i : Int} (h : IdxR (fun a : Ac => eqS a.v.name s) l i) :
    (i = -1 ∧ (vals l).find? (named s) = none) ∨ ∃ (k : Nat) (a : Ac), i = (k : Int) ∧ l[k]? = some a ∧ eqS a.v.name s = true ∧ (∀ y ∈ l.take k, eqS y.v.name s = false) ∧ (vals l).find? (named s) = some a.v := by
  have e : (vals l).find? (named s) = (l.find? fun a : Ac => eqS a.v.name s).map Ac.v := by
    unfold vals
    rw [List.find?_map]; rfl
  rcases h with ⟨h1, h2⟩ | ⟨k, a, hx, h1, hp, hn⟩
  · exact Or.inl ⟨h1, by rw [e, (IdxR.any_no h2).2]; rfl⟩
  · exact Or.inr ⟨k, a, h1, hx, hp, hn, by rw [e, (IdxR.any_at hx hp hn).2]; rfl⟩
/-- what Find hands back -/
def FindAR (l : List Ac) (s : ByteArray) (w w' : World) (e : Ending) : Prop :=
  ∃ b : Ac, e = .returned (.tuple #[AcV b, .bool ((vals l).find? (named s)).isSome]) ∧ b.v = ((vals l).find? (named s)).getD zeroA ∧ AOk w' b ∧ Below w.heap.size w w'

set_option maxRecDepth 100000 in
set_option maxHeartbeats 8000000 in
theorem find_any {A : Option Addr} (c : Nat) {l : List Ac} (s : ByteArray) {w : World} (h : AL w A c l) (hsm : smL l) :
    Calls Tryd.prog 43 #[.slice A l.length c, .string s] w fun e w' => FindAR l s w w' e := by
  have H := Lib.hid h
  have hl1 : l.length ≤ 1000 := hsm.1
  obtain ⟨Y, hY⟩ : ∃ Y, w.alloc (.cells #[.string ⟨#[]⟩, .string ⟨#[]⟩, .bool false, .slice none 0 0, .int .i64 0, .int .i64 0, .int .i64 0, .int .i64 0, .bool false] 91) = Y := ⟨_, rfl⟩
  have bW : Below w.heap.size w Y := by rw [← hY]; exact (Below.refl _ w).al _
  have BZ : Blk Y w.heap.size #[.string ⟨#[]⟩, .string ⟨#[]⟩, .bool false, .slice none 0 0, .int .i64 0, .int .i64 0, .int .i64 0, .int .i64 0, .bool false] 91 := by rw [← hY]; exact Blk.new w _ _
  have CI := Lib.hid (index_any c s (h.1.st bW) (by omega))
  have CC := Lib.hid (fun (a : Ac) (ha : a ∈ l) (X : World) (hX : Below w.heap.size w X) => clone_any a (h.2.1.st hX a ha) (hsm.2 a ha).1)
  clear h hsm
  unfold FindAR
  generalize hr : (vals l).find? (named s) = r
  have HR := Lib.hid hr
  clear hr
  have ltZ := BZ.lt
  go_enter Tryd.func43, Tryd.ntmps43
  go_wp2_with fail
  refine CI.out.mono ?_
  rintro e w2 ⟨⟨i, rfl, hI⟩, hbn⟩
  have bW := bW.st hbn
  have BZ := BZ.below hbn BZ.lt
  rcases findA_idx hI with ⟨rfl, hn⟩ | ⟨k, a, rfl, hx, hp, hno, hn⟩
  · have R := Lib.hid (HR.out.symm.trans hn)
    clear hI hn HR
    go_wp2_with (first | (refine wpList_boxBuild rfl (cells := #[.string ⟨#[]⟩, .string ⟨#[]⟩, .bool false, .slice none 0 0, .int .i64 0, .int .i64 0, .int .i64 0, .int .i64 0, .bool false]) rfl (by kernel_rfl) ?_) | (refine wpList_boxStore rfl (ty := 91) (x := .tmp 4) (y := .tmp 12) (cells := #[.string ⟨#[]⟩, .string ⟨#[]⟩, .bool false, .slice none 0 0, .int .i64 0, .int .i64 0, .int .i64 0, .int .i64 0, .bool false]) rfl BZ rfl rfl (by kernel_rfl) rfl (by kernel_rfl) ?_; intro w6 BZ6 hoz6 hbz6))
    refine bodyPost_ret (v := .tuple #[.agg #[.string ⟨#[]⟩, .string ⟨#[]⟩, .bool false, .slice none 0 0, .int .i64 0, .int .i64 0, .int .i64 0, .int .i64 0, .bool false], .bool false]) (results_box_tmp Tryd.results43 _ (.bool false) rfl rfl BZ6 ⟨_, Tryd.underlying91, by kernel_rfl⟩) rfl ?_
    rw [R.out]
    exact ⟨zeroAc, rfl, rfl, ⟨Rd.nil, Nat.le_refl _, by show 0 ≤ _; omega⟩, hbz6 _ _ (Nat.le_refl _) bW⟩
  · have R := Lib.hid (HR.out.symm.trans hn)
    have hk := (List.getElem?_eq_some_iff.1 hx).1
    have CCa := Lib.hid (CC.out a (List.mem_of_getElem? hx) w2 bW)
    obtain ⟨b, off, a', rfl, hb, hx', d0, d1, d2, d3, d4, d5, d6, d7, d8⟩ := (H.out.1.st bW).ac hk
    rw [hx] at hx'
    obtain rfl := Option.some.inj hx'
    have k0 : (0 : Int) ≤ (k : Int) := by omega
    have k1 : (k : Int) < (l.length : Int) := by omega
    clear hI hn HR hx hp hno hx'
    go_wp2_with fail
    refine CCa.out.mono ?_
    rintro e w3 ⟨g, rfl, ho, hbn3⟩
    have bW := bW.st hbn3
    have BZ := BZ.below hbn3 BZ.lt
    have hs := hbn.size
    go_wp2_with (first | (refine wpList_boxStore rfl (ty := 91) (x := .tmp 4) (y := .tmp 17) (cells := #[.string a.v.name, .string a.v.ag, .bool a.v.pre, .slice (some ⟨g, 0, none⟩) a.v.os.length a.v.os.length, .int .i64 a.v.r0, .int .i64 a.v.r1, .int .i64 a.v.r2, .int .i64 a.v.r3, .bool a.v.ex]) rfl BZ rfl rfl (by kernel_rfl) rfl (by kernel_rfl) ?_; intro w6 BZ6 hoz6 hbz6))
    refine bodyPost_ret (v := .tuple #[.agg #[.string a.v.name, .string a.v.ag, .bool a.v.pre, .slice (some ⟨g, 0, none⟩) a.v.os.length a.v.os.length, .int .i64 a.v.r0, .int .i64 a.v.r1, .int .i64 a.v.r2, .int .i64 a.v.r3, .bool a.v.ex], .bool true]) (results_box_tmp Tryd.results43 _ (.bool true) rfl rfl BZ6 ⟨_, Tryd.underlying91, by kernel_rfl⟩) rfl ?_
    rw [R.out]
    refine ⟨⟨a.v, some ⟨g, 0, none⟩, a.v.os.length⟩, rfl, rfl, OwnA.ok (base := w2.heap.size + 2) ⟨g, rfl, ho.same (fun g hg => hoz6 g (by omega))⟩, hbz6 _ _ (Nat.le_refl _) bW⟩

set_option maxRecDepth 100000 in
set_option maxHeartbeats 8000000 in
theorem rFind_any {A : Option Addr} (c : Nat) {l : List Ac} (s : ByteArray) {w : World} (h : AL w A c l) (hsm : smL l) :
    Calls Tryd.prog 46 #[.slice A l.length c, .string s] w fun e w' => FindAR l s w w' e := by
  have H := Lib.hid h
  have hl1 : l.length ≤ 1000 := hsm.1
  obtain ⟨Y, hY⟩ : ∃ Y, w.alloc (.cells #[.string ⟨#[]⟩, .string ⟨#[]⟩, .bool false, .slice none 0 0, .int .i64 0, .int .i64 0, .int .i64 0, .int .i64 0, .bool false] 91) = Y := ⟨_, rfl⟩
  have bW : Below w.heap.size w Y := by rw [← hY]; exact (Below.refl _ w).al _
  have BZ : Blk Y w.heap.size #[.string ⟨#[]⟩, .string ⟨#[]⟩, .bool false, .slice none 0 0, .int .i64 0, .int .i64 0, .int .i64 0, .int .i64 0, .bool false] 91 := by rw [← hY]; exact Blk.new w _ _
  have CI := Lib.hid (rfind_any c s (h.1.st bW) (by omega))
  clear h hsm
  unfold FindAR
  generalize hr : (vals l).find? (named s) = r
  have HR := Lib.hid hr
  clear hr
  have ltZ := BZ.lt
  go_enter Tryd.func46, Tryd.ntmps46
  go_wp2_with fail
  refine CI.out.mono ?_
  rintro e w2 ⟨⟨i, rfl, hI⟩, rfl⟩
  rcases findA_idx hI with ⟨rfl, hn⟩ | ⟨k, a, rfl, hx, hp, hno, hn⟩
  · have R := Lib.hid (HR.out.symm.trans hn)
    clear hI hn HR
    go_wp2_with (first | (refine wpList_boxBuild rfl (cells := #[.string ⟨#[]⟩, .string ⟨#[]⟩, .bool false, .slice none 0 0, .int .i64 0, .int .i64 0, .int .i64 0, .int .i64 0, .bool false]) rfl (by kernel_rfl) ?_) | (refine wpList_boxStore rfl (ty := 91) (x := .tmp 4) (y := .tmp 12) (cells := #[.string ⟨#[]⟩, .string ⟨#[]⟩, .bool false, .slice none 0 0, .int .i64 0, .int .i64 0, .int .i64 0, .int .i64 0, .bool false]) rfl BZ rfl rfl (by kernel_rfl) rfl (by kernel_rfl) ?_; intro w6 BZ6 hoz6 hbz6))
    refine bodyPost_ret (v := .tuple #[.agg #[.string ⟨#[]⟩, .string ⟨#[]⟩, .bool false, .slice none 0 0, .int .i64 0, .int .i64 0, .int .i64 0, .int .i64 0, .bool false], .bool false]) (results_box_tmp Tryd.results46 _ (.bool false) rfl rfl BZ6 ⟨_, Tryd.underlying91, by kernel_rfl⟩) rfl ?_
    rw [R.out]
    exact ⟨zeroAc, rfl, rfl, ⟨Rd.nil, Nat.le_refl _, by show 0 ≤ _; omega⟩, hbz6 _ _ (Nat.le_refl _) bW⟩
  · have R := Lib.hid (HR.out.symm.trans hn)
    have hk := (List.getElem?_eq_some_iff.1 hx).1
    have hok := H.out.2.1 a (List.mem_of_getElem? hx)
    obtain ⟨b, off, a', rfl, hb, hx', d0, d1, d2, d3, d4, d5, d6, d7, d8⟩ := (H.out.1.st bW).ac hk
    rw [hx] at hx'
    obtain rfl := Option.some.inj hx'
    have k0 : (0 : Int) ≤ (k : Int) := by omega
    have k1 : (k : Int) < (l.length : Int) := by omega
    clear hI hn HR hx hp hno hx'
    go_wp2_with (first | (refine wpList_boxStore rfl (ty := 91) (x := .tmp 4) (y := .tmp 16) (cells := #[.string a.v.name, .string a.v.ag, .bool a.v.pre, .slice a.oA a.v.os.length a.oc, .int .i64 a.v.r0, .int .i64 a.v.r1, .int .i64 a.v.r2, .int .i64 a.v.r3, .bool a.v.ex]) rfl BZ rfl rfl (by kernel_rfl) rfl (by kernel_rfl) ?_; intro w6 BZ6 hoz6 hbz6))
    refine bodyPost_ret (v := .tuple #[.agg #[.string a.v.name, .string a.v.ag, .bool a.v.pre, .slice a.oA a.v.os.length a.oc, .int .i64 a.v.r0, .int .i64 a.v.r1, .int .i64 a.v.r2, .int .i64 a.v.r3, .bool a.v.ex], .bool true]) (results_box_tmp Tryd.results46 _ (.bool true) rfl rfl BZ6 ⟨_, Tryd.underlying91, by kernel_rfl⟩) rfl ?_
    rw [R.out]
    have bW6 := hbz6 _ _ (Nat.le_refl _) bW
    exact ⟨a, rfl, rfl, hok.st bW6, bW6⟩
end Go.Proofs.YtlnnbkpcnhlfcaaDoor
