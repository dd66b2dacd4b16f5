/- Words for memory: a slice that reads as a list of structs (Rd), a slice of the call's own (Own), append and store on it. -/
import Derived.WalkKit
import Derived.WalkLawsBesides
import Derived.WalkSpells
import Derived.BigQuiet
import Derived.Deep.QuietTactic
import Derived.RegionTactic
import Derived.Lib.Hide
import Derived.Below
import Derived.Laws.OwnMore
import Derived.Deep.Draws
import Derived.Maps.AppendAt
namespace Go.Proofs.YtelchfijalkibaaGreatDoor
open Go.RowKit Go.Lib

theorem ret_int {k : IntKind} {a b : Int} (h : a = b) : Ending.returned (.int k a) = .returned (.int k b) := by rw [h]
theorem ret_bool {a b : Bool} (h : a = b) : Ending.returned (.bool a) = .returned (.bool b) := by rw [h]
theorem below_drewN {B : Nat} {a w : World} (h : Below B a w) (n : Nat) : Below B a (w.drewN n) := ⟨h.os, h.tape, h.output, h.size, h.block⟩

theorem heap_alloc_new' (w : World) (o : Obj) (g : Nat) (h : w.heap.size = g) : (w.alloc o).heap[g]? = some o := by subst h; exact heap_alloc_new w o
theorem _root_.Go.RowKit.Below.al {w w' : World} (h : Below w.heap.size w w') (o : Obj) : Below w.heap.size w (w'.alloc o) := h.alloc h.size o
/-- how an element lies: k cells, each a value of one cell -/
def Enc {α : Type} (enc : α → List Value) (k : Nat) : Prop := (∀ x, (enc x).length = k) ∧ ∀ x, ∀ u ∈ enc x, u.oneCell' = true

section
variable {α : Type} {enc : α → List Value} {k : Nat} {w w' : World} {B B' base : Nat} {A : Option Addr} {c : Nat} {l : List α}

theorem flat_length (h : Enc enc k) (l : List α) : (l.flatMap enc).length = l.length * k := by
  induction l with
  | nil => simp
  | cons x l ih => rw [List.flatMap_cons, List.length_append, ih, h.1, List.length_cons, Nat.add_mul, Nat.one_mul]; omega
theorem flat_get (h : Enc enc k) : ∀ (l : List α) (i j : Nat), j < k → (l.flatMap enc)[i * k + j]? = l[i]?.bind fun x => (enc x)[j]?
  | [], i, j, _ => by simp
  | x :: l, 0, j, hj => by
    rw [List.flatMap_cons, List.getElem?_append_left (by rw [h.1]; omega)]
    simp
  | x :: l, i + 1, j, hj => by
    rw [List.flatMap_cons, List.getElem?_append_right (by rw [h.1, Nat.add_mul]; omega), h.1]
    rw [show (i + 1) * k + j - k = i * k + j by rw [Nat.add_mul]; omega, flat_get h l i j hj]
    simp

/-- the slice at address A reads as l, below block B -/
def Rd (enc : α → List Value) (k : Nat) (w : World) (B : Nat) (A : Option Addr) (l : List α) : Prop :=
  l ≠ [] → ∃ b off, A = some ⟨b, off, none⟩ ∧ b < B ∧ ∀ (i : Nat) (x : α), l[i]? = some x → ∀ (j : Nat) (u : Value), (enc x)[j]? = some u → w.cell? ⟨b, off + i * k + j, none⟩ = some u

theorem Rd.nil : Rd enc k w B A [] := fun h => absurd rfl h
theorem Rd.at_ (h : Rd enc k w B A l) {i : Nat} (hi : i < l.length) :
    ∃ b off x, A = some ⟨b, off, none⟩ ∧ b < B ∧ l[i]? = some x ∧ ∀ (j : Nat) (u : Value), (enc x)[j]? = some u → w.cell? ⟨b, off + i * k + j, none⟩ = some u := by
  have hne : l ≠ [] := by rintro rfl; simp at hi
  obtain ⟨b, off, hA, hb, hc⟩ := h hne
  exact ⟨b, off, l[i], hA, hb, List.getElem?_eq_getElem hi, hc i _ (List.getElem?_eq_getElem hi)⟩
theorem Rd.keepW (h : Rd enc k w B A l) (hb : ∀ p : Addr, p.block < B → w'.cell? p = w.cell? p) : Rd enc k w' B A l := by
  intro hne
  obtain ⟨b, off, hA, hB, hc⟩ := h hne
  exact ⟨b, off, hA, hB, fun i x hx j u hu => (hb ⟨b, _, none⟩ hB).trans (hc i x hx j u hu)⟩
theorem Rd.keep (h : Rd enc k w B A l) (hb : Below B w w') : Rd enc k w' B A l := h.keepW fun _ hp => hb.cell hp
theorem Rd.more (h : Rd enc k w B A l) (hB : B ≤ B') : Rd enc k w B' A l := by
  intro hne
  obtain ⟨b, off, hA, hb, hc⟩ := h hne
  exact ⟨b, off, hA, by omega, hc⟩
theorem Rd.take (h : Rd enc k w B A l) (n : Nat) : Rd enc k w B A (l.take n) := by
  intro hne
  have hne' : l ≠ [] := by rintro rfl; simp at hne
  obtain ⟨b, off, hA, hb, hc⟩ := h hne'
  refine ⟨b, off, hA, hb, fun i x hx j u hu => hc i x ?_ j u hu⟩
  rw [List.getElem?_take] at hx
  split at hx
  · exact hx
  · cases hx

/-- a slice of the call's own -/
def Own (e : Nat) (enc : α → List Value) (k : Nat) (w : World) (base : Nat) (A : Option Addr) (c : Nat) (l : List α) : Prop :=
  w.ownsRow base e k (.slice A l.length c) l.length (l.flatMap enc)

variable {e : Nat}
theorem Own.nil (w : World) (base : Nat) : Own e enc k w base none 0 [] := World.ownsRow_nil w base e k
theorem Own.form (h : Own e enc k w base A c l) : (A = none ∧ l = [] ∧ c = 0) ∨ ∃ g, A = some ⟨g, 0, none⟩ ∧ base ≤ g ∧ g < w.heap.size := by
  rcases h.2 with ⟨h1, h2⟩ | ⟨g, cap, cur, hv, hb, hg, _⟩
  · left
    injection h1 with p q r
    exact ⟨p, List.eq_nil_of_length_eq_zero h2, r⟩
  · right
    injection hv with p q r
    exact ⟨g, p, hb, (Array.getElem?_eq_some_iff.1 hg).1⟩
theorem Rd.keepIf (h : Rd enc k w B A l) (hk : ∀ b off, A = some ⟨b, off, none⟩ → b < B → ∀ o, w'.cell? ⟨b, o, none⟩ = w.cell? ⟨b, o, none⟩) : Rd enc k w' B A l := by
  intro hne
  obtain ⟨b, off, hA, hB, hc⟩ := h hne
  exact ⟨b, off, hA, hB, fun i x hx j u hu => (hk b off hA hB _).trans (hc i x hx j u hu)⟩
theorem Rd.st (h : Rd enc k w w.heap.size A l) (hb : Below w.heap.size w w') : Rd enc k w' w'.heap.size A l := (h.keep hb).more hb.size
theorem Own.addr (h : Own e enc k w base A c l) : A = none ∨ ∃ b off, A = some ⟨b, off, none⟩ := by
  rcases h.form with ⟨h0, _⟩ | ⟨g, hA, _⟩
  · exact .inl h0
  · exact .inr ⟨g, 0, hA⟩
theorem Own.ne (h : Own e enc k w base A c l) {b : Nat} (hb : w.heap.size ≤ b) : ∀ g, A = some ⟨g, 0, none⟩ → b ≠ g := by
  intro g hA
  rcases h.form with ⟨h0, _⟩ | ⟨g', hA', _, hg⟩
  · rw [h0] at hA; cases hA
  · rw [hA'] at hA
    injection hA with hA
    injection hA with hA
    omega
theorem Own.cells (h : Own e enc k w base A c l) (hE : Enc enc k) {g : Nat} (hA : A = some ⟨g, 0, none⟩) {i : Nat} {x : α} (hi : l[i]? = some x) {j : Nat} {u : Value} (hu : (enc x)[j]? = some u) :
    w.cell? ⟨g, i * k + j, none⟩ = some u := by
  subst hA
  have hj : j < k := by have := (List.getElem?_eq_some_iff.1 hu).1; rw [hE.1] at this; exact this
  have hil : i < l.length := (List.getElem?_eq_some_iff.1 hi).1
  have hlt : i * k + j < l.length * k := by
    have := Nat.mul_le_mul_right k (show i + 1 ≤ l.length from hil); rw [Nat.add_mul, Nat.one_mul] at this; omega
  rw [World.ownsRow.cellAt h _ hlt, flat_get hE _ _ _ hj, hi]
  exact hu
theorem Own.frozen (h : Own e enc k w base A c l) {g : Nat} (hA : A = some ⟨g, 0, none⟩) (j : Nat) : w.frozen? ⟨g, j, none⟩ = false := by
  subst hA
  exact World.ownsRow.frozenAt h j
theorem Own.rd (h : Own e enc k w base A c l) (hE : Enc enc k) : Rd enc k w w.heap.size A l := by
  intro hne
  rcases h.form with ⟨_, h2, _⟩ | ⟨g, hA, hb, hg⟩
  · exact absurd h2 hne
  · exact ⟨g, 0, hA, hg, fun i x hx j u hu => by rw [Nat.zero_add]; exact h.cells hE hA hx hu⟩
theorem Own.lit (w : World) (base : Nat) {cs : Array Value} (l : List α) {g : Nat} (hE : Enc enc k) (hcs : cs.toList = l.flatMap enc) (hg : w.heap.size = g) (hb : base ≤ g) (hl : l.length ≤ 100000000000) :
    Own e enc k (w.alloc (.cells cs e)) base (some ⟨g, 0, none⟩) l.length l := by
  subst hg
  have h1 := World.ownsRow_lit (base := base) (e := e) (size := k) w cs l.length hb (by unfold maxLen; omega) (by rw [← Array.length_toList, hcs, flat_length hE])
  rw [hcs] at h1
  exact h1
theorem Own.mono (h : Own e enc k w base A c l) {base' : Nat} (hb : base' ≤ base) : Own e enc k w base' A c l := by
  refine ⟨h.1, ?_⟩
  rcases h.2 with h2 | ⟨g, cap, cur, hv, hg, r⟩
  · exact .inl h2
  · exact .inr ⟨g, cap, cur, hv, by omega, r⟩
theorem Own.alloc (h : Own e enc k w base A c l) (o : Obj) : Own e enc k (w.alloc o) base A c l := World.ownsRow.alloc h o
theorem Own.drew (h : Own e enc k w base A c l) : Own e enc k w.drew base A c l := h
theorem Own.drewN (h : Own e enc k w base A c l) (n : Nat) : Own e enc k (w.drewN n) base A c l := h
theorem Own.keep (h : Own e enc k w base A c l) (hb : Below B w w') (hB : w.heap.size ≤ B) : Own e enc k w' base A c l := by
  refine ⟨h.1, ?_⟩
  rcases h.2 with h2 | ⟨g, cap, cur, hv, hg, hh, r⟩
  · exact .inl h2
  · exact .inr ⟨g, cap, cur, hv, hg, by rw [hb.block g (Nat.lt_of_lt_of_le (Array.getElem?_eq_some_iff.1 hh).1 hB)]; exact hh, r⟩
theorem set_flat (hE : Enc enc k) : ∀ (l : List α) (i j : Nat) (x y : α) (u : Value), l[i]? = some x → j < k → (enc x).set j u = enc y → (l.flatMap enc).set (i * k + j) u = (l.set i y).flatMap enc
  | [], _, _, _, _, _, h, _, _ => by simp at h
  | z :: l, 0, j, x, y, u, h, hj, he => by
    simp at h
    subst h
    rw [List.flatMap_cons, List.set_append_left _ _ (by rw [hE.1]; omega), show 0 * k + j = j by omega, he]
    simp
  | z :: l, i + 1, j, x, y, u, h, hj, he => by
    simp only [List.getElem?_cons_succ] at h
    rw [List.flatMap_cons, List.set_append_right _ _ (by rw [hE.1, Nat.add_mul]; omega), hE.1, show (i + 1) * k + j - k = i * k + j by rw [Nat.add_mul]; omega, set_flat hE l i j x y u h hj he]
    simp
theorem Own.stored (h : Own e enc k w base A c l) (hE : Enc enc k) {g i j : Nat} {x y : α} {u : Value} (hA : A = some ⟨g, 0, none⟩) (hi : l[i]? = some x) (hj : j < k) (he : (enc x).set j u = enc y) :
    Own e enc k (w.setCell ⟨g, i * k + j, none⟩ u) base A c (l.set i y) := by
  subst hA
  have := (World.ownsRow.stored h (i * k + j) u).1
  rw [set_flat hE l i j x y u hi hj he] at this
  unfold Own
  rw [List.length_set]
  exact this
end

/-- what the table says of a slice type: type t, element type e of k cells and so many bytes -/
structure TyS (P : Program) (t e k bytes : Nat) : Prop where
  under : P.underlying t = some (.slice e)
  info : ∃ i z, P.info? e = some i ∧ i.zero = some z ∧ i.size = k ∧ i.bytes = bytes ∧ z.cells.size = k
  pos : 0 < k
theorem TyS.mk' {P : Program} {t e k bytes : Nat} {z : Value} (h1 : P.underlying t = some (.slice e)) (h2 : (P.info? e).map (fun i => (i.zero, i.size, i.bytes)) = some (some z, k, bytes)) (h3 : z.cells.size = k) (h4 : 0 < k) : TyS P t e k bytes := by
  obtain ⟨i, hi, hz0, hz1, hz2⟩ := info_parts h2
  exact ⟨h1, ⟨i, z, hi, hz0, hz1, hz2, h3⟩, h4⟩

section
variable {α : Type} {enc : α → List Value} {k : Nat} {A : Option Addr} {c : Nat} {l : List α} {P : Program} {t e bytes : Nat}
/-- append of a row that lies somewhere onto a slice of the call's own -/
theorem wpList_app (w : World) {ops : Array Oper} {rest : List Oper} {o : Oper} {a : Act} {Q : Exit → Act → World → Prop} (hgd : o.guard = none) (s x : Operand)
    (T : TyS P t e k bytes) (hE : Enc enc k)
    (ho : o.op = .call { callee := .builtin .append, args := #[s, x], argTypes := #[t, t] })
    (base : Nat) (hs : a.eval s = .slice A l.length c) (hown : Own e enc k w base A c l)
    (ad : Addr) (m c' : Nat) (new : List α) (hx : a.eval x = .slice (some ad) m c') (hm : new.length = m) (hnews : ∀ j u, (new.flatMap enc)[j]? = some u → w.cell? (ad.add j) = some u)
    (hbytes : (l.length + m) * bytes ≤ 140737488355328) (hmax : l.length + m ≤ 9000000000000000000) (hbase : base ≤ w.heap.size)
    (h : ∀ A' c' w', Own e enc k w' base A' c' (l ++ new) → Below base w w' → w.heap.size ≤ w'.heap.size → (∀ g, g < w.heap.size → some g ≠ (Value.slice A l.length c).ownBlock → w'.heap[g]? = w.heap[g]?) → wpList P ops Q rest (a.put o.dst (.slice A' (l ++ new).length c')) w') : wpList P ops Q (o :: rest) a w := by
  obtain ⟨i, z, hi, hz, hsz, hby, hzs⟩ := T.info
  refine wpList_append_own w hgd s x t ho base e i z k bytes T.under hi hz hsz hby hzs T.pos (.slice A l.length c) l.length (l.flatMap enc) hs hown ad m c' (new.flatMap enc) hx (by rw [flat_length hE, hm]) hnews ?_ (by unfold maxLen; omega) hbytes hbase ?_
  · intro u hu
    rw [List.mem_flatMap] at hu
    obtain ⟨y, _, hy⟩ := hu
    exact hE.2 y u hy
  · intro v' w' hown' hg _
    have hlen : (l ++ new).length = l.length + m := by rw [List.length_append, hm]
    obtain ⟨A', c'', hv⟩ : ∃ A' c'', v' = .slice A' (l ++ new).length c'' := by
      rcases hown'.2 with ⟨hv, h0⟩ | ⟨g, cap, cur, hv, _⟩
      · exact ⟨none, 0, by rw [hv, hlen, h0]⟩
      · exact ⟨_, _, by rw [hv, hlen]⟩
    rw [hv]
    refine h A' c'' w' ?_ ?_ hg.size (fun g hgl hne => hg.block g hgl hne)
    · unfold Own
      rw [hv, ← hlen, ← List.flatMap_append] at hown'
      exact hown'
    · refine (Below.refl base w).grown hg hbase fun g hgo => ?_
      exact (World.ownsRow.lt hown g (by rw [hgo])).1
/-- append of ONE element, just boxed -/
theorem wpList_app1 {w0 : World} {ops : Array Oper} {rest : List Oper} {o : Oper} {a : Act} {Q : Exit → Act → World → Prop} (hgd : o.guard = none) (s y : Operand)
    (T : TyS P t e k bytes) (hE : Enc enc k)
    (ho : o.op = .call { callee := .builtin .append, args := #[s, y], argTypes := #[t, t] })
    {cs : Array Value} (x : α) (hcs : cs.toList = enc x)
    (base : Nat) {n : Nat} (hs : a.eval s = .slice A n c) (hn : n = l.length) (hown : Own e enc k w0 base A c l)
    {g0 : Nat} (hx : a.eval y = .slice (some ⟨g0, 0, none⟩) 1 1) (hg0 : w0.heap.size = g0)
    (hbytes : (l.length + 1) * bytes ≤ 140737488355328) (hmax : l.length ≤ 8000000000000000000) (hbase : base ≤ w0.heap.size)
    (h : ∀ A' c' w', Own e enc k w' base A' c' (l ++ [x]) → Below base w0 w' → w0.heap.size < w'.heap.size → (∀ p : Addr, p.block < w0.heap.size → (∀ g, A = some ⟨g, 0, none⟩ → p.block ≠ g) → w'.cell? p = w0.cell? p) → wpList P ops Q rest (a.put o.dst (.slice A' (n + 1) c')) w') : wpList P ops Q (o :: rest) a (w0.alloc (.cells cs e)) := by
  subst hn
  subst hg0
  refine wpList_app (w0.alloc (.cells cs e)) hgd s y T hE ho base hs (hown.alloc _) ⟨w0.heap.size, 0, none⟩ 1 1 [x] hx rfl ?_ hbytes (by omega) (by simp; omega) ?_
  · intro j u hu
    have hadd : (⟨w0.heap.size, 0, none⟩ : Addr).add j = ⟨w0.heap.size, j, none⟩ := by unfold Addr.add; split <;> simp_all
    rw [hadd, cell_of_row _ _ _ cs e (0, 0) (heap_alloc_new w0 _)]
    simp only [List.flatMap_cons, List.flatMap_nil, List.append_nil] at hu
    rw [← hcs] at hu
    simpa using hu
  · intro A' c' w' h1 h2 h3 h4
    rw [show (l ++ [x]).length = l.length + 1 by simp]
    refine h A' c' w' h1 (((Below.refl base w0).alloc hbase _).trans h2) ?_ fun p hp hne => ?_
    · simp at h3
      omega
    · refine (World.cell?_of_block (h4 p.block (by simp; omega) fun hh => ?_)).trans (World.cell?_alloc_lt w0 _ p hp)
      cases A with
      | none => simp [Value.ownBlock] at hh
      | some q =>
        rcases hown.form with ⟨hA, _⟩ | ⟨g, hA, _⟩
        · cases hA
        · injection hA with hA
          subst hA
          simp [Value.ownBlock] at hh
          exact hne g rfl hh
/-- append of nothing: the source is nil -/
theorem run_app_nil (w : World) (base : Nat) (ty : TypeId) (T : TyS P t e k bytes) (hown : Own e enc k w base A c l) (d : Nat) : (Builtin.append_ #[t, t] ty #[.slice A l.length c, .slice none 0 d]).run P w = .ok (.slice A l.length c) w := by
  obtain ⟨i, z, hi, _⟩ := T.info
  rcases hown.2 with ⟨h1, h2⟩ | ⟨g, cap, cur, h1, _, _, hnc, _⟩
  · rw [h1]
    simp [Builtin.append_, run_underlying T.under, sizeOf, typeInfo, hi, Builtin.lenOf, Builtin.firstCells]
  · rw [h1]
    simp [Builtin.append_, run_underlying T.under, sizeOf, typeInfo, hi, Builtin.lenOf, Builtin.firstCells, hnc, storeCells]
/-- append of a whole slice (nil, empty or not) onto a slice of the call's own -/
theorem wp_appS {w : World} {o : Oper} {a : Act} {K : Act → World → Prop} {Q : Exit → Act → World → Prop} (s y : Operand)
    (T : TyS P t e k bytes) (hE : Enc enc k)
    (ho : o.op = .call { callee := .builtin .append, args := #[s, y], argTypes := #[t, t] })
    (base : Nat) {n : Nat} (hs : a.eval s = .slice A n c) (hn : n = l.length) (hown : Own e enc k w base A c l)
    {B : Nat} {A2 : Option Addr} {m d : Nat} (new : List α) (hx : a.eval y = .slice A2 m d) (hm : m = new.length) (hr : Rd enc k w B A2 new)
    (hbytes : (l.length + new.length) * bytes ≤ 140737488355328) (hmax : l.length + new.length ≤ 8000000000000000000) (hbase : base ≤ w.heap.size)
    (h : ∀ A' c' w', Own e enc k w' base A' c' (l ++ new) → Below base w w' → w.heap.size ≤ w'.heap.size → (∀ p : Addr, p.block < w.heap.size → (∀ g, A = some ⟨g, 0, none⟩ → p.block ≠ g) → w'.cell? p = w.cell? p) → K (a.put o.dst (.slice A' (n + m) c')) w') : o.wp P a w K Q := by
  subst hn
  subst hm
  obtain ⟨i, z, hi, hz, hsz, hby, hzs⟩ := T.info
  rcases A2 with _ | ad
  · have hnew : new = [] := by
      rcases Classical.em (new = []) with h0 | h0
      · exact h0
      · obtain ⟨_, _, hA, _⟩ := hr h0
        cases hA
    subst hnew
    have hrun := run_app_nil w base o.type T hown d
    unfold Oper.wp execOp
    simp only [ho, resolve, invoke, builtin, Sem.run_bind, Sem.run_pure, Result.andThen_ok, List.map_toArray, List.map_cons, List.map_nil, hs, hx, List.length_nil, hrun]
    exact h A c w (by simpa using hown) (Below.refl _ _) (Nat.le_refl _) fun _ _ _ => rfl
  · refine wp_append_own w s y t ho base e i z k bytes T.under hi hz hsz hby hzs T.pos (.slice A l.length c) l.length (l.flatMap enc) hs hown ad new.length d (new.flatMap enc) hx (flat_length hE new) ?_ ?_ (by unfold maxLen; omega) hbytes hbase ?_
    · intro j u hu
      have hj : j < new.length * k := by
        have := (List.getElem?_eq_some_iff.1 hu).1
        rwa [flat_length hE] at this
      have k0 := T.pos
      have e1 : j / k * k + j % k = j := by rw [Nat.mul_comm]; exact Nat.div_add_mod j k
      have hjk : j % k < k := Nat.mod_lt _ k0
      have hfl := flat_get hE new (j / k) (j % k) hjk
      rw [e1, hu] at hfl
      have hne : new ≠ [] := by rintro rfl; simp at hu
      obtain ⟨b, off, hA, _, hc⟩ := hr hne
      injection hA with hA
      subst hA
      cases hg : new[j / k]? with
      | none => rw [hg] at hfl; simp at hfl
      | some x =>
        rw [hg] at hfl
        simp only [Option.bind_some] at hfl
        have := hc (j / k) x hg (j % k) u hfl.symm
        rw [Nat.add_assoc, e1] at this
        have hadd : (⟨b, off, none⟩ : Addr).add j = ⟨b, off + j, none⟩ := by unfold Addr.add; split <;> simp_all
        rw [hadd]
        exact this
    · intro u hu
      rw [List.mem_flatMap] at hu
      obtain ⟨y, _, hy⟩ := hu
      exact hE.2 y u hy
    · intro v' w' hown' hg _
      obtain ⟨A', c'', hv⟩ : ∃ A' c'', v' = .slice A' (l.length + new.length) c'' := by
        rcases hown'.2 with ⟨hv, h0⟩ | ⟨g, cap, cur, hv, _⟩
        · exact ⟨none, 0, by rw [hv, h0]⟩
        · exact ⟨_, _, hv⟩
      rw [hv]
      refine h A' c'' w' ?_ ?_ hg.size fun p hp hne => World.cell?_of_block (hg.block p.block hp fun hh => ?_)
      rotate_right
      · cases A with
        | none => simp [Value.ownBlock] at hh
        | some q =>
          rcases hown.form with ⟨hA, _⟩ | ⟨g, hA, _⟩
          · cases hA
          · injection hA with hA
            subst hA
            simp [Value.ownBlock] at hh
            exact hne g rfl hh
      · unfold Own
        rw [hv, ← List.flatMap_append] at hown'
        rw [List.length_append]
        exact hown'
      · refine (Below.refl base w).grown hg hbase fun g hgo => ?_
        exact (World.ownsRow.lt hown g (by rw [hgo])).1
theorem wpList_appS {w : World} {ops : Array Oper} {rest : List Oper} {o : Oper} {a : Act} {Q : Exit → Act → World → Prop} (hgd : o.guard = none) (s y : Operand)
    (T : TyS P t e k bytes) (hE : Enc enc k)
    (ho : o.op = .call { callee := .builtin .append, args := #[s, y], argTypes := #[t, t] })
    (base : Nat) {n : Nat} (hs : a.eval s = .slice A n c) (hn : n = l.length) (hown : Own e enc k w base A c l)
    {B : Nat} {A2 : Option Addr} {m d : Nat} (new : List α) (hx : a.eval y = .slice A2 m d) (hm : m = new.length) (hr : Rd enc k w B A2 new)
    (hbytes : (l.length + new.length) * bytes ≤ 140737488355328) (hmax : l.length + new.length ≤ 8000000000000000000) (hbase : base ≤ w.heap.size)
    (h : ∀ A' c' w', Own e enc k w' base A' c' (l ++ new) → Below base w w' → w.heap.size ≤ w'.heap.size → (∀ p : Addr, p.block < w.heap.size → (∀ g, A = some ⟨g, 0, none⟩ → p.block ≠ g) → w'.cell? p = w.cell? p) → wpList P ops Q rest (a.put o.dst (.slice A' (n + m) c')) w') : wpList P ops Q (o :: rest) a w :=
  wpList_plain hgd fun _ hK => wp_appS s y T hE ho base hs hn hown new hx hm hr hbytes hmax hbase fun A' c' w' h1 h2 h3 h4 => hK _ _ (h A' c' w' h1 h2 h3 h4)
end
end Go.Proofs.YtelchfijalkibaaGreatDoor
