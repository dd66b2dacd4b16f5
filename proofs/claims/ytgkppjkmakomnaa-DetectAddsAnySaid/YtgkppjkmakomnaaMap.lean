/- A map of the call's own: its entries as a plain list, look-up and store. -/
import Derived.Maps.OwnSet
import Derived.Test.YtgkppjkmakomnaaJFirst
namespace Go.Proofs.Ytgkppjkmakomnaa
open Go.RowKit Go.Lib Go.MapKept Go.ChangeMaps
open Go.Maps (Keyed)

/-- block b is a map whose entries are l, in the order of their birth -/
def MapL (P : Program) (k : TypeId) (w : World) (b : Nat) (l : List (Value × Value)) : Prop :=
  ∃ es clock, w.heap[b]? = some (.map es clock) ∧ es.toList.map (fun e => (e.key, e.val)) = l ∧ ∀ e ∈ es.toList, ∃ x, keyOf P k e.key = some x

section
variable {P : Program} {k e t : TypeId} {w w' : World} {b : Nat} {l : List (Value × Value)}

theorem MapL.made (P : Program) (k : TypeId) (w : World) : MapL P k (w.alloc (.map #[] 0)) w.heap.size [] :=
  ⟨#[], 0, (MapKept.heap_alloc w _).1, rfl, by simp⟩
theorem MapL.lt (h : MapL P k w b l) : b < w.heap.size := by
  obtain ⟨es, clock, hb, _⟩ := h
  exact (Array.getElem?_eq_some_iff.1 hb).1
theorem MapL.keepB (h : MapL P k w b l) (hk : w'.heap[b]? = w.heap[b]?) : MapL P k w' b l := by
  obtain ⟨es, clock, hb, r⟩ := h
  exact ⟨es, clock, hk.trans hb, r⟩
theorem MapL.below {B : Nat} (h : MapL P k w b l) (hb : Below B w w') (hB : b < B) : MapL P k w' b l := h.keepB (hb.block b hB)
theorem MapL.st (h : MapL P k w b l) (hb : Below w.heap.size w w') : MapL P k w' b l := h.below hb h.lt
theorem MapL.alloc (h : MapL P k w b l) (o : Obj) : MapL P k (w.alloc o) b l := h.keepB ((World.grownBy_alloc w o none).block b h.lt (by simp))
theorem MapL.drewN (h : MapL P k w b l) (n : Nat) : MapL P k (w.drewN n) b l := h
/-- no entry bears the key -/
theorem MapL.look_no (h : MapL P k w b l) (K : Keyed P k) (ht : P.underlying t = some (.map k e)) {z : Value} (hz : (zeroValue e).run P w = .ok z w) {key : Value} {kl : Lit} (hkey : keyOf P k key = some kl)
    (hno : ∀ p ∈ l, p.1 ≠ key) (c : Bool) : (Instr.lookup t (.map (some b)) key c).run P w = .ok (if c then .tuple #[z, .bool false] else z) w := by
  obtain ⟨es, clock, hb, rfl, hk⟩ := h
  rcases K.find w hkey es.toList hk with ⟨h1, h2⟩ | ⟨j, e0, h1, h2, h3⟩
  · simp [Instr.lookup, run_underlying ht, MapKept.run_getObj_map hb, K.check w _ hkey, h1, hz, Result.andThen]
  · exact absurd h3 (hno (e0.key, e0.val) (List.mem_map.2 ⟨e0, List.mem_of_getElem? h2, rfl⟩))
/-- an entry bears the key, and all that do have the value v -/
theorem MapL.look_at (h : MapL P k w b l) (K : Keyed P k) (ht : P.underlying t = some (.map k e)) {key v : Value} {kl : Lit} (hkey : keyOf P k key = some kl)
    (hin : ∃ p ∈ l, p.1 = key) (hv : ∀ p ∈ l, p.1 = key → p.2 = v) (c : Bool) : (Instr.lookup t (.map (some b)) key c).run P w = .ok (if c then .tuple #[v, .bool true] else v) w := by
  obtain ⟨es, clock, hb, rfl, hk⟩ := h
  rcases K.find w hkey es.toList hk with ⟨h1, h2⟩ | ⟨j, e0, h1, h2, h3⟩
  · obtain ⟨p, hp, rfl⟩ := hin
    obtain ⟨x, hx, rfl⟩ := List.mem_map.1 hp
    exact absurd rfl (h2 x hx)
  · have e1 : e0.val = v := hv (e0.key, e0.val) (List.mem_map.2 ⟨e0, List.mem_of_getElem? h2, rfl⟩) h3
    simp [Instr.lookup, run_underlying ht, MapKept.run_getObj_map hb, K.check w _ hkey, h1, Result.andThen, e1]
/-- a new key -/
theorem MapL.store_new (h : MapL P k w b l) (K : Keyed P k) (ht : P.underlying t = some (.map k e)) {key val : Value} {kl : Lit} (hkey : keyOf P k key = some kl) (hno : ∀ p ∈ l, p.1 ≠ key) :
    ∃ w', (Instr.mapUpdate t (.map (some b)) key val).run P w = .ok () w' ∧ MapL P k w' b (l ++ [(key, val)]) ∧ w.grownBy w' (some b) := by
  obtain ⟨es, clock, hb, rfl, hk⟩ := h
  rcases K.find w hkey es.toList hk with ⟨h1, h2⟩ | ⟨j, e0, h1, h2, h3⟩
  · refine ⟨setBlock w b (.map (es.push ⟨key, val, clock⟩) (clock + 1)), ?_, ⟨_, _, heap_setBlock_same hb _, by simp, ?_⟩, ⟨rfl, rfl, rfl, by simp [setBlock], fun i _ hi => heap_setBlock_other hb _ (fun e => hi (by rw [e]))⟩⟩
    · simp [Instr.mapUpdate, run_underlying ht, MapKept.run_getObj_map hb, K.check w false hkey, h1, MapKept.run_setObj_map _ hb, Result.andThen, setBlock]
    · intro x hx
      simp only [Array.toList_push, List.mem_append, List.mem_singleton] at hx
      rcases hx with hx | rfl
      · exact hk x hx
      · exact ⟨kl, hkey⟩
  · exact absurd h3 (hno (e0.key, e0.val) (List.mem_map.2 ⟨e0, List.mem_of_getElem? h2, rfl⟩))
/-- an entry that bears the key -/
theorem MapL.store_at (h : MapL P k w b l) (K : Keyed P k) (ht : P.underlying t = some (.map k e)) {key v val : Value} {kl : Lit} (hkey : keyOf P k key = some kl) {j : Nat} (hj : l[j]? = some (key, v))
    (hu : ∀ i u, l[i]? = some (key, u) → i = j) :
    ∃ w', (Instr.mapUpdate t (.map (some b)) key val).run P w = .ok () w' ∧ MapL P k w' b (l.set j (key, val)) ∧ w.grownBy w' (some b) := by
  obtain ⟨es, clock, hb, rfl, hk⟩ := h
  rcases K.find w hkey es.toList hk with ⟨h1, h2⟩ | ⟨i, e0, h1, h2, h3⟩
  · obtain ⟨x, hx, he⟩ := List.mem_map.1 (List.mem_of_getElem? hj)
    injection he with he _
    exact absurd he (h2 x hx)
  · have hi : i = j := hu i e0.val (by rw [List.getElem?_map, h2, Option.map_some, h3])
    subst hi
    have hji : es[i]? = some e0 := by simpa using h2
    have hlist : (es.modify i (fun e' => { e' with key := key, val := val })).toList = es.toList.set i { e0 with key := key, val := val } := by rw [Array.toList_modify, modify_eq_set _ _ _ _ h2]
    refine ⟨setBlock w b (.map (es.modify i (fun e' => { e' with key := key, val := val })) clock), ?_, ⟨_, _, heap_setBlock_same hb _, by rw [hlist, List.map_set], ?_⟩, ⟨rfl, rfl, rfl, by simp [setBlock], fun i _ hi => heap_setBlock_other hb _ (fun e => hi (by rw [e]))⟩⟩
    · simp [Instr.mapUpdate, run_underlying ht, MapKept.run_getObj_map hb, K.check w false hkey, h1, hji, h3, K.stays w hkey, MapKept.run_setObj_map _ hb, Result.andThen, setBlock]
    · intro x hx
      rw [hlist] at hx
      rcases List.mem_or_eq_of_mem_set hx with hx | rfl
      · exact hk x hx
      · exact ⟨kl, hkey⟩

/-- a store of a new key, at the operation -/
theorem wpList_storeL {ops : Array Oper} {rest : List Oper} {o : Oper} {a : Act} {Q : Exit → Act → World → Prop}
    (hg : o.guard = none) (m x v : Operand) (t : TypeId) (hop : o.op = Op.mapUpdate t m x v) (K : Keyed P k) (ht : P.underlying t = some (.map k e)) (hm : a.eval m = .map (some b)) (hown : MapL P k w b l)
    (key val : Value) (kl : Lit) (hx : a.eval x = key) (hv : a.eval v = val) (hkey : keyOf P k key = some kl) (hno : ∀ p ∈ l, p.1 ≠ key)
    (hK : ∀ w', MapL P k w' b (l ++ [(key, val)]) → w.grownBy w' (some b) → wpList P ops Q rest (a.put o.dst undef) w') :
    wpList P ops Q (o :: rest) a w := by
  refine wpList_plain hg fun K' hK' => ?_
  obtain ⟨w', hrun, r1, r2⟩ := hown.store_new K ht (val := val) hkey hno
  unfold Oper.wp
  simp [execOp, hop, hm, hx, hv, hrun, Result.andThen]
  exact hK' _ _ (hK w' r1 r2)
/-- a look-up, at the operation -/
theorem wpList_lookL {ops : Array Oper} {rest : List Oper} {o : Oper} {a : Act} {Q : Exit → Act → World → Prop}
    (hg : o.guard = none) (m x : Operand) (t : TypeId) (hop : o.op = Op.lookup t m x false) (key : Value) (hm : a.eval m = .map (some b)) (hx : a.eval x = key) (v : Value)
    (hrun : (Instr.lookup t (.map (some b)) key false).run P w = .ok v w) (hK : wpList P ops Q rest (a.put o.dst v) w) :
    wpList P ops Q (o :: rest) a w := by
  refine wpList_plain hg fun K' hK' => ?_
  unfold Oper.wp
  simp [execOp, hop, hm, hx, hrun, Result.andThen]
  exact hK' _ _ hK
end
theorem grown_block {w w' : World} {b i : Nat} (hg : w.grownBy w' (some b)) (hi : i < w.heap.size) (hne : i ≠ b) : w'.heap[i]? = w.heap[i]? := hg.block i hi (fun e => hne (Option.some.inj e))
/-- what lies below the map's block stays -/
theorem below_store {B : Nat} {a w w' : World} {b : Nat} (h : Below B a w) (hg : w.grownBy w' (some b)) (hB : B ≤ w.heap.size) (hb : B ≤ b) : Below B a w' :=
  h.grown hg hB fun g hgo => by injection hgo with e; omega
end Go.Proofs.Ytgkppjkmakomnaa
