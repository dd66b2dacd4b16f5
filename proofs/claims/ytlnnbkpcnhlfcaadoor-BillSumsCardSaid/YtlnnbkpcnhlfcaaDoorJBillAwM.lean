/- Joined texts: BillAwM, Map, MapR. -/
import Derived.Test.YtlnnbkpcnhlfcaaDoorJBillTot
import Derived.Test.YtlnnbkpcnhlfcaaDoorJBillEar
import Derived.Test.YtlnnbkpcnhlfcaaDoorCapHist
import Derived.Maps.OwnSet
import Derived.Test.YtlnnbkpcnhlfcaaDoorJInts
import Derived.Maps.RangeWalk
/- The law's example, in plain words. -/
set_option linter.unusedSimpArgs false
namespace Go.Proofs.YtlnnbkpcnhlfcaaDoor
open Go.RowKit Go.Lib

abbrev s0 : ByteArray := ⟨#[]⟩
abbrev sAB : ByteArray := ⟨#[65, 66, 49]⟩
abbrev sAnn : ByteArray := ⟨#[97, 110, 110]⟩
abbrev sBob : ByteArray := ⟨#[98, 111, 98]⟩
abbrev sDay : ByteArray := ⟨#[100, 97, 121]⟩
def awA : Av := ⟨sAnn, s0, false, [⟨s0, sAB, 0, 1000000⟩], 0, 0, 0, 0, false⟩
def awP : Cp := ⟨sDay, s0, 1, 500⟩
def awC (k : Nat) (t : Int) : CV := ⟨⟨#[k.toUInt8]⟩, sAB, s0, 0, t, [], 300⟩
def awL : List CV := [⟨⟨#[97]⟩, sAB, s0, 0, 100, [], 300⟩, ⟨⟨#[98]⟩, sAB, s0, 0, 200, [], 300⟩, ⟨⟨#[99]⟩, sAB, s0, 0, 90000, [], 300⟩]
def awR : List CV := [⟨⟨#[97]⟩, sAB, s0, 0, 100, [], 300⟩, ⟨⟨#[98]⟩, sAB, s0, 0, 200, [(capS, -100)], 200⟩, ⟨⟨#[99]⟩, sAB, s0, 0, 90000, [], 300⟩]
theorem aw1 : applyE [awP] awL = 0 := by kernel_rfl
theorem aw2 : cappedL [awA] [awP] awL = awR := by kernel_rfl
theorem aw3 : totV [awA] sAnn awR 0 86400 = 500 ∧ totE [awA] sAnn awR 0 86400 = 0 := ⟨by kernel_rfl, by kernel_rfl⟩
theorem aw4 : totV [awA] sBob awR 0 86400 = 0 ∧ totE [awA] sBob awR 0 86400 = 25 := ⟨by kernel_rfl, by kernel_rfl⟩
theorem aw5 : itemL awR = [(0, 300), (0, 200), (1, 300)] := by kernel_rfl
theorem aw6 : DaysR (itemL awR) [0, 1] [500, 300] := by
  rw [aw5]
  exact ((DaysR.nil.snoc (d := 0) (by simp) 300).add (k := 0) (d := 0) (s := 300) rfl rfl 200).snoc (d := 1) (by simp) 300
theorem aw7 : ofL [awA] sAnn awR = awR ∧ ofL [awA] sBob awR = [] := ⟨by kernel_rfl, by kernel_rfl⟩
theorem aw8 : monN 31536000 = 12 := by kernel_rfl
def awS : Stp := ⟨s0, 5000, s0⟩
def awX (a b : Option Addr) : List Trp := [⟨⟨#[120]⟩, sAB, s0, 0, a, 1, [awS]⟩, ⟨⟨#[119]⟩, sAB, s0, 0, b, 1, [awS]⟩]
theorem aw9 (a b : Option Addr) : earN (awX a b) ⟨⟨#[120]⟩, sAB, s0, 0, a, 1, [awS]⟩ = 1 := by kernel_rfl
end Go.Proofs.YtlnnbkpcnhlfcaaDoor
/- A map of the call's own: its entries as a plain list, look-up and store. -/
namespace Go.Proofs.YtlnnbkpcnhlfcaaDoor
open Go.RowKit Go.Lib Go.MapKept Go.ChangeMaps
open Go.Maps (Keyed)

/-- block b is a map whose entries are l, in the order of their birth -/
def MapL (P : Program) (k : TypeId) (w : World) (b : Nat) (l : List (Value × Value)) : Prop :=
  ∃ es clock, w.heap[b]? = some (.map es clock) ∧ es.toList.map (fun e => (e.key, e.val)) = l ∧ ∀ e ∈ es.toList, ∃ x, keyOf P k e.key = some x

section
variable {P : Program} {k e t : TypeId} {w w' : World} {b : Nat} {l : List (Value × Value)}

theorem MapL.made (P : Program) (k : TypeId) (w : World) : MapL P k (w.alloc (.map #[] 0)) w.heap.size [] :=
  ⟨#[], 0, (MapKept.heap_alloc w _).1, rfl, by simp⟩
theorem MapL.lt (h : MapL P k w b l) : b < w.heap.size := by
  obtain ⟨es, clock, hb, _⟩ := h
  exact (Array.getElem?_eq_some_iff.1 hb).1
theorem MapL.keepB (h : MapL P k w b l) (hk : w'.heap[b]? = w.heap[b]?) : MapL P k w' b l := by
  obtain ⟨es, clock, hb, r⟩ := h
  exact ⟨es, clock, hk.trans hb, r⟩
theorem MapL.below {B : Nat} (h : MapL P k w b l) (hb : Below B w w') (hB : b < B) : MapL P k w' b l := h.keepB (hb.block b hB)
theorem MapL.st (h : MapL P k w b l) (hb : Below w.heap.size w w') : MapL P k w' b l := h.below hb h.lt
theorem MapL.alloc (h : MapL P k w b l) (o : Obj) : MapL P k (w.alloc o) b l := h.keepB ((World.grownBy_alloc w o none).block b h.lt (by simp))
theorem MapL.drewN (h : MapL P k w b l) (n : Nat) : MapL P k (w.drewN n) b l := h
/-- no entry bears the key -/
theorem MapL.look_no (h : MapL P k w b l) (K : Keyed P k) (ht : P.underlying t = some (.map k e)) {z : Value} (hz : (zeroValue e).run P w = .ok z w) {key : Value} {kl : Lit} (hkey : keyOf P k key = some kl)
    (hno : ∀ p ∈ l, p.1 ≠ key) (c : Bool) : (Instr.lookup t (.map (some b)) key c).run P w = .ok (if c then .tuple #[z, .bool false] else z) w := by
  obtain ⟨es, clock, hb, rfl, hk⟩ := h
  rcases K.find w hkey es.toList hk with ⟨h1, h2⟩ | ⟨j, e0, h1, h2, h3⟩
  · simp [Instr.lookup, run_underlying ht, MapKept.run_getObj_map hb, K.check w _ hkey, h1, hz, Result.andThen]
  · exact absurd h3 (hno (e0.key, e0.val) (List.mem_map.2 ⟨e0, List.mem_of_getElem? h2, rfl⟩))
/-- an entry bears the key, and all that do have the value v -/
theorem MapL.look_at (h : MapL P k w b l) (K : Keyed P k) (ht : P.underlying t = some (.map k e)) {key v : Value} {kl : Lit} (hkey : keyOf P k key = some kl)
    (hin : ∃ p ∈ l, p.1 = key) (hv : ∀ p ∈ l, p.1 = key → p.2 = v) (c : Bool) : (Instr.lookup t (.map (some b)) key c).run P w = .ok (if c then .tuple #[v, .bool true] else v) w := by
  obtain ⟨es, clock, hb, rfl, hk⟩ := h
  rcases K.find w hkey es.toList hk with ⟨h1, h2⟩ | ⟨j, e0, h1, h2, h3⟩
  · obtain ⟨p, hp, rfl⟩ := hin
    obtain ⟨x, hx, rfl⟩ := List.mem_map.1 hp
    exact absurd rfl (h2 x hx)
  · have e1 : e0.val = v := hv (e0.key, e0.val) (List.mem_map.2 ⟨e0, List.mem_of_getElem? h2, rfl⟩) h3
    simp [Instr.lookup, run_underlying ht, MapKept.run_getObj_map hb, K.check w _ hkey, h1, Result.andThen, e1]
/-- a new key -/
theorem MapL.store_new (h : MapL P k w b l) (K : Keyed P k) (ht : P.underlying t = some (.map k e)) {key val : Value} {kl : Lit} (hkey : keyOf P k key = some kl) (hno : ∀ p ∈ l, p.1 ≠ key) :
    ∃ w', (Instr.mapUpdate t (.map (some b)) key val).run P w = .ok () w' ∧ MapL P k w' b (l ++ [(key, val)]) ∧ w.grownBy w' (some b) := by
  obtain ⟨es, clock, hb, rfl, hk⟩ := h
  rcases K.find w hkey es.toList hk with ⟨h1, h2⟩ | ⟨j, e0, h1, h2, h3⟩
  · refine ⟨setBlock w b (.map (es.push ⟨key, val, clock⟩) (clock + 1)), ?_, ⟨_, _, heap_setBlock_same hb _, by simp, ?_⟩, ⟨rfl, rfl, rfl, by simp [setBlock], fun i _ hi => heap_setBlock_other hb _ (fun e => hi (by rw [e]))⟩⟩
    · simp [Instr.mapUpdate, run_underlying ht, MapKept.run_getObj_map hb, K.check w false hkey, h1, MapKept.run_setObj_map _ hb, Result.andThen, setBlock]
    · intro x hx
      simp only [Array.toList_push, List.mem_append, List.mem_singleton] at hx
      rcases hx with hx | rfl
      · exact hk x hx
      · exact ⟨kl, hkey⟩
  · exact absurd h3 (hno (e0.key, e0.val) (List.mem_map.2 ⟨e0, List.mem_of_getElem? h2, rfl⟩))
/-- an entry that bears the key -/
theorem MapL.store_at (h : MapL P k w b l) (K : Keyed P k) (ht : P.underlying t = some (.map k e)) {key v val : Value} {kl : Lit} (hkey : keyOf P k key = some kl) {j : Nat} (hj : l[j]? = some (key, v))
    (hu : ∀ i u, l[i]? = some (key, u) → i = j) :
    ∃ w', (Instr.mapUpdate t (.map (some b)) key val).run P w = .ok () w' ∧ MapL P k w' b (l.set j (key, val)) ∧ w.grownBy w' (some b) := by
  obtain ⟨es, clock, hb, rfl, hk⟩ := h
  rcases K.find w hkey es.toList hk with ⟨h1, h2⟩ | ⟨i, e0, h1, h2, h3⟩
  · obtain ⟨x, hx, he⟩ := List.mem_map.1 (List.mem_of_getElem? hj)
    injection he with he _
    exact absurd he (h2 x hx)
  · have hi : i = j := hu i e0.val (by rw [List.getElem?_map, h2, Option.map_some, h3])
    subst hi
    have hji : es[i]? = some e0 := by simpa using h2
    have hlist : (es.modify i (fun e' => { e' with key := key, val := val })).toList = es.toList.set i { e0 with key := key, val := val } := by rw [Array.toList_modify, modify_eq_set _ _ _ _ h2]
    refine ⟨setBlock w b (.map (es.modify i (fun e' => { e' with key := key, val := val })) clock), ?_, ⟨_, _, heap_setBlock_same hb _, by rw [hlist, List.map_set], ?_⟩, ⟨rfl, rfl, rfl, by simp [setBlock], fun i _ hi => heap_setBlock_other hb _ (fun e => hi (by rw [e]))⟩⟩
    · simp [Instr.mapUpdate, run_underlying ht, MapKept.run_getObj_map hb, K.check w false hkey, h1, hji, h3, K.stays w hkey, MapKept.run_setObj_map _ hb, Result.andThen, setBlock]
    · intro x hx
      rw [hlist] at hx
      rcases List.mem_or_eq_of_mem_set hx with hx | rfl
      · exact hk x hx
      · exact ⟨kl, hkey⟩

/-- a store of a new key, at the operation -/
theorem wpList_storeL {ops : Array Oper} {rest : List Oper} {o : Oper} {a : Act} {Q : Exit → Act → World → Prop}
    (hg : o.guard = none) (m x v : Operand) (t : TypeId) (hop : o.op = Op.mapUpdate t m x v) (K : Keyed P k) (ht : P.underlying t = some (.map k e)) (hm : a.eval m = .map (some b)) (hown : MapL P k w b l)
    (key val : Value) (kl : Lit) (hx : a.eval x = key) (hv : a.eval v = val) (hkey : keyOf P k key = some kl) (hno : ∀ p ∈ l, p.1 ≠ key)
    (hK : ∀ w', MapL P k w' b (l ++ [(key, val)]) → w.grownBy w' (some b) → wpList P ops Q rest (a.put o.dst undef) w') :
    wpList P ops Q (o :: rest) a w := by
  refine wpList_plain hg fun K' hK' => ?_
  obtain ⟨w', hrun, r1, r2⟩ := hown.store_new K ht (val := val) hkey hno
  unfold Oper.wp
  simp [execOp, hop, hm, hx, hv, hrun, Result.andThen]
  exact hK' _ _ (hK w' r1 r2)
/-- a look-up, at the operation -/
theorem wpList_lookL {ops : Array Oper} {rest : List Oper} {o : Oper} {a : Act} {Q : Exit → Act → World → Prop}
    (hg : o.guard = none) (m x : Operand) (t : TypeId) (hop : o.op = Op.lookup t m x false) (key : Value) (hm : a.eval m = .map (some b)) (hx : a.eval x = key) (v : Value)
    (hrun : (Instr.lookup t (.map (some b)) key false).run P w = .ok v w) (hK : wpList P ops Q rest (a.put o.dst v) w) :
    wpList P ops Q (o :: rest) a w := by
  refine wpList_plain hg fun K' hK' => ?_
  unfold Oper.wp
  simp [execOp, hop, hm, hx, hrun, Result.andThen]
  exact hK' _ _ hK
end
theorem grown_block {w w' : World} {b i : Nat} (hg : w.grownBy w' (some b)) (hi : i < w.heap.size) (hne : i ≠ b) : w'.heap[i]? = w.heap[i]? := hg.block i hi (fun e => hne (Option.some.inj e))
/-- what lies below the map's block stays -/
theorem below_store {B : Nat} {a w w' : World} {b : Nat} (h : Below B a w) (hg : w.grownBy w' (some b)) (hB : B ≤ w.heap.size) (hb : B ≤ b) : Below B a w' :=
  h.grown hg hB fun g hgo => by injection hgo with e; omega
end Go.Proofs.YtlnnbkpcnhlfcaaDoor
/- A map of the call's own from which nothing is taken out: as a plain list, ranged over in whatever order the tape says. -/
namespace Go.Proofs.YtlnnbkpcnhlfcaaDoor
open Go.RowKit Go.Lib Go.MapKept Go.ChangeMaps
open Go.Maps (Keyed)

/-- block b is a map whose entries are l, in the order of their birth; none has been taken out -/
def MapN (P : Program) (k : TypeId) (w : World) (b : Nat) (l : List (Value × Value)) : Prop :=
  ∃ es : Array MapEntry, w.heap[b]? = some (.map es es.size) ∧ es.toList.map (fun e => (e.key, e.val)) = l ∧ (∀ e ∈ es.toList, ∃ x, keyOf P k e.key = some x) ∧ ∀ (i : Nat) (e : MapEntry), es[i]? = some e → e.born = i
/-- block r is an iterator over it; left: which entries are still to come; cnt: how many -/
def MapIt (P : Program) (k : TypeId) (w : World) (r b : Nat) (l : List (Value × Value)) (left : Nat → Bool) (cnt : Nat) : Prop :=
  ∃ (es : Array MapEntry) (since : Nat) (seen : Array Nat) (c0 : Nat), w.heap[b]? = some (.map es es.size) ∧ es.toList.map (fun e => (e.key, e.val)) = l ∧ (∀ e ∈ es.toList, ∃ x, keyOf P k e.key = some x) ∧ (∀ (i : Nat) (e : MapEntry), es[i]? = some e → e.born = i) ∧
    w.heap[r]? = some (.mapIter (some b) since seen c0) ∧ es.size ≤ since ∧ since ≤ c0 ∧ since ≤ es.size ∧ (leftOf es seen).size = cnt ∧ ∀ i, i < l.length → left i = !seen.contains i

section
variable {P : Program} {k e t : TypeId} {w w' : World} {b r cnt : Nat} {l : List (Value × Value)} {left : Nat → Bool}

theorem MapN.mapL (h : MapN P k w b l) : MapL P k w b l := by
  obtain ⟨es, hb, hl, hk, _⟩ := h
  exact ⟨es, _, hb, hl, hk⟩
theorem MapN.made (P : Program) (k : TypeId) (w : World) : MapN P k (w.alloc (.map #[] 0)) w.heap.size [] :=
  ⟨#[], (MapKept.heap_alloc w _).1, rfl, by simp, by simp⟩
theorem MapN.lt (h : MapN P k w b l) : b < w.heap.size := h.mapL.lt
theorem MapN.keepB (h : MapN P k w b l) (hk : w'.heap[b]? = w.heap[b]?) : MapN P k w' b l := by
  obtain ⟨es, hb, q⟩ := h
  exact ⟨es, hk.trans hb, q⟩
theorem MapN.st (h : MapN P k w b l) (hb : Below w.heap.size w w') : MapN P k w' b l := h.keepB (hb.block b h.lt)
theorem MapIt.lt (h : MapIt P k w r b l left cnt) : r < w.heap.size ∧ b < w.heap.size ∧ r ≠ b := by
  obtain ⟨es, since, seen, c0, hb, _, _, _, hr, _⟩ := h
  refine ⟨(Array.getElem?_eq_some_iff.1 hr).1, (Array.getElem?_eq_some_iff.1 hb).1, fun e => ?_⟩
  rw [e, hb] at hr; cases hr
theorem MapIt.keepB (h : MapIt P k w r b l left cnt) (h1 : w'.heap[b]? = w.heap[b]?) (h2 : w'.heap[r]? = w.heap[r]?) : MapIt P k w' r b l left cnt := by
  obtain ⟨es, since, seen, c0, hb, q1, q2, q3, hr, q⟩ := h
  exact ⟨es, since, seen, c0, h1.trans hb, q1, q2, q3, h2.trans hr, q⟩
theorem MapIt.st (h : MapIt P k w r b l left cnt) (hb : Below w.heap.size w w') : MapIt P k w' r b l left cnt := h.keepB (hb.block b h.lt.2.1) (hb.block r h.lt.1)
theorem MapIt.left_eq (h : MapIt P k w r b l left cnt) : w.rangeLeft b r = cnt := by
  obtain ⟨es, since, seen, c0, hb, _, _, _, hr, _, _, _, hc, _⟩ := h
  simp only [World.rangeLeft, hb, hr]
  exact hc
/-- a new key -/
theorem MapN.store_new (h : MapN P k w b l) (K : Keyed P k) (ht : P.underlying t = some (.map k e)) {key val : Value} {kl : Lit} (hkey : keyOf P k key = some kl) (hno : ∀ p ∈ l, p.1 ≠ key) :
    ∃ w', (Instr.mapUpdate t (.map (some b)) key val).run P w = .ok () w' ∧ MapN P k w' b (l ++ [(key, val)]) ∧ w.grownBy w' (some b) := by
  obtain ⟨es, hb, rfl, hk, hn⟩ := h
  rcases K.find w hkey es.toList hk with ⟨h1, h2⟩ | ⟨j, e0, h1, h2, h3⟩
  · refine ⟨setBlock w b (.map (es.push ⟨key, val, es.size⟩) (es.size + 1)), ?_, ⟨es.push ⟨key, val, es.size⟩, ?_, by simp, ?_, ?_⟩, ⟨rfl, rfl, rfl, by simp [setBlock], fun i _ hi => heap_setBlock_other hb _ (fun e => hi (by rw [e]))⟩⟩
    · simp [Instr.mapUpdate, run_underlying ht, MapKept.run_getObj_map hb, K.check w false hkey, h1, MapKept.run_setObj_map _ hb, Result.andThen, setBlock]
    · rw [Array.size_push]; exact heap_setBlock_same hb _
    · intro x hx
      simp only [Array.toList_push, List.mem_append, List.mem_singleton] at hx
      rcases hx with hx | rfl
      · exact hk x hx
      · exact ⟨kl, hkey⟩
    · intro i x hx
      rw [Array.getElem?_push] at hx
      split at hx
      · rename_i q
        have hx2 := Option.some.inj hx
        rw [← hx2]; exact q.symm
      · exact hn i x hx
  · exact absurd h3 (hno (e0.key, e0.val) (List.mem_map.2 ⟨e0, List.mem_of_getElem? h2, rfl⟩))
/-- an entry that bears the key -/
theorem MapN.store_at (h : MapN P k w b l) (K : Keyed P k) (ht : P.underlying t = some (.map k e)) {key v val : Value} {kl : Lit} (hkey : keyOf P k key = some kl) {j : Nat} (hj : l[j]? = some (key, v))
    (hu : ∀ i u, l[i]? = some (key, u) → i = j) :
    ∃ w', (Instr.mapUpdate t (.map (some b)) key val).run P w = .ok () w' ∧ MapN P k w' b (l.set j (key, val)) ∧ w.grownBy w' (some b) := by
  obtain ⟨es, hb, rfl, hk, hn⟩ := h
  rcases K.find w hkey es.toList hk with ⟨h1, h2⟩ | ⟨i, e0, h1, h2, h3⟩
  · obtain ⟨x, hx, he⟩ := List.mem_map.1 (List.mem_of_getElem? hj)
    injection he with he _
    exact absurd he (h2 x hx)
  · have hi : i = j := hu i e0.val (by rw [List.getElem?_map, h2, Option.map_some, h3])
    subst hi
    have hji : es[i]? = some e0 := by simpa using h2
    have hlist : (es.modify i (fun e' => { e' with key := key, val := val })).toList = es.toList.set i { e0 with key := key, val := val } := by rw [Array.toList_modify, modify_eq_set _ _ _ _ h2]
    refine ⟨setBlock w b (.map (es.modify i (fun e' => { e' with key := key, val := val })) es.size), ?_, ⟨es.modify i (fun e' => { e' with key := key, val := val }), ?_, by rw [hlist, List.map_set], ?_, ?_⟩, ⟨rfl, rfl, rfl, by simp [setBlock], fun i _ hi => heap_setBlock_other hb _ (fun e => hi (by rw [e]))⟩⟩
    · simp [Instr.mapUpdate, run_underlying ht, MapKept.run_getObj_map hb, K.check w false hkey, h1, hji, h3, K.stays w hkey, MapKept.run_setObj_map _ hb, Result.andThen, setBlock]
    · rw [Array.size_modify]; exact heap_setBlock_same hb _
    · intro x hx
      rw [hlist] at hx
      rcases List.mem_or_eq_of_mem_set hx with hx | rfl
      · exact hk x hx
      · exact ⟨kl, hkey⟩
    · intro m x hx
      rw [Array.getElem?_modify] at hx
      split at hx
      · rename_i q
        subst q
        rw [hji] at hx
        simp only [Option.map_some, Option.some.injEq] at hx
        subst hx
        exact hn i e0 hji
      · exact hn m x hx
/-- 'range m' -/
theorem MapN.range (h : MapN P k w b l) (ht : P.underlying t = some (.map k e)) :
    ∃ w', (Instr.range t (.map (some b))).run P w = .ok (.pointer (some ⟨w.heap.size, 0, none⟩)) w' ∧ MapIt P k w' w.heap.size b l (fun _ => true) l.length ∧ w.grownBy w' none ∧ w'.heap.size = w.heap.size + 1 := by
  have hlt := h.lt
  obtain ⟨es, hb, rfl, hk, hn⟩ := h
  refine ⟨_, run_range_map w t k e b es es.size ht hb, ⟨es, es.size, #[], es.size, ((MapKept.heap_alloc w _).2 b hlt).trans hb, rfl, hk, hn, (MapKept.heap_alloc w _).1, Nat.le_refl _, Nat.le_refl _, Nat.le_refl _, ?_, ?_⟩, World.grownBy_alloc w _ none, by simp⟩
  · simp [leftOf]
  · intro i _
    simp
/-- the step -/
theorem MapIt.next (h : MapIt P k w r b l left cnt) (ty : TypeId) :
    (cnt = 0 ∧ (∀ i, i < l.length → left i = false) ∧ (Instr.next (.pointer (some ⟨r, 0, none⟩)) false ty).run P w = .ok (.tuple #[.bool false]) w) ∨
    ∃ i key v w' cnt', l[i]? = some (key, v) ∧ left i = true ∧ (Instr.next (.pointer (some ⟨r, 0, none⟩)) false ty).run P w = .ok (.tuple #[.bool true, key, v]) w' ∧
      MapIt P k w' r b l (fun j => left j && !(j == i)) cnt' ∧ cnt' < cnt ∧ w.grownBy w' (some r) ∧ w'.heap.size = w.heap.size ∧ (Instr.entry (.pointer (some ⟨r, 0, none⟩))).run P w' = .ok (.tuple #[key, v]) w' := by
  have hne := h.lt.2.2
  obtain ⟨es, since, seen, c0, hb, rfl, hk, hn, hr, hs1, hs2, hs3, rfl, hl⟩ := h
  have hbl : ∀ x ∈ es.toList, x.born < es.size := fun x hx => by
    obtain ⟨i, hi, rfl⟩ := List.getElem_of_mem hx
    have := hn i es.toList[i] (by simp at hi; rw [Array.getElem?_eq_getElem hi]; simp)
    simp at hi; omega
  rcases run_next_at (P := P) w ty r b since c0 seen es es.size hr hb (fun x hx => by have := hbl x hx; omega) hs2 with ⟨h0, hrun⟩ | ⟨x, hx, w1, hal, hrun⟩
  · refine .inl ⟨h0, fun i hi => ?_, hrun⟩
    rw [hl i hi]
    simp only [List.length_map, Array.length_toList] at hi
    have h1 := all_seen es seen h0 es[i] (by simp)
    rw [hn i es[i] (by simp [Array.getElem?_eq_getElem hi])] at h1
    rw [h1]; rfl
  · obtain ⟨hm, hs⟩ := mem_left hx
    obtain ⟨i, hi, hxi⟩ := List.getElem_of_mem hm
    simp only [Array.length_toList] at hi
    have hxi2 : es[i]? = some x := by rw [Array.getElem?_eq_getElem hi, ← hxi]; simp
    have hbi := hn i x hxi2
    have hr1 : w1.heap[r]? = some (.mapIter (some b) since seen c0) := by rcases hal with rfl | rfl <;> exact hr
    have hb1 : w1.heap[b]? = some (.map es es.size) := by rcases hal with rfl | rfl <;> exact hb
    have hset := heap_set (o' := .mapIter (some b) since (seen.push x.born) es.size) hr1
    have hb' : (setBlock w1 r (.mapIter (some b) since (seen.push x.born) es.size)).heap[b]? = some (.map es es.size) := (hset.2 b (fun e1 => hne e1.symm)).trans hb1
    have hnd : (es.toList.map (·.born)).Nodup := by
      have : es.toList.map (·.born) = List.range es.size := by
        apply List.ext_getElem?
        intro j
        rw [List.getElem?_map]
        by_cases hj : j < es.size
        · rw [List.getElem?_range hj, Array.getElem?_toList, Array.getElem?_eq_getElem hj, Option.map_some, hn j _ (Array.getElem?_eq_getElem hj)]
        · rw [List.getElem?_eq_none (by simpa using hj), List.getElem?_eq_none (by simpa using hj)]; rfl
      rw [this]; exact List.nodup_range
    refine .inr ⟨i, x.key, x.val, _, _, ?_, ?_, hrun, ⟨es, since, seen.push x.born, es.size, hb', rfl, hk, hn, hset.1, hs1, hs3, hs3, rfl, fun j hj => ?_⟩, left_shrinks es seen x hx, ?_, ?_, run_entry_at _ r b since seen es es.size x hset.1 hb' hm hnd⟩
    · rw [List.getElem?_map, Array.getElem?_toList, hxi2]; rfl
    · rw [hl i (by simpa using hi), ← hbi, hs]; rfl
    · show (left j && !(j == i)) = _
      rw [hl j hj, contains_push, hbi]
      cases seen.contains j <;> cases (j == i) <;> rfl
    · rcases hal with rfl | rfl <;> exact ⟨rfl, rfl, rfl, by simp [setBlock], fun i _ hi => hset.2 i (fun e1 => hi (by rw [e1]))⟩
    · rcases hal with rfl | rfl <;> simp [setBlock]

/-- 'range m' at the operation -/
theorem wpList_rangeN {ops : Array Oper} {rest : List Oper} {o : Oper} {a : Act} {Q : Exit → Act → World → Prop} (hg : o.guard = none) (m : Operand) (t : TypeId) (hop : o.op = Op.range t m) (ht : P.underlying t = some (.map k e))
    (hm : a.eval m = .map (some b)) (hown : MapN P k w b l)
    (hK : ∀ w', MapIt P k w' w.heap.size b l (fun _ => true) l.length → w.grownBy w' none → w'.heap.size = w.heap.size + 1 → wpList P ops Q rest (a.put o.dst (.pointer (some ⟨w.heap.size, 0, none⟩))) w') :
    wpList P ops Q (o :: rest) a w := by
  refine wpList_plain hg fun K' hK' => ?_
  obtain ⟨w', hrun, r1, r2, r3⟩ := hown.range ht
  unfold Oper.wp
  simp [execOp, hop, hm, hrun, Result.andThen]
  exact hK' _ _ (hK w' r1 r2 r3)
/-- the step at the operation -/
theorem wpList_nextN {ops : Array Oper} {rest : List Oper} {o : Oper} {a : Act} {Q : Exit → Act → World → Prop} (hg : o.guard = none) (it : Operand) (hop : o.op = Op.next it false)
    (hit : a.eval it = .pointer (some ⟨r, 0, none⟩)) (h : MapIt P k w r b l left cnt)
    (hDone : cnt = 0 → (∀ i, i < l.length → left i = false) → wpList P ops Q rest (a.put o.dst (.tuple #[.bool false])) w)
    (hMore : ∀ (i : Nat) (key v : Value) (w' : World) (cnt' : Nat), l[i]? = some (key, v) → left i = true → MapIt P k w' r b l (fun j => left j && !(j == i)) cnt' → cnt' < cnt →
      w.grownBy w' (some r) → w'.heap.size = w.heap.size → (Instr.entry (.pointer (some ⟨r, 0, none⟩))).run P w' = .ok (.tuple #[key, v]) w' → wpList P ops Q rest (a.put o.dst (.tuple #[.bool true, key, v])) w') :
    wpList P ops Q (o :: rest) a w := by
  refine wpList_plain hg fun K' hK' => ?_
  unfold Oper.wp
  rcases h.next o.type with ⟨h0, hl, hrun⟩ | ⟨i, key, v, w', cnt', hi, hlf, hrun, hrg, hlt, hgr, hsz, hen⟩
  · simp [execOp, hop, hit, hrun, Result.andThen]
    exact hK' _ _ (hDone h0 hl)
  · simp [execOp, hop, hit, hrun, Result.andThen]
    exact hK' _ _ (hMore i key v w' cnt' hi hlf hrg hlt hgr hsz hen)
/-- the store of a new key, at the operation -/
theorem wpList_storeN {ops : Array Oper} {rest : List Oper} {o : Oper} {a : Act} {Q : Exit → Act → World → Prop}
    (hg : o.guard = none) (m x v : Operand) (t : TypeId) (hop : o.op = Op.mapUpdate t m x v) (K : Keyed P k) (ht : P.underlying t = some (.map k e)) (hm : a.eval m = .map (some b)) (hown : MapN P k w b l)
    (key val : Value) (kl : Lit) (hx : a.eval x = key) (hv : a.eval v = val) (hkey : keyOf P k key = some kl) (hno : ∀ p ∈ l, p.1 ≠ key)
    (hK : ∀ w', MapN P k w' b (l ++ [(key, val)]) → w.grownBy w' (some b) → wpList P ops Q rest (a.put o.dst undef) w') :
    wpList P ops Q (o :: rest) a w := by
  refine wpList_plain hg fun K' hK' => ?_
  obtain ⟨w', hrun, r1, r2⟩ := hown.store_new K ht (val := val) hkey hno
  unfold Oper.wp
  simp [execOp, hop, hm, hx, hv, hrun, Result.andThen]
  exact hK' _ _ (hK w' r1 r2)
/-- the store at a key that is there, at the operation -/
theorem wpList_storeN_at {ops : Array Oper} {rest : List Oper} {o : Oper} {a : Act} {Q : Exit → Act → World → Prop}
    (hg : o.guard = none) (m x v : Operand) (t : TypeId) (hop : o.op = Op.mapUpdate t m x v) (K : Keyed P k) (ht : P.underlying t = some (.map k e)) (hm : a.eval m = .map (some b)) (hown : MapN P k w b l)
    (key val : Value) (kl : Lit) (hx : a.eval x = key) (hv : a.eval v = val) (hkey : keyOf P k key = some kl) {j : Nat} {u : Value} (hj : l[j]? = some (key, u)) (hu : ∀ i u, l[i]? = some (key, u) → i = j)
    (hK : ∀ w', MapN P k w' b (l.set j (key, val)) → w.grownBy w' (some b) → wpList P ops Q rest (a.put o.dst undef) w') :
    wpList P ops Q (o :: rest) a w := by
  refine wpList_plain hg fun K' hK' => ?_
  obtain ⟨w', hrun, r1, r2⟩ := hown.store_at K ht (val := val) hkey hj hu
  unfold Oper.wp
  simp [execOp, hop, hm, hx, hv, hrun, Result.andThen]
  exact hK' _ _ (hK w' r1 r2)
end
end Go.Proofs.YtlnnbkpcnhlfcaaDoor
