/- Joined texts: Map, CapMap. -/
import Derived.Maps.OwnSet
import Derived.Test.YtelchfijalkibaaGreatDoorJFirst
import Derived.Test.YtelchfijalkibaaGreatDoorJAccEnc
import Derived.DeepKeys4
import Derived.Laws.Tables
/- A map of the call's own: its entries as a plain list, look-up and store. -/
namespace Go.Proofs.YtelchfijalkibaaGreatDoor
open Go.RowKit Go.Lib Go.MapKept Go.ChangeMaps
open Go.Maps (Keyed)

/-- block b is a map whose entries are l, in the order of their birth -/
def MapL (P : Program) (k : TypeId) (w : World) (b : Nat) (l : List (Value × Value)) : Prop :=
  ∃ es clock, w.heap[b]? = some (.map es clock) ∧ es.toList.map (fun e => (e.key, e.val)) = l ∧ ∀ e ∈ es.toList, ∃ x, keyOf P k e.key = some x

section
variable {P : Program} {k e t : TypeId} {w w' : World} {b : Nat} {l : List (Value × Value)}

theorem MapL.made (P : Program) (k : TypeId) (w : World) : MapL P k (w.alloc (.map #[] 0)) w.heap.size [] :=
  ⟨#[], 0, (MapKept.heap_alloc w _).1, rfl, by simp⟩
theorem MapL.lt (h : MapL P k w b l) : b < w.heap.size := by
  obtain ⟨es, clock, hb, _⟩ := h
  exact (Array.getElem?_eq_some_iff.1 hb).1
theorem MapL.keepB (h : MapL P k w b l) (hk : w'.heap[b]? = w.heap[b]?) : MapL P k w' b l := by
  obtain ⟨es, clock, hb, r⟩ := h
  exact ⟨es, clock, hk.trans hb, r⟩
theorem MapL.below {B : Nat} (h : MapL P k w b l) (hb : Below B w w') (hB : b < B) : MapL P k w' b l := h.keepB (hb.block b hB)
theorem MapL.st (h : MapL P k w b l) (hb : Below w.heap.size w w') : MapL P k w' b l := h.below hb h.lt
theorem MapL.alloc (h : MapL P k w b l) (o : Obj) : MapL P k (w.alloc o) b l := h.keepB ((World.grownBy_alloc w o none).block b h.lt (by simp))
theorem MapL.drewN (h : MapL P k w b l) (n : Nat) : MapL P k (w.drewN n) b l := h
end
/-- what lies below the map's block stays -/
theorem below_store {B : Nat} {a w w' : World} {b : Nat} (h : Below B a w) (hg : w.grownBy w' (some b)) (hB : B ≤ w.heap.size) (hb : B ≤ b) : Below B a w' :=
  h.grown hg hB fun g hgo => by injection hgo with e; omega
end Go.Proofs.YtelchfijalkibaaGreatDoor
/- A map that adds up, of the call's own: map[cap.spent]int. (After det/XDetMap.) -/
set_option linter.unusedSimpArgs false
namespace Go.Proofs.YtelchfijalkibaaGreatDoor
open Go.RowKit Go.Lib Go.MapKept Go.ChangeMaps
open Go.Maps (Keyed)

abbrev Src := Int × Int
def srcV (s : Src) : Value := .agg #[.int .i64 s.1, .int .i64 s.2]
/-- a pair that may be a key -/
def SrcOk (s : Src) : Prop := (Lit.int .i64 s.1).wf = true ∧ (Lit.int .i64 s.2).wf = true
theorem srcLaid : laidOutB Tryz.prog = true := by kernel_rfl
theorem keySrc : Keyed Tryz.prog 117 := Keyed.of_law (deep_law_laid srcLaid (m := 2) (by omega) (of_decide_eq_true (by kernel_rfl)) (by kernel_rfl) (by kernel_rfl))
theorem srcV_inj {s t : Src} (h : srcV s = srcV t) : s = t := by
  simp only [srcV, Value.agg.injEq, Array.mk.injEq, List.cons.injEq, Value.int.injEq, and_true, true_and] at h
  exact Prod.ext h.1 h.2
theorem srcKey (s : Src) (h : SrcOk s) : ∃ kl, keyOf Tryz.prog 117 (srcV s) = some kl := by
  obtain ⟨a, n⟩ := s
  obtain ⟨h1, h2⟩ := h
  have hkt : Program.keyType Tryz.prog 117 = true := by kernel_rfl
  have hf : Value.formed Tryz.prog 117 (srcV (a, n)) = true := by kernel_rfl
  have hpos : 0 < (Tryz.prog).types.size := of_decide_eq_true (by kernel_rfl)
  obtain ⟨m, hm⟩ : ∃ m, (Tryz.prog).types.size = m + 1 := ⟨(Tryz.prog).types.size - 1, by omega⟩
  have hcs : (Tryz.prog).cellsOf 117 = 2 := by kernel_rfl
  have hcs2 : (Tryz.prog).cellsOf 3 = 1 := by kernel_rfl
  refine ⟨.string (keyBytes [.int .i64 a, .int .i64 n]), ?_⟩
  unfold keyOf
  rw [Tryz.underlying117]
  simp only
  rw [if_pos (by rw [hkt, hf]; rfl), hm]
  unfold Program.keyLits
  rw [Tryz.underlying117]
  simp only [Value.cells, srcV]
  simp [hcs, hcs2, Program.keyLits, Tryz.underlying3, h1, h2]

/-- block b is a map with the entries l, born one after another -/
def MapB (w : World) (b : Nat) (l : List (Src × Int)) : Prop :=
  ∃ es clock, w.heap[b]? = some (.map es clock) ∧ es.toList.map (fun e => (e.key, e.val)) = l.map (fun p => (srcV p.1, Value.int .i64 p.2)) ∧ (∀ p ∈ l, SrcOk p.1) ∧ clock = es.size ∧ (∀ (i : Nat) (e : MapEntry), es[i]? = some e → e.born = i) ∧ l.Pairwise (fun p q => p.1 ≠ q.1)
/-- what the map says of every source -/
def CntOf (l : List (Src × Int)) (g : Src → Int) : Prop := (∀ p ∈ l, g p.1 = p.2) ∧ ∀ s, (∀ p ∈ l, p.1 ≠ s) → g s = 0
def CntMap (w : World) (b : Nat) (g : Src → Int) : Prop := ∃ l, MapB w b l ∧ CntOf l g
def CntAt (w : World) (b : Nat) (g : Src → Int) (s : Src) (j : Nat) : Prop := ∃ l, MapB w b l ∧ CntOf l g ∧ ∃ n, l[j]? = some (s, n)
theorem CntAt.map {w : World} {b : Nat} {g : Src → Int} {s : Src} {j : Nat} (h : CntAt w b g s j) : CntMap w b g := by
  obtain ⟨l, h1, h2, _⟩ := h; exact ⟨l, h1, h2⟩
theorem CntMap.made (w : World) : CntMap (w.alloc (.map #[] 0)) w.heap.size (fun _ => 0) :=
  ⟨[], ⟨#[], 0, (MapKept.heap_alloc w _).1, rfl, by simp, rfl, by simp, by simp⟩, by simp, fun _ _ => rfl⟩
theorem CntMap.keepB {w w' : World} {b : Nat} {g : Src → Int} (h : CntMap w b g) (hk : w'.heap[b]? = w.heap[b]?) : CntMap w' b g := by
  obtain ⟨l, ⟨es, clock, h1, r⟩, h2⟩ := h
  exact ⟨l, ⟨es, clock, hk.trans h1, r⟩, h2⟩
theorem CntAt.keepB {w w' : World} {b : Nat} {g : Src → Int} {s : Src} {j : Nat} (h : CntAt w b g s j) (hk : w'.heap[b]? = w.heap[b]?) : CntAt w' b g s j := by
  obtain ⟨l, ⟨es, clock, h1, r⟩, h2⟩ := h
  exact ⟨l, ⟨es, clock, hk.trans h1, r⟩, h2⟩
theorem CntMap.lt {w : World} {b : Nat} {g : Src → Int} (h : CntMap w b g) : b < w.heap.size := by
  obtain ⟨l, ⟨es, clock, hb, _⟩, _⟩ := h
  exact (Array.getElem?_eq_some_iff.1 hb).1
theorem CntMap.st {w w' : World} {b : Nat} {g : Src → Int} (h : CntMap w b g) (hb : Below w.heap.size w w') : CntMap w' b g := h.keepB (hb.block b h.lt)
theorem MapB.keys {w : World} {b : Nat} {l : List (Src × Int)} {es : Array MapEntry} (h : es.toList.map (fun e => (e.key, e.val)) = l.map (fun p => (srcV p.1, Value.int .i64 p.2))) (ho : ∀ p ∈ l, SrcOk p.1) : ∀ e ∈ es.toList, ∃ x, keyOf Tryz.prog 117 e.key = some x := by
  intro e he
  have : (e.key, e.val) ∈ l.map (fun p => (srcV p.1, Value.int .i64 p.2)) := by rw [← h]; exact List.mem_map.2 ⟨e, he, rfl⟩
  obtain ⟨p, hp, e2⟩ := List.mem_map.1 this
  injection e2 with e3 e4
  rw [← e3]
  exact srcKey p.1 (ho p hp)
theorem map_at {l : List (Src × Int)} {es : Array MapEntry} (h : es.toList.map (fun e => (e.key, e.val)) = l.map (fun p => (srcV p.1, Value.int .i64 p.2))) {j : Nat} {e : MapEntry} (he : es.toList[j]? = some e) : ∃ p, l[j]? = some p ∧ e.key = srcV p.1 ∧ e.val = .int .i64 p.2 := by
  have h1 : (es.toList.map (fun e => (e.key, e.val)))[j]? = some (e.key, e.val) := by rw [List.getElem?_map, he]; rfl
  rw [h, List.getElem?_map] at h1
  cases hq : l[j]? with
  | none => rw [hq] at h1; cases h1
  | some p =>
    rw [hq] at h1
    simp only [Option.map_some, Option.some.injEq, Prod.mk.injEq] at h1
    exact ⟨p, rfl, h1.1.symm, h1.2.symm⟩
theorem CntMap.look {w : World} {b : Nat} {g : Src → Int} (h : CntMap w b g) {s : Src} (hs : SrcOk s) : (Instr.lookup 113 (.map (some b)) (srcV s) false).run Tryz.prog w = .ok (.int .i64 (g s)) w := by
  obtain ⟨l, ⟨es, clock, hb, hl, ho, _, _, hd⟩, hg, h0⟩ := h
  obtain ⟨kl, hkey⟩ := srcKey s hs
  rcases keySrc.find w hkey es.toList (MapB.keys (w := w) (b := b) hl ho) with ⟨h1, h2⟩ | ⟨j, e0, h1, h2, h3⟩
  · have : g s = 0 := h0 s fun p hp e => by
      have : (srcV p.1, Value.int .i64 p.2) ∈ es.toList.map (fun e => (e.key, e.val)) := by rw [hl]; exact List.mem_map.2 ⟨p, hp, rfl⟩
      obtain ⟨x, hx, e2⟩ := List.mem_map.1 this
      injection e2 with e3 e4
      exact h2 x hx (by rw [e3, e])
    simp [Instr.lookup, run_underlying Tryz.underlying113, MapKept.run_getObj_map hb, keySrc.check w _ hkey, h1, Tryz.zeroValue3, Result.andThen, this]
  · obtain ⟨p, hp, e1, e2⟩ := map_at hl h2
    have e3 : p.1 = s := srcV_inj (e1.symm.trans h3)
    have e4 := hg p (List.mem_of_getElem? hp)
    rw [e3] at e4
    simp [Instr.lookup, run_underlying Tryz.underlying113, MapKept.run_getObj_map hb, keySrc.check w _ hkey, h1, Result.andThen, e2, e4]
theorem CntMap.entry {w : World} {b : Nat} {g : Src → Int} (h : CntMap w b g) {s : Src} (hs : SrcOk s) :
    ∃ (j : Nat) (w1 : World), (Instr.mapEntry 113 (.map (some b)) (srcV s)).run Tryz.prog w = .ok (.tuple #[.int .i64 (g s), .int .i64 (j : Int)]) w1 ∧ CntAt w1 b g s j ∧ w.grownBy w1 (some b) := by
  obtain ⟨l, ⟨es, clock, hb, hl, ho, hc, hn, hd⟩, hg, h0⟩ := h
  obtain ⟨kl, hkey⟩ := srcKey s hs
  have hlen : es.size = l.length := by have := congrArg List.length hl; simpa using this
  rcases keySrc.find w hkey es.toList (MapB.keys (w := w) (b := b) hl ho) with ⟨h1, h2⟩ | ⟨j, e0, h1, h2, h3⟩
  · have hno : ∀ p ∈ l, p.1 ≠ s := fun p hp e => by
      have : (srcV p.1, Value.int .i64 p.2) ∈ es.toList.map (fun e => (e.key, e.val)) := by rw [hl]; exact List.mem_map.2 ⟨p, hp, rfl⟩
      obtain ⟨x, hx, e2⟩ := List.mem_map.1 this
      injection e2 with e3 e4
      exact h2 x hx (by rw [e3, e])
    have hz : g s = 0 := h0 s hno
    refine ⟨clock, setBlock w b (.map (es.push ⟨srcV s, .int .i64 0, clock⟩) (clock + 1)), ?_, ⟨l ++ [(s, 0)], ⟨_, _, heap_setBlock_same hb _, by simp [hl], ?_, by simp [hc], ?_, ?_⟩, ⟨?_, ?_⟩, 0, ?_⟩, ⟨rfl, rfl, rfl, by simp [setBlock], fun i _ hi => heap_setBlock_other hb _ (fun e => hi (by rw [e]))⟩⟩
    · simp [Instr.mapEntry, run_underlying Tryz.underlying113, MapKept.run_getObj_map hb, keySrc.check w false hkey, h1, Tryz.zeroValue3, MapKept.run_setObj_map _ hb, Result.andThen, setBlock, hz, goInt]
    · intro p hp
      rcases List.mem_append.1 hp with hp | hp
      · exact ho p hp
      · rw [List.mem_singleton] at hp; subst hp; exact hs
    · intro i e he
      rw [Array.getElem?_push] at he
      split at he
      · rename_i q
        have he2 := Option.some.inj he
        rw [← he2]
        show clock = i
        rw [q]; exact hc
      · exact hn i e he
    · refine List.pairwise_append.2 ⟨hd, by simp, fun p hp q hq => ?_⟩
      rw [List.mem_singleton] at hq; subst hq; exact hno p hp
    · intro p hp
      rcases List.mem_append.1 hp with hp | hp
      · exact hg p hp
      · rw [List.mem_singleton] at hp; subst hp; exact hz
    · intro s' hs'
      exact h0 s' fun p hp => hs' p (List.mem_append_left _ hp)
    · rw [hc, hlen]; simp
  · obtain ⟨p, hp, e1, e2⟩ := map_at hl h2
    have e3 : p.1 = s := srcV_inj (e1.symm.trans h3)
    have e4 := hg p (List.mem_of_getElem? hp)
    rw [e3] at e4
    have hji : es[j]? = some e0 := by simpa using h2
    have hborn := hn j e0 hji
    have hlist : (es.modify j (fun e' => { e' with key := srcV s })).toList = es.toList.set j { e0 with key := srcV s } := by rw [Array.toList_modify, modify_eq_set _ _ _ _ h2]
    have hsame : es.toList.set j { e0 with key := srcV s } = es.toList := by
      have he : ({ e0 with key := srcV s } : MapEntry) = e0 := by obtain ⟨k0, v0, b0⟩ := e0; simp only at h3; subst h3; rfl
      rw [he]
      apply List.ext_getElem?
      intro i
      rw [List.getElem?_set]
      split
      · rename_i q; subst q; rw [h2]; simp; exact (Array.getElem?_eq_some_iff.1 hji).1
      · rfl
    have hes : es.modify j (fun e' => { e' with key := srcV s }) = es := Array.ext' (hlist.trans hsame)
    have hp2 : l[j]? = some (s, g s) := by rw [hp]; exact congrArg some (Prod.ext e3 e4.symm)
    refine ⟨j, setBlock w b (.map (es.modify j (fun e' => { e' with key := srcV s })) clock), ?_, ⟨l, ⟨_, _, heap_setBlock_same hb _, by rw [hes]; exact hl, ho, by rw [hes]; exact hc, by rw [hes]; exact hn, hd⟩, ⟨hg, h0⟩, g s, hp2⟩, ⟨rfl, rfl, rfl, by simp [setBlock], fun i _ hi => heap_setBlock_other hb _ (fun e => hi (by rw [e]))⟩⟩
    simp [Instr.mapEntry, run_underlying Tryz.underlying113, MapKept.run_getObj_map hb, keySrc.check w false hkey, h1, hji, h3, keySrc.stays w hkey, MapKept.run_setObj_map _ hb, Result.andThen, setBlock, goInt, e2, e4, hborn]
theorem CntAt.store {w : World} {b : Nat} {g g' : Src → Int} {s : Src} {j : Nat} (h : CntAt w b g s j) (n : Int) (h1 : g' s = n) (h2 : ∀ s', s' ≠ s → g' s' = g s') :
    ∃ w2, (Instr.entryStore 113 (.map (some b)) (.int .i64 (j : Int)) (.int .i64 n)).run Tryz.prog w = .ok () w2 ∧ CntMap w2 b g' ∧ w.grownBy w2 (some b) := by
  obtain ⟨l, ⟨es, clock, hb, hl, ho, hc, hn, hd⟩, ⟨hg, h0⟩, m, hj⟩ := h
  have hlen : es.size = l.length := by have := congrArg List.length hl; simpa using this
  have hjl : j < l.length := (List.getElem?_eq_some_iff.1 hj).1
  have hji : ∃ e0, es[j]? = some e0 := ⟨es[j], Array.getElem?_eq_getElem (by omega)⟩
  obtain ⟨e0, hji⟩ := hji
  have hfind : es.findIdx? (fun e => (e.born : Int) == (j : Int)) = some j := by
    rw [Array.findIdx?_eq_some_iff_getElem]
    have hjs : j < es.size := by omega
    refine ⟨hjs, ?_, fun i hi => ?_⟩
    · have := hn j _ (Array.getElem?_eq_getElem hjs); simp [this]
    · have := hn i _ (Array.getElem?_eq_getElem (Nat.lt_trans hi hjs)); simp [this]; omega
  have h2' : es.toList[j]? = some e0 := by simpa using hji
  have hlist : (es.modify j (fun e' => { e' with val := Value.int .i64 n })).toList = es.toList.set j { e0 with val := Value.int .i64 n } := by rw [Array.toList_modify, modify_eq_set _ _ _ _ h2']
  obtain ⟨p, hp, e1, e2⟩ := map_at hl h2'
  have hps : p = (s, m) := Option.some.inj (hp.symm.trans hj)
  subst hps
  refine ⟨setBlock w b (.map (es.modify j (fun e' => { e' with val := Value.int .i64 n })) clock), ?_, ⟨l.set j (s, n), ⟨_, _, heap_setBlock_same hb _, ?_, ?_, by simp [hc], ?_, ?_⟩, ?_, ?_⟩, ⟨rfl, rfl, rfl, by simp [setBlock], fun i _ hi => heap_setBlock_other hb _ (fun e => hi (by rw [e]))⟩⟩
  · simp [Instr.entryStore, MapKept.run_getObj_map hb, asInt, asIntOf, hfind, MapKept.run_setObj_map _ hb, Result.andThen, setBlock]
  · rw [hlist, List.map_set, List.map_set, hl]
    simp only [e1]
  · intro q hq
    rcases List.mem_or_eq_of_mem_set hq with hq | rfl
    · exact ho q hq
    · exact ho (s, m) (List.mem_of_getElem? hj)
  · intro i e he
    rw [Array.getElem?_modify] at he
    split at he
    · rename_i q
      subst q
      rw [hji] at he
      simp only [Option.map_some, Option.some.injEq] at he
      subst he
      exact hn j e0 hji
    · exact hn i e he
  · rw [List.pairwise_iff_getElem] at hd ⊢
    intro i k hi hk hik
    simp only [List.length_set] at hi hk
    have a1 : (l.set j (s, n))[i].1 = l[i].1 := by
      rw [List.getElem_set]; split
      · rename_i q; subst q; have := (List.getElem?_eq_some_iff.1 hj).2; rw [this]
      · rfl
    have a2 : (l.set j (s, n))[k].1 = l[k].1 := by
      rw [List.getElem_set]; split
      · rename_i q; subst q; have := (List.getElem?_eq_some_iff.1 hj).2; rw [this]
      · rfl
    rw [a1, a2]
    exact hd i k hi hk hik
  · intro q hq
    by_cases e : q.1 = s
    · obtain ⟨i, hi, e3⟩ := List.getElem_of_mem hq
      simp only [List.length_set] at hi
      rw [List.getElem_set] at e3
      split at e3
      · rw [← e3]; exact h1
      · rename_i hij
        exfalso
        have hk : l[i].1 = s := by rw [e3]; exact e
        have hjv := (List.getElem?_eq_some_iff.1 hj).2
        rw [List.pairwise_iff_getElem] at hd
        rcases Nat.lt_or_ge i j with c | c
        · exact hd i j hi hjl c (by rw [hk, hjv])
        · exact hd j i hjl hi (by omega) (by rw [hk, hjv])
    · rw [h2 _ e]
      rcases List.mem_or_eq_of_mem_set hq with hq | rfl
      · exact hg q hq
      · exact absurd rfl e
  · intro s' hs'
    have hne : s' ≠ s := by
      rintro rfl
      exact hs' (s', n) (List.mem_of_getElem? (by rw [List.getElem?_set_self hjl])) rfl
    rw [h2 s' hne]
    refine h0 s' fun q hq e => ?_
    obtain ⟨i, hi, e3⟩ := List.getElem_of_mem hq
    by_cases c : i = j
    · subst c
      have hjv := (List.getElem?_eq_some_iff.1 hj).2
      rw [hjv] at e3; subst e3
      exact hne e.symm
    · have : (l.set j (s, n))[i]? = some q := by rw [List.getElem?_set_ne (by omega), List.getElem?_eq_getElem hi, e3]
      exact hs' q (List.mem_of_getElem? this) e
end Go.Proofs.YtelchfijalkibaaGreatDoor
