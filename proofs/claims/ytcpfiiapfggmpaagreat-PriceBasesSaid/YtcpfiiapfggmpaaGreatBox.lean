/- Boxes that hold a whole struct: built, loaded, stored, returned as one. -/
import Derived.Test.YtcpfiiapfggmpaaGreatJFirst
import Derived.Laws.Tables
import Derived.Laws.Rows
import Derived.Laws.ResultCell
import Derived.Deep.RegionHeld3
import Derived.Shelf.SlicesQ.Load
namespace Go.Proofs.YtcpfiiapfggmpaaGreat
open Go.RowKit Go.Lib

/-- what a struct's type asks of its block -/
def isStr (P : Program) (ty : TypeId) (n : Nat) : Prop := ∃ fs, P.underlying ty = some (.struct fs) ∧ (P.info? ty).map (·.size) = some n

theorem _root_.Go.RowKit.Below.setRow {B : Nat} {w w' : World} (h : Below B w w') {g : Nat} (hg : B ≤ g) (cs : Array Value) : Below B w (w'.setRow g cs) :=
  ⟨h.os, h.tape, h.output, by simpa using h.size, fun k hk => (setRow_other w' g k cs (by omega)).trans (h.block k hk)⟩
theorem Blk.setRow {W : World} {B : Nat} {old cs : Array Value} {t : TypeId} (h : Blk W B old t) : Blk (W.setRow B cs) B cs t := setRow_heap W B old cs t (0, 0) h
theorem Blk.oth {W W' : World} {B g : Nat} {cs : Array Value} {t : TypeId} (h : Blk W B cs t) (ho : ∀ k, k ≠ g → W'.heap[k]? = W.heap[k]?) (hne : B ≠ g) : Blk W' B cs t := (ho B hne).trans h
theorem Blk.loads {W : World} {B : Nat} {cs : Array Value} {t : TypeId} {n : Nat} (P : Program) (h : Blk W B cs t) (hn : cs.size = n) : (loadCellsFrom ⟨B, 0, none⟩ 0 n #[]).run P W = .ok cs W := by
  have := run_loadCellsFrom_list P W ⟨B, 0, none⟩ cs.toList n (by simpa using hn) fun j v hv => by
    have e : (⟨B, 0, none⟩ : Addr).add j = ⟨B, j, none⟩ := by unfold Addr.add; split <;> simp_all
    rw [e]
    exact h.cell j (by simpa using hv)
  simpa using this

theorem Rd.setO {α : Type} {enc : α → List Value} {k : Nat} {w : World} {B : Nat} {A : Option Addr} {l : List α} (h : Rd enc k w B A l) {p : Addr} (hA : ∀ b off, A = some ⟨b, off, none⟩ → b ≠ p.block) (v : Value) : Rd enc k (w.setCell p v) B A l :=
  h.keepIf fun b off hb _ o => World.cell?_of_block (w := w) (Below.heap_setCell w p v b (hA b off hb))
theorem Rd.set1 {α : Type} {enc : α → List Value} {k : Nat} {w : World} {A : Option Addr} {l : List α} (h : Rd enc k w w.heap.size A l) {p : Addr} (hA : ∀ b off, A = some ⟨b, off, none⟩ → b ≠ p.block) (v : Value) : Rd enc k (w.setCell p v) (w.setCell p v).heap.size A l := by
  have := h.setO hA v
  simpa using this
theorem Rd.lit {α : Type} {enc : α → List Value} {k e : Nat} (w : World) {cs : Array Value} (l : List α) (hE : Enc enc k) (hcs : cs.toList = l.flatMap enc) (hl : l.length ≤ 1000) :
    Rd enc k (w.alloc (.cells cs e)) (w.alloc (.cells cs e)).heap.size (some ⟨w.heap.size, 0, none⟩) l :=
  (Own.lit (e := e) w 0 l hE hcs rfl (Nat.zero_le _) (by omega)).rd hE

section
variable {P : Program}
theorem results_box {fn : Func} {p : Tmp} {ty : TypeId} (h : fn.results = #[.cell p ty]) (tmps : Array Value) {w : World} {g : Nat} {t : TypeId} {cs : Array Value}
    (hp : tmps.getD p undef = .pointer (some ⟨g, 0, none⟩)) (hg : Blk w g cs t) (hs : isStr P ty cs.size) : (results fn tmps).run P w = .ok (.agg cs) w := by
  obtain ⟨fs, hu, hi⟩ := hs
  exact results_cell_row h tmps w g t cs (0, 0) _ hp hg hu rfl hi
theorem results_box_tmp {fn : Func} {p u : Tmp} {ty : TypeId} (h : fn.results = #[.cell p ty, .tmp u]) (tmps : Array Value) {w : World} {g : Nat} {t : TypeId} {cs : Array Value} (v : Value)
    (hp : tmps.getD p undef = .pointer (some ⟨g, 0, none⟩)) (hv : tmps.getD u undef = v) (hg : Blk w g cs t) (hs : isStr P ty cs.size) : (results fn tmps).run P w = .ok (.tuple #[.agg cs, v]) w := by
  obtain ⟨fs, hu, hi⟩ := hs
  have hp' : tmps[p]?.getD undef = .pointer (some ⟨g, 0, none⟩) := by simpa using hp
  have hv' : tmps[u]?.getD undef = v := by simpa using hv
  have hg' : w.heap[g]? = some (.cells cs t (0, 0)) := hg
  rw [results_cell_tmp h]
  simp [hp', hv', asAddr, Result.andThen, run_loadVar_row w g t ty cs (0, 0) _ hg' hu rfl hi]

variable {ops : Array Oper} {rest : List Oper} {o : Oper} {a : Act} {w : World} {Q : Exit → Act → World → Prop}
/-- a struct loaded whole -/
theorem wpList_boxLoad (hgd : o.guard = none) {ty : TypeId} {x : Operand} (ho : o.op = .load ty x) {g : Nat} {cs : Array Value} {t : TypeId} (hb : Blk w g cs t)
    (hx : a.eval x = .pointer (some ⟨g, 0, none⟩)) (hs : isStr P ty cs.size) (h : wpList P ops Q rest (a.put o.dst (.agg cs)) w) : wpList P ops Q (o :: rest) a w := by
  obtain ⟨fs, hu, hi⟩ := hs
  exact wpList_load_row hgd ty x ho g hx t cs (0, 0) _ hb hu rfl hi h
/-- in a region that draws: a struct loaded whole may be taken at once -/
theorem yieldsIf_boxLoad {S : World → Prop} {o : Oper} {a : Act} (hw : Region.wanted o (yielded ops a.tmps) = true) {ty : TypeId} {x : Operand} (ho : o.op = .load ty x) {g : Nat} {cs : Array Value} {t : TypeId}
    (hx : a.eval x = .pointer (some ⟨g, 0, none⟩)) (hS : ∀ w, S w → Blk w g cs t) (hs : isStr P ty cs.size) : YieldsIf P ops S o (.agg cs) a := by
  obtain ⟨fs, hu, hi⟩ := hs
  exact .inl ⟨hw, fun w hw' => by
    have hb : w.heap[g]? = some (.cells cs t (0, 0)) := hS w hw'
    unfold execOp
    simp only [ho, hx, Instr.loadAt, Instr.sureAddr, Sem.run_bind, Sem.run_pure, Result.andThen_ok, run_loadVar_row w g t ty cs (0, 0) _ hb hu rfl hi]⟩
/-- a struct stored whole -/
theorem wpList_boxStore (hgd : o.guard = none) {ty : TypeId} {x y : Operand} (ho : o.op = .store ty x y) {g : Nat} {old cells : Array Value} {t : TypeId} (hb : Blk w g old t)
    (hx : a.eval x = .pointer (some ⟨g, 0, none⟩)) (hy : a.eval y = .agg cells) (hi : (P.info? ty).map (·.size) = some cells.size) (hold : old.size = cells.size) (h1 : cells.all (·.oneCell') = true)
    (h : ∀ w', Blk w' g cells t → (∀ k, k ≠ g → w'.heap[k]? = w.heap[k]?) → (∀ B w0, B ≤ g → Below B w0 w → Below B w0 w') → wpList P ops Q rest (a.put o.dst undef) w') : wpList P ops Q (o :: rest) a w :=
  wpList_store_row hgd ty x y ho g cells hx hy t old hb hi hold h1 (h (w.setRow g cells) hb.setRow (fun k hk => setRow_other w g k cells hk) fun B w0 hB hw => hw.setRow hB cells)
theorem wp_boxStore {K : Act → World → Prop} {ty : TypeId} {x y : Operand} (ho : o.op = .store ty x y) {g : Nat} {old cells : Array Value} {t : TypeId} (hb : Blk w g old t)
    (hx : a.eval x = .pointer (some ⟨g, 0, none⟩)) (hy : a.eval y = .agg cells) (hi : (P.info? ty).map (·.size) = some cells.size) (hold : old.size = cells.size) (h1 : cells.all (·.oneCell') = true)
    (h : ∀ w', Blk w' g cells t → (∀ k, k ≠ g → w'.heap[k]? = w.heap[k]?) → (∀ B w0, B ≤ g → Below B w0 w → Below B w0 w') → K (a.put o.dst undef) w') : o.wp P a w K Q :=
  wp_store_row ty x y ho g cells hx hy t old hb hi hold h1 (h (w.setRow g cells) hb.setRow (fun k hk => setRow_other w g k cells hk) fun B w0 hB hw => hw.setRow hB cells)
/-- a struct built whole -/
theorem wpList_boxBuild (hgd : o.guard = none) {t : TypeId} {parts : Array (Nat × Operand)} (ho : o.op = .build t parts)
    {cells : Array Value} (hf : P.built t (parts.map fun (i, x) => (i, a.eval x)).toList = some cells) (h : wpList P ops Q rest (a.put o.dst (.agg cells)) w) : wpList P ops Q (o :: rest) a w :=
  wpList_plain hgd fun K hK => wp_build t parts ho (by rw [hf]; rfl) (by rw [hf]; exact hK _ _ h)
end
end Go.Proofs.YtcpfiiapfggmpaaGreat
