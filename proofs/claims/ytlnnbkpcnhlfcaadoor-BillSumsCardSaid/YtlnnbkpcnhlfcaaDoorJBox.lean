/- Joined texts: Box, AccIdx, BillEnc, RelClone. -/
import Derived.Test.YtlnnbkpcnhlfcaaDoorJInts
import Derived.Laws.Tables
import Derived.Laws.Rows
import Derived.Laws.ResultCell
import Derived.Deep.RegionHeld3
import Derived.Shelf.SlicesQ.Load
import Derived.Test.YtlnnbkpcnhlfcaaDoorJAccMath
import Derived.Test.YtlnnbkpcnhlfcaaDoorJStrEq
import Derived.Test.YtlnnbkpcnhlfcaaDoorBillDate
import Derived.Test.YtlnnbkpcnhlfcaaDoorJName
import Derived.Shelf.SlicesE.Clone
import Derived.Deep.RegionWith
/- Boxes that hold a whole struct: built, loaded, stored, returned as one. -/
namespace Go.Proofs.YtlnnbkpcnhlfcaaDoor
open Go.RowKit Go.Lib

/-- what a struct's type asks of its block -/
def isStr (P : Program) (ty : TypeId) (n : Nat) : Prop := ∃ fs, P.underlying ty = some (.struct fs) ∧ (P.info? ty).map (·.size) = some n

theorem _root_.Go.RowKit.Below.setRow {B : Nat} {w w' : World} (h : Below B w w') {g : Nat} (hg : B ≤ g) (cs : Array Value) : Below B w (w'.setRow g cs) :=
  ⟨h.os, h.tape, h.output, by simpa using h.size, fun k hk => (setRow_other w' g k cs (by omega)).trans (h.block k hk)⟩
theorem Blk.setRow {W : World} {B : Nat} {old cs : Array Value} {t : TypeId} (h : Blk W B old t) : Blk (W.setRow B cs) B cs t := setRow_heap W B old cs t (0, 0) h
theorem Blk.oth {W W' : World} {B g : Nat} {cs : Array Value} {t : TypeId} (h : Blk W B cs t) (ho : ∀ k, k ≠ g → W'.heap[k]? = W.heap[k]?) (hne : B ≠ g) : Blk W' B cs t := (ho B hne).trans h
theorem Blk.loads {W : World} {B : Nat} {cs : Array Value} {t : TypeId} {n : Nat} (P : Program) (h : Blk W B cs t) (hn : cs.size = n) : (loadCellsFrom ⟨B, 0, none⟩ 0 n #[]).run P W = .ok cs W := by
  have := run_loadCellsFrom_list P W ⟨B, 0, none⟩ cs.toList n (by simpa using hn) fun j v hv => by
    have e : (⟨B, 0, none⟩ : Addr).add j = ⟨B, j, none⟩ := by unfold Addr.add; split <;> simp_all
    rw [e]
    exact h.cell j (by simpa using hv)
  simpa using this

theorem Rd.setO {α : Type} {enc : α → List Value} {k : Nat} {w : World} {B : Nat} {A : Option Addr} {l : List α} (h : Rd enc k w B A l) {p : Addr} (hA : ∀ b off, A = some ⟨b, off, none⟩ → b ≠ p.block) (v : Value) : Rd enc k (w.setCell p v) B A l :=
  h.keepIf fun b off hb _ o => World.cell?_of_block (w := w) (Below.heap_setCell w p v b (hA b off hb))
theorem Rd.set1 {α : Type} {enc : α → List Value} {k : Nat} {w : World} {A : Option Addr} {l : List α} (h : Rd enc k w w.heap.size A l) {p : Addr} (hA : ∀ b off, A = some ⟨b, off, none⟩ → b ≠ p.block) (v : Value) : Rd enc k (w.setCell p v) (w.setCell p v).heap.size A l := by
  have := h.setO hA v
  simpa using this
theorem Rd.lit {α : Type} {enc : α → List Value} {k e : Nat} (w : World) {cs : Array Value} (l : List α) (hE : Enc enc k) (hcs : cs.toList = l.flatMap enc) (hl : l.length ≤ 1000) :
    Rd enc k (w.alloc (.cells cs e)) (w.alloc (.cells cs e)).heap.size (some ⟨w.heap.size, 0, none⟩) l :=
  (Own.lit (e := e) w 0 l hE hcs rfl (Nat.zero_le _) (by omega)).rd hE

section
variable {P : Program}
theorem results_box {fn : Func} {p : Tmp} {ty : TypeId} (h : fn.results = #[.cell p ty]) (tmps : Array Value) {w : World} {g : Nat} {t : TypeId} {cs : Array Value}
    (hp : tmps.getD p undef = .pointer (some ⟨g, 0, none⟩)) (hg : Blk w g cs t) (hs : isStr P ty cs.size) : (results fn tmps).run P w = .ok (.agg cs) w := by
  obtain ⟨fs, hu, hi⟩ := hs
  exact results_cell_row h tmps w g t cs (0, 0) _ hp hg hu rfl hi
theorem results_box_tmp {fn : Func} {p u : Tmp} {ty : TypeId} (h : fn.results = #[.cell p ty, .tmp u]) (tmps : Array Value) {w : World} {g : Nat} {t : TypeId} {cs : Array Value} (v : Value)
    (hp : tmps.getD p undef = .pointer (some ⟨g, 0, none⟩)) (hv : tmps.getD u undef = v) (hg : Blk w g cs t) (hs : isStr P ty cs.size) : (results fn tmps).run P w = .ok (.tuple #[.agg cs, v]) w := by
  obtain ⟨fs, hu, hi⟩ := hs
  have hp' : tmps[p]?.getD undef = .pointer (some ⟨g, 0, none⟩) := by simpa using hp
  have hv' : tmps[u]?.getD undef = v := by simpa using hv
  have hg' : w.heap[g]? = some (.cells cs t (0, 0)) := hg
  rw [results_cell_tmp h]
  simp [hp', hv', asAddr, Result.andThen, run_loadVar_row w g t ty cs (0, 0) _ hg' hu rfl hi]

variable {ops : Array Oper} {rest : List Oper} {o : Oper} {a : Act} {w : World} {Q : Exit → Act → World → Prop}
/-- a struct loaded whole -/
theorem wpList_boxLoad (hgd : o.guard = none) {ty : TypeId} {x : Operand} (ho : o.op = .load ty x) {g : Nat} {cs : Array Value} {t : TypeId} (hb : Blk w g cs t)
    (hx : a.eval x = .pointer (some ⟨g, 0, none⟩)) (hs : isStr P ty cs.size) (h : wpList P ops Q rest (a.put o.dst (.agg cs)) w) : wpList P ops Q (o :: rest) a w := by
  obtain ⟨fs, hu, hi⟩ := hs
  exact wpList_load_row hgd ty x ho g hx t cs (0, 0) _ hb hu rfl hi h
/-- in a region that draws: a struct loaded whole may be taken at once -/
theorem yieldsIf_boxLoad {S : World → Prop} {o : Oper} {a : Act} (hw : Region.wanted o (yielded ops a.tmps) = true) {ty : TypeId} {x : Operand} (ho : o.op = .load ty x) {g : Nat} {cs : Array Value} {t : TypeId}
    (hx : a.eval x = .pointer (some ⟨g, 0, none⟩)) (hS : ∀ w, S w → Blk w g cs t) (hs : isStr P ty cs.size) : YieldsIf P ops S o (.agg cs) a := by
  obtain ⟨fs, hu, hi⟩ := hs
  exact .inl ⟨hw, fun w hw' => by
    have hb : w.heap[g]? = some (.cells cs t (0, 0)) := hS w hw'
    unfold execOp
    simp only [ho, hx, Instr.loadAt, Instr.sureAddr, Sem.run_bind, Sem.run_pure, Result.andThen_ok, run_loadVar_row w g t ty cs (0, 0) _ hb hu rfl hi]⟩
/-- a struct stored whole -/
theorem wpList_boxStore (hgd : o.guard = none) {ty : TypeId} {x y : Operand} (ho : o.op = .store ty x y) {g : Nat} {old cells : Array Value} {t : TypeId} (hb : Blk w g old t)
    (hx : a.eval x = .pointer (some ⟨g, 0, none⟩)) (hy : a.eval y = .agg cells) (hi : (P.info? ty).map (·.size) = some cells.size) (hold : old.size = cells.size) (h1 : cells.all (·.oneCell') = true)
    (h : ∀ w', Blk w' g cells t → (∀ k, k ≠ g → w'.heap[k]? = w.heap[k]?) → (∀ B w0, B ≤ g → Below B w0 w → Below B w0 w') → wpList P ops Q rest (a.put o.dst undef) w') : wpList P ops Q (o :: rest) a w :=
  wpList_store_row hgd ty x y ho g cells hx hy t old hb hi hold h1 (h (w.setRow g cells) hb.setRow (fun k hk => setRow_other w g k cells hk) fun B w0 hB hw => hw.setRow hB cells)
theorem wp_boxStore {K : Act → World → Prop} {ty : TypeId} {x y : Operand} (ho : o.op = .store ty x y) {g : Nat} {old cells : Array Value} {t : TypeId} (hb : Blk w g old t)
    (hx : a.eval x = .pointer (some ⟨g, 0, none⟩)) (hy : a.eval y = .agg cells) (hi : (P.info? ty).map (·.size) = some cells.size) (hold : old.size = cells.size) (h1 : cells.all (·.oneCell') = true)
    (h : ∀ w', Blk w' g cells t → (∀ k, k ≠ g → w'.heap[k]? = w.heap[k]?) → (∀ B w0, B ≤ g → Below B w0 w → Below B w0 w') → K (a.put o.dst undef) w') : o.wp P a w K Q :=
  wp_store_row ty x y ho g cells hx hy t old hb hi hold h1 (h (w.setRow g cells) hb.setRow (fun k hk => setRow_other w g k cells hk) fun B w0 hB hw => hw.setRow hB cells)
/-- a struct built whole -/
theorem wpList_boxBuild (hgd : o.guard = none) {t : TypeId} {parts : Array (Nat × Operand)} (ho : o.op = .build t parts)
    {cells : Array Value} (hf : P.built t (parts.map fun (i, x) => (i, a.eval x)).toList = some cells) (h : wpList P ops Q rest (a.put o.dst (.agg cells)) w) : wpList P ops Q (o :: rest) a w :=
  wpList_plain hgd fun K hK => wp_build t parts ho (by rw [hf]; rfl) (by rw [hf]; exact hK _ _ h)
end
end Go.Proofs.YtlnnbkpcnhlfcaaDoor
/- account.index, owned, Owner, and the reference's find, owns, Owner, walked. -/
namespace Go.Proofs.YtlnnbkpcnhlfcaaDoor
open Go.RowKit Go.Lib

/-- ways of a test for the empty string -/
theorem toList_neE {a : ByteArray} (h : emp a = false) : ¬ a.toList = [] ∧ a.toList.isEmpty = false ∧ (a.toList == []) = false := by
  have h0 : ¬ a = ⟨#[]⟩ := fun q => by rw [(emp_iff a).2 q] at h; cases h
  have h1 : ¬ a.toList = [] := by
    intro q
    apply h0
    rw [ByteArray.toList_eq] at q
    cases a; simp only [ByteArray.mk.injEq]
    exact Array.toList_eq_nil_iff.1 q
  cases q : a.toList with
  | nil => exact absurd q h1
  | cons _ _ => exact ⟨by simp, rfl, rfl⟩

theorem toList_eE {a : ByteArray} (h : emp a = true) : a.toList = [] ∧ a.toList.isEmpty = true ∧ (a.toList == []) = true := by
  obtain rfl := (emp_iff a).1 h
  have : (⟨#[]⟩ : ByteArray).toList = [] := by rw [ByteArray.toList_eq]
  rw [this]
  exact ⟨rfl, rfl, rfl⟩

set_option maxRecDepth 100000 in
set_option maxHeartbeats 4000000 in
theorem index_any {A : Option Addr} (c : Nat) {l : List Ac} (s : ByteArray) {w : World} (h : Rd encAc 9 w w.heap.size A l) (hlen : l.length ≤ 9223372036854775807) :
    Calls Tryd.prog 78 #[.slice A l.length c, .string s] w fun e w' => (∃ i, e = .returned (.int .i64 i) ∧ IdxR (fun a : Ac => eqS a.v.name s) l i) ∧ Below w.heap.size w w' := by
  have H := Lib.hid h
  clear h
  go_enter Tryd.func78, Tryd.ntmps78
  go_wp2
  go_loopw [9] (fun i wr => ∃ k : Nat, k ≤ l.length ∧ i = .int .i64 k ∧ Hid (∀ y ∈ l.take k, eqS y.v.name s = false) ∧ Below w.heap.size w wr) (fun i _ => l.length - (RowKit.intOf i).toNat)
  case atStart => exact ⟨0, Nat.zero_le _, rfl, (by unfold Hid; simp), Below.refl _ _⟩
  case round =>
    obtain ⟨k, hk, rfl, HN, bW⟩ := hrel
    by_cases hi : k < l.length
    · obtain ⟨b, off, a, rfl, hb, hx, d0, d1, d2, d3, d4, d5, d6, d7, d8⟩ := (H.out.st bW).ac hi
      have bW2 := bW.al (.cells #[.string a.v.name, .string a.v.ag, .bool a.v.pre, .slice a.oA a.v.os.length a.oc, .int .i64 a.v.r0, .int .i64 a.v.r1, .int .i64 a.v.r2, .int .i64 a.v.r3, .bool a.v.ex] 91)
      have HK := Lib.hid hi
      cases he : eqS a.v.name s
      · have R := Lib.hid (all_succ' (p := fun y : Ac => eqS y.v.name s) hx HN.out he)
        have he2 : (a.v.name.toList == s.toList) = false := he
        clear hx he
        go_wp2_with fail
        go_roundw
        case rel => exact ⟨k + 1, HK.out, by go_num, R, bW2⟩
        case measure => have := HK.out; simp [RowKit.intOf]; omega
      · have R : Hid (IdxR (fun a : Ac => eqS a.v.name s) l (k : Int)) := Lib.hid (Or.inr ⟨k, a, hx, rfl, he, HN.out⟩)
        have he2 : (a.v.name.toList == s.toList) = true := he
        clear hx he
        go_wp2_with fail
        go_ret
        exact ⟨⟨_, rfl, R.out⟩, bW2⟩
    · obtain rfl : k = l.length := by omega
      have R : Hid (IdxR (fun a : Ac => eqS a.v.name s) l (-1)) := Lib.hid (Or.inl ⟨rfl, by have := HN.out; rwa [List.take_length] at this⟩)
      go_wp2
      go_ret
      exact ⟨⟨_, rfl, R.out⟩, bW⟩

set_option maxRecDepth 100000 in
set_option maxHeartbeats 4000000 in
theorem rfind_any {A : Option Addr} (c : Nat) {l : List Ac} (s : ByteArray) {w : World} (h : Rd encAc 9 w w.heap.size A l) (hlen : l.length ≤ 9223372036854775807) :
    Calls Tryd.prog 81 #[.slice A l.length c, .string s] w fun e w' => (∃ i, e = .returned (.int .i64 i) ∧ IdxR (fun a : Ac => eqS a.v.name s) l i) ∧ w' = w := by
  go_enter Tryd.func81, Tryd.ntmps81
  go_wp2
  go_loopw [5] (fun i wr => ∃ k : Nat, k ≤ l.length ∧ i = .int .i64 k ∧ Hid (∀ y ∈ l.take k, eqS y.v.name s = false) ∧ wr = w) (fun i _ => l.length - (RowKit.intOf i).toNat)
  case atStart => exact ⟨0, Nat.zero_le _, rfl, (by unfold Hid; simp), rfl⟩
  case round =>
    obtain ⟨k, hk, rfl, HN, rfl⟩ := hrel
    by_cases hi : k < l.length
    · obtain ⟨b, off, a, rfl, hb, hx, d0, d1, d2, d3, d4, d5, d6, d7, d8⟩ := h.ac hi
      have i1 : (0 : Int) ≤ (k : Int) := by omega
      have i2 : (k : Int) < (l.length : Int) := by omega
      have HK := Lib.hid hi
      cases he : eqS a.v.name s
      · have R := Lib.hid (all_succ' (p := fun y : Ac => eqS y.v.name s) hx HN.out he)
        have he2 : (a.v.name.toList == s.toList) = false := he
        clear hx he h
        go_wp2_with fail
        go_roundw
        case rel => exact ⟨k + 1, HK.out, by go_num, R, trivial⟩
        case measure => have := HK.out; simp [RowKit.intOf]; omega
      · have R : Hid (IdxR (fun a : Ac => eqS a.v.name s) l (k : Int)) := Lib.hid (Or.inr ⟨k, a, hx, rfl, he, HN.out⟩)
        have he2 : (a.v.name.toList == s.toList) = true := he
        clear hx he h
        go_wp2_with fail
        go_ret
        exact ⟨⟨_, rfl, R.out⟩, rfl⟩
    · obtain rfl : k = l.length := by omega
      have R : Hid (IdxR (fun a : Ac => eqS a.v.name s) l (-1)) := Lib.hid (Or.inl ⟨rfl, by have := HN.out; rwa [List.take_length] at this⟩)
      clear h
      go_wp2
      go_ret
      exact ⟨⟨_, rfl, R.out⟩, rfl⟩
end Go.Proofs.YtlnnbkpcnhlfcaaDoor
/- Caps and charges as values; caps in plain words. -/
set_option linter.unusedSimpArgs false
namespace Go.Proofs.YtlnnbkpcnhlfcaaDoor
open Go.RowKit Go.Lib

structure Cp where
  name : ByteArray
  sys : ByteArray
  days : Int
  ct : Int
def encCp (c : Cp) : List Value := [.string c.name, .string c.sys, .int .i64 c.days, .int .i64 c.ct]
theorem encCp_ok : Enc encCp 4 := ⟨fun _ => rfl, fun x u hu => by simp [encCp] at hu; rcases hu with rfl | rfl | rfl | rfl <;> rfl⟩
def CpV (c : Cp) : Value := .agg #[.string c.name, .string c.sys, .int .i64 c.days, .int .i64 c.ct]
theorem Rd.cp {w : World} {B : Nat} {A : Option Addr} {l : List Cp} (h : Rd encCp 4 w B A l) {i : Nat} (hi : i < l.length) :
    ∃ b off c, A = some ⟨b, off, none⟩ ∧ b < B ∧ l[i]? = some c ∧ w.cell? ⟨b, off + i * 4, none⟩ = some (.string c.name) ∧ w.cell? ⟨b, off + i * 4 + 1, none⟩ = some (.string c.sys) ∧ w.cell? ⟨b, off + i * 4 + 2, none⟩ = some (.int .i64 c.days) ∧ w.cell? ⟨b, off + i * 4 + 3, none⟩ = some (.int .i64 c.ct) := by
  obtain ⟨b, off, c, hA, hb, hx, hc⟩ := h.at_ hi
  exact ⟨b, off, c, hA, hb, hx, hc 0 _ rfl, hc 1 _ rfl, hc 2 _ rfl, hc 3 _ rfl⟩

/-- a charge in memory: its values, where its lines lie -/
structure Cg where
  c : CV
  lA : Option Addr
  lc : Nat
def encCg (x : Cg) : List Value := [.string x.c.key, .string x.c.veh, .string x.c.sys, .int .i64 x.c.cls, .int .i64 x.c.tm, .slice x.lA x.c.lns.length x.lc, .int .i64 x.c.ct]
theorem encCg_ok : Enc encCg 7 := ⟨fun _ => rfl, fun x u hu => by simp [encCg] at hu; rcases hu with rfl | rfl | rfl | rfl | rfl | rfl | rfl <;> rfl⟩
def CgV (x : Cg) : Value := CHV x.c x.lA x.lc
def CgOk (w : World) (x : Cg) : Prop := Rd encLn 2 w w.heap.size x.lA x.c.lns ∧ x.c.lns.length ≤ x.lc ∧ x.lc ≤ 9223372036854775807
theorem CgOk.st {w w' : World} {x : Cg} (h : CgOk w x) (hb : Below w.heap.size w w') : CgOk w' x := ⟨h.1.st hb, h.2⟩
/-- a list of charges in memory -/
def CL (w : World) (A : Option Addr) (l : List Cg) : Prop := Rd encCg 7 w w.heap.size A l ∧ ∀ x ∈ l, CgOk w x
theorem CL.st {w w' : World} {A : Option Addr} {l : List Cg} (h : CL w A l) (hb : Below w.heap.size w w') : CL w' A l := ⟨h.1.st hb, fun x hx => (h.2 x hx).st hb⟩
def cvs (l : List Cg) : List CV := l.map Cg.c
theorem cvs_len (l : List Cg) : (cvs l).length = l.length := by simp [cvs]
theorem cvs_at {l : List Cg} {i : Nat} {x : Cg} (h : l[i]? = some x) : (cvs l)[i]? = some x.c := by unfold cvs; rw [List.getElem?_map, h]; rfl
theorem Rd.cg {w : World} {B : Nat} {A : Option Addr} {l : List Cg} (h : Rd encCg 7 w B A l) {i : Nat} (hi : i < l.length) :
    ∃ b off x, A = some ⟨b, off, none⟩ ∧ b < B ∧ l[i]? = some x ∧ w.cell? ⟨b, off + i * 7, none⟩ = some (.string x.c.key) ∧ w.cell? ⟨b, off + i * 7 + 1, none⟩ = some (.string x.c.veh) ∧ w.cell? ⟨b, off + i * 7 + 2, none⟩ = some (.string x.c.sys) ∧ w.cell? ⟨b, off + i * 7 + 3, none⟩ = some (.int .i64 x.c.cls) ∧ w.cell? ⟨b, off + i * 7 + 4, none⟩ = some (.int .i64 x.c.tm) ∧ w.cell? ⟨b, off + i * 7 + 5, none⟩ = some (.slice x.lA x.c.lns.length x.lc) ∧ w.cell? ⟨b, off + i * 7 + 6, none⟩ = some (.int .i64 x.c.ct) := by
  obtain ⟨b, off, x, hA, hb, hx, hc⟩ := h.at_ hi
  exact ⟨b, off, x, hA, hb, hx, hc 0 _ rfl, hc 1 _ rfl, hc 2 _ rfl, hc 3 _ rfl, hc 4 _ rfl, hc 5 _ rfl, hc 6 _ rfl⟩
theorem tyCg : TyS Tryd.prog 33 82 7 96 := TyS.mk' (z := .agg #[.string ⟨#[]⟩, .string ⟨#[]⟩, .string ⟨#[]⟩, .int .i64 0, .int .i64 0, .slice none 0 0, .int .i64 0]) Tryd.underlying33 (by kernel_rfl) rfl (by omega)

/-! ### caps in plain words -/
def amB (n : Int) : Bool := decide (0 ≤ n ∧ n ≤ 1125899906842624)
/-- the error of a cap -/
def capE (c : Cp) : Int :=
  if nameB c.name = false ∨ (emp c.sys = false ∧ nameB c.sys = false) then 6 else if c.days ≠ 0 ∧ c.days ≠ 1 then 1 else if amB c.ct = false then 13 else 0
/-- whether a cap is about a charge -/
def matB (c : Cp) (x : CV) : Bool := emp c.sys || eqS c.sys x.sys
/-- the period of a time -/
def perN (days t : Int) : Int := if days = 1 then dayN t else if days = 0 then monN t else -1
/-- a charge that can be billed -/
def btmB (t : Int) : Bool := decide (0 ≤ t ∧ t < 68719476736) && decide (0 ≤ dayN t ∧ dayN t < 795364)
theorem btmB_per (t : Int) : btmB t = true ↔ 0 ≤ perN 1 t ∧ 0 ≤ perN 0 t := by
  unfold btmB perN monN monD
  simp only [Bool.and_eq_true, decide_eq_true_eq, if_true, if_neg (by omega : ¬ (0 : Int) = 1)]
  unfold dayN
  constructor
  · rintro ⟨h1, h2⟩
    rw [if_pos h1] at h2 ⊢
    rw [if_pos h2]
    omega
  · rintro ⟨h1, h2⟩
    split at h1
    · rename_i h
      rw [if_pos h] at h2 ⊢
      refine ⟨h, ?_⟩
      split at h2
      · assumption
      · omega
    · omega
end Go.Proofs.YtlnnbkpcnhlfcaaDoor
/- slices.Clone at lines. -/
namespace Go.Proofs.YtlnnbkpcnhlfcaaDoor
open Go.RowKit Go.Lib

set_option maxRecDepth 100000 in
set_option maxHeartbeats 2000000 in
theorem cloneL_any {A : Option Addr} (c : Nat) {l : List Ln} {w : World} (h : Rd encLn 2 w w.heap.size A l) (hl : l.length ≤ 1000000) :
    Calls Tryd.prog 72 #[.slice A l.length c] w fun e w' => ∃ A' c', e = .returned (.slice A' l.length c') ∧ Own 99 encLn 2 w' w.heap.size A' c' l ∧ Below w.heap.size w w' := by
  have qn : ∀ (w : World) (a : Option Addr) (n c n' c' : Nat), (binOp .eql 80 (.slice a n c) (.slice none n' c')).run Tryd.prog w = .ok (.bool a.isNone) w := fun w a n c n' c' => Lib.run_eql_slice_nil w _ _ a n c n' c' Tryd.underlying80
  have H := Lib.hid h
  clear h
  cases A with
  | none =>
    have hl0 : l = [] := by
      rcases Classical.em (l = []) with q | q
      · exact q
      · obtain ⟨_, _, hA, _⟩ := H.out q
        cases hA
    subst hl0
    clear H hl
    go_enter Tryd.func72, Tryd.ntmps72
    go_wp2
    go_ret
    exact ⟨none, 0, rfl, Own.nil _ _, Below.refl _ _⟩
  | some a =>
    have hown := Own.lit (e := 99) (cs := #[]) w w.heap.size ([] : List Ln) (g := w.heap.size) encLn_ok rfl rfl (Nat.le_refl _) (by simp)
    have hb0 := (Below.refl w.heap.size w).al (.cells #[] 99)
    have hr := H.out.st hb0
    have hbs : w.heap.size ≤ (w.alloc (.cells #[] 99)).heap.size := by simp
    go_enter Tryd.func72, Tryd.ntmps72
    go_wp2_with (at_builtin; refine wpList_appS rfl (.tmp 5) (.tmp 6) tyLn encLn_ok rfl _ rfl (by first | rfl | simp) hown l rfl (by first | rfl | simp) hr (by first | omega | (simp; done) | (simp; omega)) (by first | omega | (simp; done) | (simp; omega)) hbs ?_; intro A4 c4 w4 hown4 hb4 hs4 hf4)
    go_ret
    exact ⟨A4, c4, by simp, by simpa using hown4, hb0.trans hb4⟩
end Go.Proofs.YtlnnbkpcnhlfcaaDoor
