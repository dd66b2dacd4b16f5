/- What the last step of TopCaps needs: its arguments opened, the listed months. -/
import Derived.Test.YtelchfijalkibaaGreatDoorTopFar
import Derived.Test.YtelchfijalkibaaGreatDoorJTrip
import Derived.Test.YtelchfijalkibaaGreatDoorRows
import Derived.ChangeMaps5
import Derived.LaidMore
import Derived.ProofKit
namespace Go.Proofs.YtelchfijalkibaaGreatDoor
open Go.ChangeShapes Go.WideShapes Go.ChangeAt Go.RowKit Go.Lib Go.Deep
set_option linter.unusedVariables false

theorem lawOwn : ownKnob Tryz.prog.godebug = none := by kernel_rfl
theorem lawLaid : laidOutB Tryz.prog = true := by kernel_rfl
def lawMonths : List (String × DataW Unit) := [("tollway/clock.months", Rows.laid_tollway_clock_months)]
theorem gMon : Tryz.prog.globalNamed "tollway/clock.months" = some 2 := by kernel_rfl
theorem tMon : (Tryz.prog.globals[2]?).map (·.type) = some 173 := by kernel_rfl
theorem door_met (os : Os) (args : Array Value) : laidMetH Tryz.prog lawMonths ((World.doorLaid Tryz.prog 400 os).forCall (fun _ _ => 0) ⟨#[], args, []⟩).memory :=
  laidMetH_of_parts3 (fuel := 8) (laidMet_of_run' 8 (by kernel_rfl) (by kernel_rfl)) (by kernel_rfl) (by kernel_rfl)
theorem take_one {l : List Value} {k : Nat} {a : Value} (h : (l.drop (k * 1)).take 1 = [a]) : l[k]? = some a := by
  rw [Nat.mul_one] at h
  have := congrArg (fun z => z[0]?) h
  simp [List.getElem?_take, List.getElem?_drop] at this
  exact this
theorem lt_of_cell {w : World} {b i : Nat} {v : Value} (h : w.cell? ⟨b, i, none⟩ = some v) : b < w.heap.size := by
  rcases Nat.lt_or_ge b w.heap.size with q | q
  · exact q
  · simp [World.cell?, Array.getElem?_eq_none q] at h
theorem mon_of {W : World} (h : laidMetH Tryz.prog lawMonths W) : Mon W := by
  rw [MakeChecks.laidMetH_plain _ _ _ (by kernel_rfl)] at h
  obtain ⟨ps, ⟨g0, t0, cs0, f0, p0, q0, hg0, ht0, hv0, hd0, _⟩, _⟩ := h
  obtain rfl := Option.some.inj (gMon.symm.trans hg0)
  obtain rfl := Option.some.inj (tMon.symm.trans ht0)
  obtain ⟨xs, m1, rfl, hx1, hlen, hn3, hel⟩ := DataW.trod_array Tryz.underlying173 hd0
  have cI : Tryz.prog.cellsOf 3 = 1 := by kernel_rfl
  have hc : ∀ i, W.cell? ⟨2, i, none⟩ = cs0[i]? := World.var?_cell gMon hv0
  have hmap : xs.map (·.1) = monL.map fun v => DataW.lit (.int .i64 v) := by
    simp only [Rows.laid_tollway_clock_months, Prod.mk.injEq, DataW.agg.injEq] at hx1
    exact hx1.1.symm
  have all : ∀ (k : Nat) (v : Int), monL[k]? = some v → W.cell? ⟨2, k, none⟩ = some (.int .i64 v) := by
    intro k v hv
    have hk : k < 12 := (List.getElem?_eq_some_iff.1 hv).1
    have hx := congrArg (fun z => z[k]?) hmap
    simp only [List.getElem?_map, hv, Option.map_some] at hx
    cases hxk : xs[k]? with
    | none => rw [hxk] at hx; cases hx
    | some x =>
      rw [hxk] at hx
      have he := (hel k hk).trans hxk
      obtain ⟨n, e1, e2, _⟩ := DataW.trod_int Tryz.underlying3 he
      rw [cI] at e1
      have hn : n = v := by rw [e2] at hx; simpa using hx
      subst hn
      rw [hc, ← Array.getElem?_toList]
      exact take_one e1
  exact ⟨lt_of_cell (all 0 31 rfl), all⟩
theorem take1 (cs : List Value) (n : Nat) (h : n < cs.length) : ∃ a, (cs.drop n).take 1 = [a] := ⟨cs[n], by rw [List.drop_eq_getElem_cons h]; rfl⟩
theorem take3 (cs : List Value) (n : Nat) (h : n + 2 < cs.length) : ∃ a b c, (cs.drop n).take 3 = [a, b, c] := ⟨cs[n], cs[n + 1], cs[n + 2], by rw [List.drop_eq_getElem_cons (by omega : n < cs.length), List.drop_eq_getElem_cons (by omega : n + 1 < cs.length), List.drop_eq_getElem_cons h]; rfl⟩
structure NwZ where
  pA : Option Addr
  pc : Nat
  pts : List Pt
  lA : Option Addr
  lc : Nat
  lks : List Lk
def encNwZ (n : NwZ) : List Value := [.slice n.pA n.pts.length n.pc, .slice n.lA n.lks.length n.lc]
def NwZOk (w : World) (n : NwZ) : Prop := (Rd encPt 3 w w.heap.size n.pA n.pts ∧ Rd encLk 4 w w.heap.size n.lA n.lks) ∧ n.pts.length ≤ 9223372036854775807 ∧ n.lks.length ≤ 9223372036854775807
structure TgZ where
  n : NwZ
  sA : Option Addr
  sc : Nat
  sys : List Sy
def encTgZ (t : TgZ) : List Value := encNwZ t.n ++ [.slice t.sA t.sys.length t.sc]
def TgZOk (w : World) (t : TgZ) : Prop := TOk w t.n.pA t.n.lA t.sA t.n.pts t.n.lks t.sys ∧ t.sys.length ≤ t.sc
structure SlZ where
  pe : Int
  uA : Option Addr
  uc : Nat
  us : List Int
  dA : Option Addr
  dc : Nat
  ds : List Int
  qA : Option Addr
  qc : Nat
  qs : List Int
def encSlZ (s : SlZ) : List Value := [.int .i64 s.pe, .slice s.uA s.us.length s.uc, .slice s.dA s.ds.length s.dc, .slice s.qA s.qs.length s.qc]
def SlZOk (w : World) (s : SlZ) : Prop := (Rd encI 1 w w.heap.size s.uA s.us ∧ Rd encI 1 w w.heap.size s.dA s.ds ∧ Rd encI 1 w w.heap.size s.qA s.qs) ∧ s.qs.length ≤ 9223372036854775807
def encW (x : Wn) : List Value := [.int .i64 x.1, .int .i64 x.2.1, .int .i64 x.2.2]
/-- a configuration -/
structure CfT where
  t : TgZ
  o3 : Value
  o4 : Value
  o5 : Value
  o6 : Value
  o7 : Value
  tA : Option Addr
  tc : Nat
  ts : List Ta
  s : SlZ
  kA : Option Addr
  kc : Nat
  dcs : List Dc
  cA : Option Addr
  cc : Nat
  caps : List Cp
  o15 : Value
  o16 : Value
  o17 : Value
  o18 : Value
  o19 : Value
  o20 : Value
  o21 : Value
  o22 : Value
  o23 : Value
  o24 : Value
def encCfT (c : CfT) : List Value := encTgZ c.t ++ [c.o3, c.o4, c.o5, c.o6, c.o7, .slice c.tA c.ts.length c.tc] ++ encSlZ c.s ++ [.slice c.kA c.dcs.length c.kc, .slice c.cA c.caps.length c.cc, c.o15, c.o16, c.o17, c.o18, c.o19, c.o20, c.o21, c.o22, c.o23, c.o24]
def CfTV (c : CfT) : Value := .agg #[.slice c.t.n.pA c.t.n.pts.length c.t.n.pc, .slice c.t.n.lA c.t.n.lks.length c.t.n.lc, .slice c.t.sA c.t.sys.length c.t.sc, c.o3, c.o4, c.o5, c.o6, c.o7, .slice c.tA c.ts.length c.tc, .int .i64 c.s.pe, .slice c.s.uA c.s.us.length c.s.uc, .slice c.s.dA c.s.ds.length c.s.dc, .slice c.s.qA c.s.qs.length c.s.qc, .slice c.kA c.dcs.length c.kc, .slice c.cA c.caps.length c.cc, c.o15, c.o16, c.o17, c.o18, c.o19, c.o20, c.o21, c.o22, c.o23, c.o24]
def CfTGood (w : World) (c : CfT) : Prop := CfTop w c.t.n.pA c.t.n.lA c.t.sA c.tA c.s.uA c.s.dA c.s.qA c.kA c.cA c.t.n.pts c.t.n.lks c.t.sys c.ts c.s.us c.s.ds c.s.qs c.dcs c.caps c.t.sc
theorem u8_range {n : Int} (h : (Lit.int .u8 n).wf = true) : 0 ≤ n ∧ n ≤ 255 := by
  simp [Lit.wf, IntKind.min, IntKind.max, IntKind.signed, IntKind.bits] at h
  omega
def TrSz (w : World) (t : Trp) : Prop := TrOk w t ∧ t.id.size ≤ 1000000000000000000
section
variable {H : Type} {encH : TypeId × Value → H} {w : World} {base : Nat} {spare : Nat → Bool} {held : Bool}
theorem openInt : Opens encH Tryz.prog w base spare held 3 encI (fun _ => True) := by
  intro fuel cs x h
  obtain ⟨n, hn, _, _⟩ := DataW.trod_int Tryz.underlying3 h
  exact ⟨n, hn, trivial⟩
set_option maxRecDepth 100000 in
theorem openIv : Opens encH Tryz.prog w base spare held 73 encIv (fun _ => True) := by
  intro fuel cs x h
  obtain ⟨xs, n, rfl, hx, hlen, hxl, hf⟩ := DataW.trod_struct Tryz.underlying73 h
  have hlen2 : cs.length = 2 := hlen.trans (by kernel_rfl)
  clear hlen
  have hxl2 : xs.length = 2 := hxl
  have f0 := (hf 0 _ rfl).trans (List.getElem?_eq_getElem (by omega))
  have f1 := (hf 1 _ rfl).trans (List.getElem?_eq_getElem (by omega))
  obtain ⟨a0, h0, _, _⟩ := DataW.trod_int Tryz.underlying3 f0
  have c0 : (cs.drop 0).take 1 = [.int .i64 a0] := h0
  obtain ⟨a1, h1, _, _⟩ := DataW.trod_int Tryz.underlying3 f1
  have c1 : (cs.drop 1).take 1 = [.int .i64 a1] := h1
  have cE : cs.drop 2 = [] := List.drop_eq_nil_of_le (Nat.le_of_eq hlen2)
  refine ⟨(a0, a1), ?_, trivial⟩
  have e0 := pieces cs 0 1 1 rfl
  have e1 := pieces cs 1 1 2 rfl
  rw [e1, cE, c1, c0] at e0
  simpa [encIv] using e0
set_option maxRecDepth 100000 in
theorem openPt : Opens encH Tryz.prog w base spare held 85 encPt (fun _ => True) := by
  intro fuel cs x h
  obtain ⟨xs, n, rfl, hx, hlen, hxl, hf⟩ := DataW.trod_struct Tryz.underlying85 h
  have hlen2 : cs.length = 3 := hlen.trans (by kernel_rfl)
  clear hlen
  have hxl2 : xs.length = 3 := hxl
  have f0 := (hf 0 _ rfl).trans (List.getElem?_eq_getElem (by omega))
  have f1 := (hf 1 _ rfl).trans (List.getElem?_eq_getElem (by omega))
  have f2 := (hf 2 _ rfl).trans (List.getElem?_eq_getElem (by omega))
  obtain ⟨a, h0, _, _⟩ := DataW.trod_string Tryz.underlying9 f0
  have c0 : (cs.drop 0).take 1 = [.string a] := h0
  obtain ⟨b, h1, _, _⟩ := DataW.trod_int Tryz.underlying3 f1
  have c1 : (cs.drop 1).take 1 = [.int .i64 b] := h1
  obtain ⟨c, h2, _, _⟩ := DataW.trod_string Tryz.underlying9 f2
  have c2 : (cs.drop 2).take 1 = [.string c] := h2
  have cE : cs.drop 3 = [] := List.drop_eq_nil_of_le (Nat.le_of_eq hlen2)
  refine ⟨⟨a, b, c⟩, ?_, trivial⟩
  have e0 := pieces cs 0 1 1 rfl
  have e1 := pieces cs 1 1 2 rfl
  have e2 := pieces cs 2 1 3 rfl
  rw [e1, e2, cE, c2, c1, c0] at e0
  simpa [encPt] using e0
set_option maxRecDepth 100000 in
theorem openLk : Opens encH Tryz.prog w base spare held 149 encLk (fun _ => True) := by
  intro fuel cs x h
  obtain ⟨xs, n, rfl, hx, hlen, hxl, hf⟩ := DataW.trod_struct Tryz.underlying149 h
  have hlen2 : cs.length = 4 := hlen.trans (by kernel_rfl)
  clear hlen
  have hxl2 : xs.length = 4 := hxl
  have f0 := (hf 0 _ rfl).trans (List.getElem?_eq_getElem (by omega))
  have f1 := (hf 1 _ rfl).trans (List.getElem?_eq_getElem (by omega))
  have f2 := (hf 2 _ rfl).trans (List.getElem?_eq_getElem (by omega))
  have f3 := (hf 3 _ rfl).trans (List.getElem?_eq_getElem (by omega))
  obtain ⟨a, h0, _, _⟩ := DataW.trod_string Tryz.underlying9 f0
  have c0 : (cs.drop 0).take 1 = [.string a] := h0
  obtain ⟨b, h1, _, _⟩ := DataW.trod_string Tryz.underlying9 f1
  have c1 : (cs.drop 1).take 1 = [.string b] := h1
  obtain ⟨c, h2, _, _⟩ := DataW.trod_int Tryz.underlying3 f2
  have c2 : (cs.drop 2).take 1 = [.int .i64 c] := h2
  obtain ⟨d, h3, _, _⟩ := DataW.trod_int Tryz.underlying3 f3
  have c3 : (cs.drop 3).take 1 = [.int .i64 d] := h3
  have cE : cs.drop 4 = [] := List.drop_eq_nil_of_le (Nat.le_of_eq hlen2)
  refine ⟨⟨a, b, c, d⟩, ?_, trivial⟩
  have e0 := pieces cs 0 1 1 rfl
  have e1 := pieces cs 1 1 2 rfl
  have e2 := pieces cs 2 1 3 rfl
  have e3 := pieces cs 3 1 4 rfl
  rw [e1, e2, e3, cE, c3, c2, c1, c0] at e0
  simpa [encLk] using e0
set_option maxRecDepth 100000 in
theorem openSy : Opens encH Tryz.prog w base spare held 90 encSy (fun _ => True) := by
  intro fuel cs x h
  obtain ⟨xs, n, rfl, hx, hlen, hxl, hf⟩ := DataW.trod_struct Tryz.underlying90 h
  have hlen2 : cs.length = 3 := hlen.trans (by kernel_rfl)
  clear hlen
  have hxl2 : xs.length = 3 := hxl
  have f0 := (hf 0 _ rfl).trans (List.getElem?_eq_getElem (by omega))
  have f1 := (hf 1 _ rfl).trans (List.getElem?_eq_getElem (by omega))
  have f2 := (hf 2 _ rfl).trans (List.getElem?_eq_getElem (by omega))
  obtain ⟨a, h0, _, _⟩ := DataW.trod_string Tryz.underlying9 f0
  have c0 : (cs.drop 0).take 1 = [.string a] := h0
  obtain ⟨b, h1, _⟩ := DataW.trod_bool Tryz.underlying4 f1
  have c1 : (cs.drop 1).take 1 = [.bool b] := h1
  obtain ⟨c, h2, _, _⟩ := DataW.trod_int Tryz.underlying3 f2
  have c2 : (cs.drop 2).take 1 = [.int .i64 c] := h2
  have cE : cs.drop 3 = [] := List.drop_eq_nil_of_le (Nat.le_of_eq hlen2)
  refine ⟨⟨a, b, c⟩, ?_, trivial⟩
  have e0 := pieces cs 0 1 1 rfl
  have e1 := pieces cs 1 1 2 rfl
  have e2 := pieces cs 2 1 3 rfl
  rw [e1, e2, cE, c2, c1, c0] at e0
  simpa [encSy] using e0
set_option maxRecDepth 100000 in
theorem openW : Opens encH Tryz.prog w base spare held 97 encW (fun _ => True) := by
  intro fuel cs x h
  obtain ⟨xs, n, rfl, hx, hlen, hxl, hf⟩ := DataW.trod_struct Tryz.underlying97 h
  have hlen2 : cs.length = 3 := hlen.trans (by kernel_rfl)
  clear hlen
  have hxl2 : xs.length = 3 := hxl
  have f0 := (hf 0 _ rfl).trans (List.getElem?_eq_getElem (by omega))
  have f1 := (hf 1 _ rfl).trans (List.getElem?_eq_getElem (by omega))
  have f2 := (hf 2 _ rfl).trans (List.getElem?_eq_getElem (by omega))
  obtain ⟨a, h0, _, _⟩ := DataW.trod_int Tryz.underlying3 f0
  have c0 : (cs.drop 0).take 1 = [.int .i64 a] := h0
  obtain ⟨b, h1, _, _⟩ := DataW.trod_int Tryz.underlying3 f1
  have c1 : (cs.drop 1).take 1 = [.int .i64 b] := h1
  obtain ⟨c, h2, _, _⟩ := DataW.trod_int Tryz.underlying3 f2
  have c2 : (cs.drop 2).take 1 = [.int .i64 c] := h2
  have cE : cs.drop 3 = [] := List.drop_eq_nil_of_le (Nat.le_of_eq hlen2)
  refine ⟨(a, b, c), ?_, trivial⟩
  have e0 := pieces cs 0 1 1 rfl
  have e1 := pieces cs 1 1 2 rfl
  have e2 := pieces cs 2 1 3 rfl
  rw [e1, e2, cE, c2, c1, c0] at e0
  simpa [encW] using e0
set_option maxRecDepth 100000 in
theorem openBd : Opens encH Tryz.prog w base spare held 152 encBd (fun _ => True) := by
  intro fuel cs x h
  obtain ⟨xs, n, rfl, hx, hlen, hxl, hf⟩ := DataW.trod_struct Tryz.underlying152 h
  have hlen2 : cs.length = 4 := hlen.trans (by kernel_rfl)
  clear hlen
  have hxl2 : xs.length = 2 := hxl
  have f0 := (hf 0 _ rfl).trans (List.getElem?_eq_getElem (by omega))
  have f1 := (hf 1 _ rfl).trans (List.getElem?_eq_getElem (by omega))
  obtain ⟨a, h0, _, _⟩ := DataW.trod_string Tryz.underlying9 f0
  have c0 : (cs.drop 0).take 1 = [.string a] := h0
  obtain ⟨v, h1, o1⟩ := openW _ _ _ f1
  have c1 : (cs.drop 1).take 3 = encW v := h1
  have cE : cs.drop 4 = [] := List.drop_eq_nil_of_le (Nat.le_of_eq hlen2)
  refine ⟨⟨a, v.1, v.2.1, v.2.2⟩, ?_, trivial⟩
  have e0 := pieces cs 0 1 1 rfl
  have e1 := pieces cs 1 3 4 rfl
  rw [e1, cE, c1, c0] at e0
  simpa [encBd, encW] using e0
set_option maxRecDepth 100000 in
theorem openRt : Opens encH Tryz.prog w base spare held 80 encRt (fun _ => True) := by
  intro fuel cs x h
  obtain ⟨xs, n, rfl, hx, hlen, hxl, hf⟩ := DataW.trod_struct Tryz.underlying80 h
  have hlen2 : cs.length = 5 := hlen.trans (by kernel_rfl)
  clear hlen
  have hxl2 : xs.length = 5 := hxl
  have f0 := (hf 0 _ rfl).trans (List.getElem?_eq_getElem (by omega))
  have f1 := (hf 1 _ rfl).trans (List.getElem?_eq_getElem (by omega))
  have f2 := (hf 2 _ rfl).trans (List.getElem?_eq_getElem (by omega))
  have f3 := (hf 3 _ rfl).trans (List.getElem?_eq_getElem (by omega))
  have f4 := (hf 4 _ rfl).trans (List.getElem?_eq_getElem (by omega))
  obtain ⟨a, h0, _, _⟩ := DataW.trod_string Tryz.underlying9 f0
  have c0 : (cs.drop 0).take 1 = [.string a] := h0
  obtain ⟨b, h1, _, _⟩ := DataW.trod_string Tryz.underlying9 f1
  have c1 : (cs.drop 1).take 1 = [.string b] := h1
  obtain ⟨c, h2, _, _⟩ := DataW.trod_int Tryz.underlying3 f2
  have c2 : (cs.drop 2).take 1 = [.int .i64 c] := h2
  obtain ⟨d, h3, _, _⟩ := DataW.trod_string Tryz.underlying9 f3
  have c3 : (cs.drop 3).take 1 = [.string d] := h3
  obtain ⟨e, h4, _, _⟩ := DataW.trod_int Tryz.underlying3 f4
  have c4 : (cs.drop 4).take 1 = [.int .i64 e] := h4
  have cE : cs.drop 5 = [] := List.drop_eq_nil_of_le (Nat.le_of_eq hlen2)
  refine ⟨⟨a, b, c, d, e⟩, ?_, trivial⟩
  have e0 := pieces cs 0 1 1 rfl
  have e1 := pieces cs 1 1 2 rfl
  have e2 := pieces cs 2 1 3 rfl
  have e3 := pieces cs 3 1 4 rfl
  have e4 := pieces cs 4 1 5 rfl
  rw [e1, e2, e3, e4, cE, c4, c3, c2, c1, c0] at e0
  simpa [encRt] using e0
set_option maxRecDepth 100000 in
theorem openTa : Opens encH Tryz.prog w base spare held 77 encTa (TaOk w) := by
  intro fuel cs x h
  obtain ⟨xs, n, rfl, hx, hlen, hxl, hf⟩ := DataW.trod_struct Tryz.underlying77 h
  have hlen2 : cs.length = 4 := hlen.trans (by kernel_rfl)
  clear hlen
  have hxl2 : xs.length = 3 := hxl
  have f0 := (hf 0 _ rfl).trans (List.getElem?_eq_getElem (by omega))
  have f1 := (hf 1 _ rfl).trans (List.getElem?_eq_getElem (by omega))
  have f2 := (hf 2 _ rfl).trans (List.getElem?_eq_getElem (by omega))
  obtain ⟨v, h0, o0⟩ := openIv _ _ _ f0
  have c0 : (cs.drop 0).take 2 = encIv v := h0
  obtain ⟨bA, bc, bs, h1, k1, m1, r1, o1⟩ := open_list Tryz.underlying74 (by kernel_rfl) (by omega) encBd_ok.1 openBd f1
  have c1 : (cs.drop 2).take 1 = [.slice bA bs.length bc] := h1
  obtain ⟨rA, rc, rs, h2, k2, m2, r2, o2⟩ := open_list Tryz.underlying75 (by kernel_rfl) (by omega) encRt_ok.1 openRt f2
  have c2 : (cs.drop 3).take 1 = [.slice rA rs.length rc] := h2
  have cE : cs.drop 4 = [] := List.drop_eq_nil_of_le (Nat.le_of_eq hlen2)
  refine ⟨⟨v.1, v.2, bA, bc, bs, rA, rc, rs⟩, ?_, ⟨r1, r2, by unfold maxLen at m1; have := k1; show bs.length ≤ _; omega, by unfold maxLen at m2; have := k2; show rs.length ≤ _; omega⟩⟩
  have e0 := pieces cs 0 2 2 rfl
  have e1 := pieces cs 2 1 3 rfl
  have e2 := pieces cs 3 1 4 rfl
  rw [e1, e2, cE, c2, c1, c0] at e0
  simpa [encTa, encIv] using e0
set_option maxRecDepth 100000 in
theorem openDc : Opens encH Tryz.prog w base spare held 99 encDc (fun _ => True) := by
  intro fuel cs x h
  obtain ⟨xs, n, rfl, hx, hlen, hxl, hf⟩ := DataW.trod_struct Tryz.underlying99 h
  have hlen2 : cs.length = 10 := hlen.trans (by kernel_rfl)
  clear hlen
  have hxl2 : xs.length = 8 := hxl
  have f0 := (hf 0 _ rfl).trans (List.getElem?_eq_getElem (by omega))
  have f1 := (hf 1 _ rfl).trans (List.getElem?_eq_getElem (by omega))
  have f2 := (hf 2 _ rfl).trans (List.getElem?_eq_getElem (by omega))
  have f3 := (hf 3 _ rfl).trans (List.getElem?_eq_getElem (by omega))
  have f4 := (hf 4 _ rfl).trans (List.getElem?_eq_getElem (by omega))
  have f5 := (hf 5 _ rfl).trans (List.getElem?_eq_getElem (by omega))
  have f6 := (hf 6 _ rfl).trans (List.getElem?_eq_getElem (by omega))
  have f7 := (hf 7 _ rfl).trans (List.getElem?_eq_getElem (by omega))
  obtain ⟨a, h0, _, _⟩ := DataW.trod_string Tryz.underlying9 f0
  have c0 : (cs.drop 0).take 1 = [.string a] := h0
  obtain ⟨b, h1, _, _⟩ := DataW.trod_int Tryz.underlying3 f1
  have c1 : (cs.drop 1).take 1 = [.int .i64 b] := h1
  obtain ⟨c, h2, _, _⟩ := DataW.trod_int Tryz.underlying3 f2
  have c2 : (cs.drop 2).take 1 = [.int .i64 c] := h2
  obtain ⟨d, h3, _, _⟩ := DataW.trod_string Tryz.underlying9 f3
  have c3 : (cs.drop 3).take 1 = [.string d] := h3
  obtain ⟨e, h4, _, _⟩ := DataW.trod_string Tryz.underlying9 f4
  have c4 : (cs.drop 4).take 1 = [.string e] := h4
  obtain ⟨f, h5, _, _⟩ := DataW.trod_int Tryz.underlying3 f5
  have c5 : (cs.drop 5).take 1 = [.int .i64 f] := h5
  obtain ⟨v, h6, o6⟩ := openW _ _ _ f6
  have c6 : (cs.drop 6).take 3 = encW v := h6
  obtain ⟨g, h7, _, _⟩ := DataW.trod_int Tryz.underlying3 f7
  have c7 : (cs.drop 9).take 1 = [.int .i64 g] := h7
  have cE : cs.drop 10 = [] := List.drop_eq_nil_of_le (Nat.le_of_eq hlen2)
  refine ⟨⟨a, b, c, d, e, f, v.1, v.2.1, v.2.2, g⟩, ?_, trivial⟩
  have e0 := pieces cs 0 1 1 rfl
  have e1 := pieces cs 1 1 2 rfl
  have e2 := pieces cs 2 1 3 rfl
  have e3 := pieces cs 3 1 4 rfl
  have e4 := pieces cs 4 1 5 rfl
  have e5 := pieces cs 5 1 6 rfl
  have e6 := pieces cs 6 3 9 rfl
  have e7 := pieces cs 9 1 10 rfl
  rw [e1, e2, e3, e4, e5, e6, e7, cE, c7, c6, c5, c4, c3, c2, c1, c0] at e0
  simpa [encDc, encW] using e0
set_option maxRecDepth 100000 in
theorem openCp : Opens encH Tryz.prog w base spare held 65 encCp (fun _ => True) := by
  intro fuel cs x h
  obtain ⟨xs, n, rfl, hx, hlen, hxl, hf⟩ := DataW.trod_struct Tryz.underlying65 h
  have hlen2 : cs.length = 4 := hlen.trans (by kernel_rfl)
  clear hlen
  have hxl2 : xs.length = 4 := hxl
  have f0 := (hf 0 _ rfl).trans (List.getElem?_eq_getElem (by omega))
  have f1 := (hf 1 _ rfl).trans (List.getElem?_eq_getElem (by omega))
  have f2 := (hf 2 _ rfl).trans (List.getElem?_eq_getElem (by omega))
  have f3 := (hf 3 _ rfl).trans (List.getElem?_eq_getElem (by omega))
  obtain ⟨a, h0, _, _⟩ := DataW.trod_string Tryz.underlying9 f0
  have c0 : (cs.drop 0).take 1 = [.string a] := h0
  obtain ⟨b, h1, _, _⟩ := DataW.trod_string Tryz.underlying9 f1
  have c1 : (cs.drop 1).take 1 = [.string b] := h1
  obtain ⟨c, h2, _, _⟩ := DataW.trod_int Tryz.underlying3 f2
  have c2 : (cs.drop 2).take 1 = [.int .i64 c] := h2
  obtain ⟨d, h3, _, _⟩ := DataW.trod_int Tryz.underlying3 f3
  have c3 : (cs.drop 3).take 1 = [.int .i64 d] := h3
  have cE : cs.drop 4 = [] := List.drop_eq_nil_of_le (Nat.le_of_eq hlen2)
  refine ⟨⟨a, b, c, d⟩, ?_, trivial⟩
  have e0 := pieces cs 0 1 1 rfl
  have e1 := pieces cs 1 1 2 rfl
  have e2 := pieces cs 2 1 3 rfl
  have e3 := pieces cs 3 1 4 rfl
  rw [e1, e2, e3, cE, c3, c2, c1, c0] at e0
  simpa [encCp] using e0
set_option maxRecDepth 100000 in
theorem openNwZ : Opens encH Tryz.prog w base spare held 25 encNwZ (NwZOk w) := by
  intro fuel cs x h
  obtain ⟨xs, n, rfl, hx, hlen, hxl, hf⟩ := DataW.trod_struct Tryz.underlying25 h
  have hlen2 : cs.length = 2 := hlen.trans (by kernel_rfl)
  clear hlen
  have hxl2 : xs.length = 2 := hxl
  have f0 := (hf 0 _ rfl).trans (List.getElem?_eq_getElem (by omega))
  have f1 := (hf 1 _ rfl).trans (List.getElem?_eq_getElem (by omega))
  obtain ⟨pA, pc, pts, h0, k0, m0, r0, o0⟩ := open_list Tryz.underlying22 (by kernel_rfl) (by omega) encPt_ok.1 openPt f0
  have c0 : (cs.drop 0).take 1 = [.slice pA pts.length pc] := h0
  obtain ⟨lA, lc, lks, h1, k1, m1, r1, o1⟩ := open_list Tryz.underlying23 (by kernel_rfl) (by omega) encLk_ok.1 openLk f1
  have c1 : (cs.drop 1).take 1 = [.slice lA lks.length lc] := h1
  have cE : cs.drop 2 = [] := List.drop_eq_nil_of_le (Nat.le_of_eq hlen2)
  refine ⟨⟨pA, pc, pts, lA, lc, lks⟩, ?_, ⟨⟨r0, r1⟩, by unfold maxLen at m0; have := k0; show pts.length ≤ _; omega, by unfold maxLen at m1; have := k1; show lks.length ≤ _; omega⟩⟩
  have e0 := pieces cs 0 1 1 rfl
  have e1 := pieces cs 1 1 2 rfl
  rw [e1, cE, c1, c0] at e0
  simpa [encNwZ] using e0
set_option maxRecDepth 100000 in
theorem openTgZ : Opens encH Tryz.prog w base spare held 28 encTgZ (TgZOk w) := by
  intro fuel cs x h
  obtain ⟨xs, n, rfl, hx, hlen, hxl, hf⟩ := DataW.trod_struct Tryz.underlying28 h
  have hlen2 : cs.length = 3 := hlen.trans (by kernel_rfl)
  clear hlen
  have hxl2 : xs.length = 2 := hxl
  have f0 := (hf 0 _ rfl).trans (List.getElem?_eq_getElem (by omega))
  have f1 := (hf 1 _ rfl).trans (List.getElem?_eq_getElem (by omega))
  obtain ⟨n, h0, o0⟩ := openNwZ _ _ _ f0
  have c0 : (cs.drop 0).take 2 = encNwZ n := h0
  obtain ⟨sA, sc, sys, h1, k1, m1, r1, o1⟩ := open_list Tryz.underlying26 (by kernel_rfl) (by omega) encSy_ok.1 openSy f1
  have c1 : (cs.drop 2).take 1 = [.slice sA sys.length sc] := h1
  have cE : cs.drop 3 = [] := List.drop_eq_nil_of_le (Nat.le_of_eq hlen2)
  refine ⟨⟨n, sA, sc, sys⟩, ?_, ⟨⟨o0.1.1, o0.1.2, r1, o0.2.1, o0.2.2, by unfold maxLen at m1; have := k1; show sys.length ≤ _; omega⟩, k1⟩⟩
  have e0 := pieces cs 0 2 2 rfl
  have e1 := pieces cs 2 1 3 rfl
  rw [e1, cE, c1, c0] at e0
  simpa [encTgZ, encNwZ] using e0
set_option maxRecDepth 100000 in
theorem openSlZ : Opens encH Tryz.prog w base spare held 35 encSlZ (SlZOk w) := by
  intro fuel cs x h
  obtain ⟨xs, n, rfl, hx, hlen, hxl, hf⟩ := DataW.trod_struct Tryz.underlying35 h
  have hlen2 : cs.length = 4 := hlen.trans (by kernel_rfl)
  clear hlen
  have hxl2 : xs.length = 4 := hxl
  have f0 := (hf 0 _ rfl).trans (List.getElem?_eq_getElem (by omega))
  have f1 := (hf 1 _ rfl).trans (List.getElem?_eq_getElem (by omega))
  have f2 := (hf 2 _ rfl).trans (List.getElem?_eq_getElem (by omega))
  have f3 := (hf 3 _ rfl).trans (List.getElem?_eq_getElem (by omega))
  obtain ⟨pe, h0, _, _⟩ := DataW.trod_int Tryz.underlying3 f0
  have c0 : (cs.drop 0).take 1 = [.int .i64 pe] := h0
  obtain ⟨uA, uc, us, h1, k1, m1, r1, o1⟩ := open_list Tryz.underlying33 (by kernel_rfl) (by omega) encI_ok.1 openInt f1
  have c1 : (cs.drop 1).take 1 = [.slice uA us.length uc] := h1
  obtain ⟨dA, dc, ds, h2, k2, m2, r2, o2⟩ := open_list Tryz.underlying33 (by kernel_rfl) (by omega) encI_ok.1 openInt f2
  have c2 : (cs.drop 2).take 1 = [.slice dA ds.length dc] := h2
  obtain ⟨qA, qc, qs, h3, k3, m3, r3, o3⟩ := open_list Tryz.underlying33 (by kernel_rfl) (by omega) encI_ok.1 openInt f3
  have c3 : (cs.drop 3).take 1 = [.slice qA qs.length qc] := h3
  have cE : cs.drop 4 = [] := List.drop_eq_nil_of_le (Nat.le_of_eq hlen2)
  refine ⟨⟨pe, uA, uc, us, dA, dc, ds, qA, qc, qs⟩, ?_, ⟨⟨r1, r2, r3⟩, by unfold maxLen at m3; have := k3; show qs.length ≤ _; omega⟩⟩
  have e0 := pieces cs 0 1 1 rfl
  have e1 := pieces cs 1 1 2 rfl
  have e2 := pieces cs 2 1 3 rfl
  have e3 := pieces cs 3 1 4 rfl
  rw [e1, e2, e3, cE, c3, c2, c1, c0] at e0
  simpa [encSlZ] using e0
set_option maxRecDepth 100000 in
theorem openCfT : Opens encH Tryz.prog w base spare held 46 encCfT (CfTGood w) := by
  intro fuel cs x h
  obtain ⟨xs, n, rfl, hx, hlen, hxl, hf⟩ := DataW.trod_struct Tryz.underlying46 h
  have hlen2 : cs.length = 25 := hlen.trans (by kernel_rfl)
  clear hlen
  have hxl2 : xs.length = 18 := hxl
  have f0 := (hf 0 _ rfl).trans (List.getElem?_eq_getElem (by omega))
  have f1 := (hf 1 _ rfl).trans (List.getElem?_eq_getElem (by omega))
  have f2 := (hf 2 _ rfl).trans (List.getElem?_eq_getElem (by omega))
  have f3 := (hf 3 _ rfl).trans (List.getElem?_eq_getElem (by omega))
  have f4 := (hf 4 _ rfl).trans (List.getElem?_eq_getElem (by omega))
  have f5 := (hf 5 _ rfl).trans (List.getElem?_eq_getElem (by omega))
  have f6 := (hf 6 _ rfl).trans (List.getElem?_eq_getElem (by omega))
  have f7 := (hf 7 _ rfl).trans (List.getElem?_eq_getElem (by omega))
  have f8 := (hf 8 _ rfl).trans (List.getElem?_eq_getElem (by omega))
  have f9 := (hf 9 _ rfl).trans (List.getElem?_eq_getElem (by omega))
  have f10 := (hf 10 _ rfl).trans (List.getElem?_eq_getElem (by omega))
  have f11 := (hf 11 _ rfl).trans (List.getElem?_eq_getElem (by omega))
  have f12 := (hf 12 _ rfl).trans (List.getElem?_eq_getElem (by omega))
  have f13 := (hf 13 _ rfl).trans (List.getElem?_eq_getElem (by omega))
  have f14 := (hf 14 _ rfl).trans (List.getElem?_eq_getElem (by omega))
  have f15 := (hf 15 _ rfl).trans (List.getElem?_eq_getElem (by omega))
  have f16 := (hf 16 _ rfl).trans (List.getElem?_eq_getElem (by omega))
  have f17 := (hf 17 _ rfl).trans (List.getElem?_eq_getElem (by omega))
  obtain ⟨t, h0, o0q⟩ := openTgZ _ _ _ f0
  have c0 : (cs.drop 0).take 3 = encTgZ t := h0
  obtain ⟨o3, h1⟩ := take1 cs 3 (by omega)
  have c1 : (cs.drop 3).take 1 = [o3] := h1
  obtain ⟨o4, h2⟩ := take1 cs 4 (by omega)
  have c2 : (cs.drop 4).take 1 = [o4] := h2
  obtain ⟨o5, h3⟩ := take1 cs 5 (by omega)
  have c3 : (cs.drop 5).take 1 = [o5] := h3
  obtain ⟨o6, h4⟩ := take1 cs 6 (by omega)
  have c4 : (cs.drop 6).take 1 = [o6] := h4
  obtain ⟨o7, h5⟩ := take1 cs 7 (by omega)
  have c5 : (cs.drop 7).take 1 = [o7] := h5
  obtain ⟨tA, tc, ts, h6, k6, m6, r6, o6q⟩ := open_list Tryz.underlying32 (by kernel_rfl) (by omega) encTa_ok.1 openTa f6
  have c6 : (cs.drop 8).take 1 = [.slice tA ts.length tc] := h6
  obtain ⟨s, h7, o7q⟩ := openSlZ _ _ _ f7
  have c7 : (cs.drop 9).take 4 = encSlZ s := h7
  obtain ⟨kA, kc, dcs, h8, k8, m8, r8, o8q⟩ := open_list Tryz.underlying36 (by kernel_rfl) (by omega) encDc_ok.1 openDc f8
  have c8 : (cs.drop 13).take 1 = [.slice kA dcs.length kc] := h8
  obtain ⟨cA, cc, caps, h9, k9, m9, r9, o9q⟩ := open_list Tryz.underlying37 (by kernel_rfl) (by omega) encCp_ok.1 openCp f9
  have c9 : (cs.drop 14).take 1 = [.slice cA caps.length cc] := h9
  obtain ⟨o15, h10⟩ := take1 cs 15 (by omega)
  have c10 : (cs.drop 15).take 1 = [o15] := h10
  obtain ⟨o16, h11⟩ := take1 cs 16 (by omega)
  have c11 : (cs.drop 16).take 1 = [o16] := h11
  obtain ⟨o17, h12⟩ := take1 cs 17 (by omega)
  have c12 : (cs.drop 17).take 1 = [o17] := h12
  obtain ⟨o18, h13⟩ := take1 cs 18 (by omega)
  have c13 : (cs.drop 18).take 1 = [o18] := h13
  obtain ⟨o19, h14⟩ := take1 cs 19 (by omega)
  have c14 : (cs.drop 19).take 1 = [o19] := h14
  obtain ⟨o20, o21, o22, h15⟩ := take3 cs 20 (by omega)
  have c15 : (cs.drop 20).take 3 = [o20, o21, o22] := h15
  obtain ⟨o23, h16⟩ := take1 cs 23 (by omega)
  have c16 : (cs.drop 23).take 1 = [o23] := h16
  obtain ⟨o24, h17⟩ := take1 cs 24 (by omega)
  have c17 : (cs.drop 24).take 1 = [o24] := h17
  have cE : cs.drop 25 = [] := List.drop_eq_nil_of_le (Nat.le_of_eq hlen2)
  refine ⟨⟨t, o3, o4, o5, o6, o7, tA, tc, ts, s, kA, kc, dcs, cA, cc, caps, o15, o16, o17, o18, o19, o20, o21, o22, o23, o24⟩, ?_, ⟨o0q.1, o0q.2, r6, o6q, o7q.1.1, o7q.1.2.1, o7q.1.2.2, o7q.2, r8, r9, by unfold maxLen at m9; have := k9; show caps.length ≤ _; omega⟩⟩
  have e0 := pieces cs 0 3 3 rfl
  have e1 := pieces cs 3 1 4 rfl
  have e2 := pieces cs 4 1 5 rfl
  have e3 := pieces cs 5 1 6 rfl
  have e4 := pieces cs 6 1 7 rfl
  have e5 := pieces cs 7 1 8 rfl
  have e6 := pieces cs 8 1 9 rfl
  have e7 := pieces cs 9 4 13 rfl
  have e8 := pieces cs 13 1 14 rfl
  have e9 := pieces cs 14 1 15 rfl
  have e10 := pieces cs 15 1 16 rfl
  have e11 := pieces cs 16 1 17 rfl
  have e12 := pieces cs 17 1 18 rfl
  have e13 := pieces cs 18 1 19 rfl
  have e14 := pieces cs 19 1 20 rfl
  have e15 := pieces cs 20 3 23 rfl
  have e16 := pieces cs 23 1 24 rfl
  have e17 := pieces cs 24 1 25 rfl
  rw [e1, e2, e3, e4, e5, e6, e7, e8, e9, e10, e11, e12, e13, e14, e15, e16, e17, cE, c17, c16, c15, c14, c13, c12, c11, c10, c9, c8, c7, c6, c5, c4, c3, c2, c1, c0] at e0
  simpa [encCfT, encSlZ, encTgZ] using e0
set_option maxRecDepth 100000 in
theorem openStp : Opens encH Tryz.prog w base spare held 82 encSp (fun _ => True) := by
  intro fuel cs x h
  obtain ⟨xs, n, rfl, hx, hlen, hxl, hf⟩ := DataW.trod_struct Tryz.underlying82 h
  have hlen2 : cs.length = 3 := hlen.trans (by kernel_rfl)
  clear hlen
  have hxl2 : xs.length = 3 := hxl
  have f0 := (hf 0 _ rfl).trans (List.getElem?_eq_getElem (by omega))
  have f1 := (hf 1 _ rfl).trans (List.getElem?_eq_getElem (by omega))
  have f2 := (hf 2 _ rfl).trans (List.getElem?_eq_getElem (by omega))
  obtain ⟨a, h0, _, _⟩ := DataW.trod_string Tryz.underlying9 f0
  have c0 : (cs.drop 0).take 1 = [.string a] := h0
  obtain ⟨b, h1, _, _⟩ := DataW.trod_int Tryz.underlying3 f1
  have c1 : (cs.drop 1).take 1 = [.int .i64 b] := h1
  obtain ⟨c, h2, _, _⟩ := DataW.trod_string Tryz.underlying9 f2
  have c2 : (cs.drop 2).take 1 = [.string c] := h2
  have cE : cs.drop 3 = [] := List.drop_eq_nil_of_le (Nat.le_of_eq hlen2)
  refine ⟨⟨a, b, c⟩, ?_, trivial⟩
  have e0 := pieces cs 0 1 1 rfl
  have e1 := pieces cs 1 1 2 rfl
  have e2 := pieces cs 2 1 3 rfl
  rw [e1, e2, cE, c2, c1, c0] at e0
  simpa [encSp] using e0
set_option maxRecDepth 100000 in
theorem openTrpS : OpensS encH Tryz.prog w base spare held 53 encTr (TrSz w) := by
  intro fuel cs x h hz
  obtain ⟨xs, n, rfl, hx, hlen, hxl, hf⟩ := DataW.trod_struct Tryz.underlying53 h
  have hlen2 : cs.length = 5 := hlen.trans (by kernel_rfl)
  clear hlen
  have hxl2 : xs.length = 5 := hxl
  have f0 := (hf 0 _ rfl).trans (List.getElem?_eq_getElem (by omega))
  have f1 := (hf 1 _ rfl).trans (List.getElem?_eq_getElem (by omega))
  have f2 := (hf 2 _ rfl).trans (List.getElem?_eq_getElem (by omega))
  have f3 := (hf 3 _ rfl).trans (List.getElem?_eq_getElem (by omega))
  have f4 := (hf 4 _ rfl).trans (List.getElem?_eq_getElem (by omega))
  subst hx
  obtain ⟨i, h0, y0, _⟩ := DataW.trod_string Tryz.underlying9 f0
  have z0 : i.size ≤ reachBytes := Sized.field Tryz.underlying53 hz (i := 0) rfl (by rw [List.getElem?_map, List.getElem?_eq_getElem (by omega : 0 < xs.length), Option.map_some]) _ (by rw [y0]; simp only [DataW.weights, Array.length_toList]; exact List.mem_singleton.2 rfl)
  have c0 : (cs.drop 0).take 1 = [.string i] := h0
  obtain ⟨vh, h1, _, _⟩ := DataW.trod_string Tryz.underlying9 f1
  have c1 : (cs.drop 1).take 1 = [.string vh] := h1
  obtain ⟨sy, h2, _, _⟩ := DataW.trod_string Tryz.underlying9 f2
  have c2 : (cs.drop 2).take 1 = [.string sy] := h2
  obtain ⟨cl, h3, _, _⟩ := DataW.trod_int Tryz.underlying3 f3
  have c3 : (cs.drop 3).take 1 = [.int .i64 cl] := h3
  obtain ⟨sA, sc, ss, h4, k4, m4, r4, o4⟩ := open_list Tryz.underlying51 (by kernel_rfl) (by omega) encSp_ok.1 openStp f4
  have c4 : (cs.drop 4).take 1 = [.slice sA ss.length sc] := h4
  have cE : cs.drop 5 = [] := List.drop_eq_nil_of_le (Nat.le_of_eq hlen2)
  refine ⟨⟨i, vh, sy, cl, sA, sc, ss⟩, ?_, ⟨⟨r4, by unfold maxLen at m4; have := k4; show ss.length ≤ _; omega⟩, by have := reachBytes_lt; show i.size ≤ _; omega⟩⟩
  have e0 := pieces cs 0 1 1 rfl
  have e1 := pieces cs 1 1 2 rfl
  have e2 := pieces cs 2 1 3 rfl
  have e3 := pieces cs 3 1 4 rfl
  have e4 := pieces cs 4 1 5 rfl
  rw [e1, e2, e3, e4, cE, c4, c3, c2, c1, c0] at e0
  simpa [encTr] using e0
end
end Go.Proofs.YtelchfijalkibaaGreatDoor
