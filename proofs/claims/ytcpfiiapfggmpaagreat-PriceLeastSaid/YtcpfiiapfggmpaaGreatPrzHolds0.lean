/- What the last steps of chapter 31's statements over a configuration share. -/
import Derived.Test.YtcpfiiapfggmpaaGreatJNetRight
import Derived.Test.YtcpfiiapfggmpaaGreatRows
import Derived.ChangeMaps5
namespace Go.Proofs.YtcpfiiapfggmpaaGreat
open Go.ChangeShapes Go.WideShapes Go.ChangeAt Go.RowKit Go.Lib Go.Deep
set_option linter.unusedVariables false

theorem lawOwn : ownKnob Tryz.prog.godebug = none := by kernel_rfl
theorem lawLaid : laidOutB Tryz.prog = true := by kernel_rfl
theorem take1 (cs : List Value) (n : Nat) (h : n < cs.length) : ∃ a, (cs.drop n).take 1 = [a] := ⟨cs[n], by rw [List.drop_eq_getElem_cons h]; rfl⟩
theorem take3 (cs : List Value) (n : Nat) (h : n + 2 < cs.length) : ∃ a b c, (cs.drop n).take 3 = [a, b, c] := ⟨cs[n], cs[n + 1], cs[n + 2], by rw [List.drop_eq_getElem_cons (by omega : n < cs.length), List.drop_eq_getElem_cons (by omega : n + 1 < cs.length), List.drop_eq_getElem_cons h]; rfl⟩
structure NwZ where
  pA : Option Addr
  pc : Nat
  pts : List Pt
  lA : Option Addr
  lc : Nat
  lks : List Lk
def encNwZ (n : NwZ) : List Value := [.slice n.pA n.pts.length n.pc, .slice n.lA n.lks.length n.lc]
def NwZOk (w : World) (n : NwZ) : Prop := (Rd encPt 3 w w.heap.size n.pA n.pts ∧ Rd encLk 4 w w.heap.size n.lA n.lks) ∧ n.pts.length ≤ 9223372036854775807 ∧ n.lks.length ≤ 9223372036854775807
structure TgZ where
  n : NwZ
  sA : Option Addr
  sc : Nat
  sys : List Sy
def encTgZ (t : TgZ) : List Value := encNwZ t.n ++ [.slice t.sA t.sys.length t.sc]
def TgZOk (w : World) (t : TgZ) : Prop := TOk w t.n.pA t.n.lA t.sA t.n.pts t.n.lks t.sys ∧ t.sys.length ≤ t.sc
structure SlZ where
  pe : Int
  uA : Option Addr
  uc : Nat
  us : List Int
  dA : Option Addr
  dc : Nat
  ds : List Int
  qA : Option Addr
  qc : Nat
  qs : List Int
def encSlZ (s : SlZ) : List Value := [.int .i64 s.pe, .slice s.uA s.us.length s.uc, .slice s.dA s.ds.length s.dc, .slice s.qA s.qs.length s.qc]
def SlZOk (w : World) (s : SlZ) : Prop := (Rd encI 1 w w.heap.size s.uA s.us ∧ Rd encI 1 w w.heap.size s.dA s.ds ∧ Rd encI 1 w w.heap.size s.qA s.qs) ∧ s.qs.length ≤ 9223372036854775807
/-- a configuration -/
structure CfZ where
  t : TgZ
  o3 : Value
  o4 : Value
  o5 : Value
  o6 : Value
  o7 : Value
  tA : Option Addr
  tc : Nat
  ts : List Ta
  s : SlZ
  kA : Option Addr
  kc : Nat
  dcs : List Dc
  o14 : Value
  zA : Option Addr
  zc : Nat
  zs : List Zn
  o16 : Value
  o17 : Value
  o18 : Value
  o19 : Value
  o20 : Value
  o21 : Value
  o22 : Value
  o23 : Value
  o24 : Value
def encCfZ (c : CfZ) : List Value := encTgZ c.t ++ [c.o3, c.o4, c.o5, c.o6, c.o7, .slice c.tA c.ts.length c.tc] ++ encSlZ c.s ++ [.slice c.kA c.dcs.length c.kc, c.o14, .slice c.zA c.zs.length c.zc, c.o16, c.o17, c.o18, c.o19, c.o20, c.o21, c.o22, c.o23, c.o24]
def CfV (c : CfZ) : Value := .agg #[.slice c.t.n.pA c.t.n.pts.length c.t.n.pc, .slice c.t.n.lA c.t.n.lks.length c.t.n.lc, .slice c.t.sA c.t.sys.length c.t.sc, c.o3, c.o4, c.o5, c.o6, c.o7, .slice c.tA c.ts.length c.tc, .int .i64 c.s.pe, .slice c.s.uA c.s.us.length c.s.uc, .slice c.s.dA c.s.ds.length c.s.dc, .slice c.s.qA c.s.qs.length c.s.qc, .slice c.kA c.dcs.length c.kc, c.o14, .slice c.zA c.zs.length c.zc, c.o16, c.o17, c.o18, c.o19, c.o20, c.o21, c.o22, c.o23, c.o24]
def CfGood (w : World) (c : CfZ) : Prop := CfOk w c.t.n.pA c.t.n.lA c.t.sA c.tA c.s.uA c.s.dA c.s.qA c.kA c.zA c.t.n.pts c.t.n.lks c.t.sys c.ts c.s.us c.s.ds c.s.qs c.dcs c.zs c.t.sc
/-- a stay -/
structure Sty where
  id : ByteArray
  zn : ByteArray
  pl : ByteArray
  iv : Iv
def encSty (s : Sty) : List Value := [.string s.id, .string s.zn, .string s.pl] ++ encIv s.iv
def StyV (s : Sty) : Value := .agg #[.string s.id, .string s.zn, .string s.pl, .int .i64 s.iv.1, .int .i64 s.iv.2]
section
variable {H : Type} {encH : TypeId × Value → H} {w : World} {base : Nat} {spare : Nat → Bool} {held : Bool}
theorem openInt : Opens encH Tryz.prog w base spare held 3 encI (fun _ => True) := by
  intro fuel cs x h
  obtain ⟨n, hn, _, _⟩ := DataW.trod_int Tryz.underlying3 h
  exact ⟨n, hn, trivial⟩
set_option maxRecDepth 100000 in
theorem openIv : Opens encH Tryz.prog w base spare held 59 encIv (fun _ => True) := by
  intro fuel cs x h
  obtain ⟨xs, n, rfl, hx, hlen, hxl, hf⟩ := DataW.trod_struct Tryz.underlying59 h
  have hlen2 : cs.length = 2 := hlen.trans (by kernel_rfl)
  clear hlen
  have hxl2 : xs.length = 2 := hxl
  have f0 := (hf 0 _ rfl).trans (List.getElem?_eq_getElem (by omega))
  have f1 := (hf 1 _ rfl).trans (List.getElem?_eq_getElem (by omega))
  obtain ⟨a0, h0, _, _⟩ := DataW.trod_int Tryz.underlying3 f0
  have c0 : (cs.drop 0).take 1 = [.int .i64 a0] := h0
  obtain ⟨a1, h1, _, _⟩ := DataW.trod_int Tryz.underlying3 f1
  have c1 : (cs.drop 1).take 1 = [.int .i64 a1] := h1
  have cE : cs.drop 2 = [] := List.drop_eq_nil_of_le (Nat.le_of_eq hlen2)
  refine ⟨(a0, a1), ?_, trivial⟩
  have e0 := pieces cs 0 1 1 rfl
  have e1 := pieces cs 1 1 2 rfl
  rw [e1, cE, c1, c0] at e0
  simpa [encIv] using e0
set_option maxRecDepth 100000 in
theorem openPt : Opens encH Tryz.prog w base spare held 146 encPt (fun _ => True) := by
  intro fuel cs x h
  obtain ⟨xs, n, rfl, hx, hlen, hxl, hf⟩ := DataW.trod_struct Tryz.underlying146 h
  have hlen2 : cs.length = 3 := hlen.trans (by kernel_rfl)
  clear hlen
  have hxl2 : xs.length = 3 := hxl
  have f0 := (hf 0 _ rfl).trans (List.getElem?_eq_getElem (by omega))
  have f1 := (hf 1 _ rfl).trans (List.getElem?_eq_getElem (by omega))
  have f2 := (hf 2 _ rfl).trans (List.getElem?_eq_getElem (by omega))
  obtain ⟨a, h0, _, _⟩ := DataW.trod_string Tryz.underlying9 f0
  have c0 : (cs.drop 0).take 1 = [.string a] := h0
  obtain ⟨b, h1, _, _⟩ := DataW.trod_int Tryz.underlying3 f1
  have c1 : (cs.drop 1).take 1 = [.int .i64 b] := h1
  obtain ⟨c, h2, _, _⟩ := DataW.trod_string Tryz.underlying9 f2
  have c2 : (cs.drop 2).take 1 = [.string c] := h2
  have cE : cs.drop 3 = [] := List.drop_eq_nil_of_le (Nat.le_of_eq hlen2)
  refine ⟨⟨a, b, c⟩, ?_, trivial⟩
  have e0 := pieces cs 0 1 1 rfl
  have e1 := pieces cs 1 1 2 rfl
  have e2 := pieces cs 2 1 3 rfl
  rw [e1, e2, cE, c2, c1, c0] at e0
  simpa [encPt] using e0
set_option maxRecDepth 100000 in
theorem openLk : Opens encH Tryz.prog w base spare held 193 encLk (fun _ => True) := by
  intro fuel cs x h
  obtain ⟨xs, n, rfl, hx, hlen, hxl, hf⟩ := DataW.trod_struct Tryz.underlying193 h
  have hlen2 : cs.length = 4 := hlen.trans (by kernel_rfl)
  clear hlen
  have hxl2 : xs.length = 4 := hxl
  have f0 := (hf 0 _ rfl).trans (List.getElem?_eq_getElem (by omega))
  have f1 := (hf 1 _ rfl).trans (List.getElem?_eq_getElem (by omega))
  have f2 := (hf 2 _ rfl).trans (List.getElem?_eq_getElem (by omega))
  have f3 := (hf 3 _ rfl).trans (List.getElem?_eq_getElem (by omega))
  obtain ⟨a, h0, _, _⟩ := DataW.trod_string Tryz.underlying9 f0
  have c0 : (cs.drop 0).take 1 = [.string a] := h0
  obtain ⟨b, h1, _, _⟩ := DataW.trod_string Tryz.underlying9 f1
  have c1 : (cs.drop 1).take 1 = [.string b] := h1
  obtain ⟨c, h2, _, _⟩ := DataW.trod_int Tryz.underlying3 f2
  have c2 : (cs.drop 2).take 1 = [.int .i64 c] := h2
  obtain ⟨d, h3, _, _⟩ := DataW.trod_int Tryz.underlying3 f3
  have c3 : (cs.drop 3).take 1 = [.int .i64 d] := h3
  have cE : cs.drop 4 = [] := List.drop_eq_nil_of_le (Nat.le_of_eq hlen2)
  refine ⟨⟨a, b, c, d⟩, ?_, trivial⟩
  have e0 := pieces cs 0 1 1 rfl
  have e1 := pieces cs 1 1 2 rfl
  have e2 := pieces cs 2 1 3 rfl
  have e3 := pieces cs 3 1 4 rfl
  rw [e1, e2, e3, cE, c3, c2, c1, c0] at e0
  simpa [encLk] using e0
set_option maxRecDepth 100000 in
theorem openSy : Opens encH Tryz.prog w base spare held 141 encSy (fun _ => True) := by
  intro fuel cs x h
  obtain ⟨xs, n, rfl, hx, hlen, hxl, hf⟩ := DataW.trod_struct Tryz.underlying141 h
  have hlen2 : cs.length = 3 := hlen.trans (by kernel_rfl)
  clear hlen
  have hxl2 : xs.length = 3 := hxl
  have f0 := (hf 0 _ rfl).trans (List.getElem?_eq_getElem (by omega))
  have f1 := (hf 1 _ rfl).trans (List.getElem?_eq_getElem (by omega))
  have f2 := (hf 2 _ rfl).trans (List.getElem?_eq_getElem (by omega))
  obtain ⟨a, h0, _, _⟩ := DataW.trod_string Tryz.underlying9 f0
  have c0 : (cs.drop 0).take 1 = [.string a] := h0
  obtain ⟨b, h1, _⟩ := DataW.trod_bool Tryz.underlying4 f1
  have c1 : (cs.drop 1).take 1 = [.bool b] := h1
  obtain ⟨c, h2, _, _⟩ := DataW.trod_int Tryz.underlying3 f2
  have c2 : (cs.drop 2).take 1 = [.int .i64 c] := h2
  have cE : cs.drop 3 = [] := List.drop_eq_nil_of_le (Nat.le_of_eq hlen2)
  refine ⟨⟨a, b, c⟩, ?_, trivial⟩
  have e0 := pieces cs 0 1 1 rfl
  have e1 := pieces cs 1 1 2 rfl
  have e2 := pieces cs 2 1 3 rfl
  rw [e1, e2, cE, c2, c1, c0] at e0
  simpa [encSy] using e0
set_option maxRecDepth 100000 in
theorem openW : Opens encH Tryz.prog w base spare held 91 encW (fun _ => True) := by
  intro fuel cs x h
  obtain ⟨xs, n, rfl, hx, hlen, hxl, hf⟩ := DataW.trod_struct Tryz.underlying91 h
  have hlen2 : cs.length = 3 := hlen.trans (by kernel_rfl)
  clear hlen
  have hxl2 : xs.length = 3 := hxl
  have f0 := (hf 0 _ rfl).trans (List.getElem?_eq_getElem (by omega))
  have f1 := (hf 1 _ rfl).trans (List.getElem?_eq_getElem (by omega))
  have f2 := (hf 2 _ rfl).trans (List.getElem?_eq_getElem (by omega))
  obtain ⟨a, h0, _, _⟩ := DataW.trod_int Tryz.underlying3 f0
  have c0 : (cs.drop 0).take 1 = [.int .i64 a] := h0
  obtain ⟨b, h1, _, _⟩ := DataW.trod_int Tryz.underlying3 f1
  have c1 : (cs.drop 1).take 1 = [.int .i64 b] := h1
  obtain ⟨c, h2, _, _⟩ := DataW.trod_int Tryz.underlying3 f2
  have c2 : (cs.drop 2).take 1 = [.int .i64 c] := h2
  have cE : cs.drop 3 = [] := List.drop_eq_nil_of_le (Nat.le_of_eq hlen2)
  refine ⟨(a, b, c), ?_, trivial⟩
  have e0 := pieces cs 0 1 1 rfl
  have e1 := pieces cs 1 1 2 rfl
  have e2 := pieces cs 2 1 3 rfl
  rw [e1, e2, cE, c2, c1, c0] at e0
  simpa [encW] using e0
set_option maxRecDepth 100000 in
theorem openSp : Opens encH Tryz.prog w base spare held 228 encW (fun _ => True) := by
  intro fuel cs x h
  obtain ⟨xs, n, rfl, hx, hlen, hxl, hf⟩ := DataW.trod_struct Tryz.underlying228 h
  have hlen2 : cs.length = 3 := hlen.trans (by kernel_rfl)
  clear hlen
  have hxl2 : xs.length = 3 := hxl
  have f0 := (hf 0 _ rfl).trans (List.getElem?_eq_getElem (by omega))
  have f1 := (hf 1 _ rfl).trans (List.getElem?_eq_getElem (by omega))
  have f2 := (hf 2 _ rfl).trans (List.getElem?_eq_getElem (by omega))
  obtain ⟨a, h0, _, _⟩ := DataW.trod_int Tryz.underlying3 f0
  have c0 : (cs.drop 0).take 1 = [.int .i64 a] := h0
  obtain ⟨b, h1, _, _⟩ := DataW.trod_int Tryz.underlying3 f1
  have c1 : (cs.drop 1).take 1 = [.int .i64 b] := h1
  obtain ⟨c, h2, _, _⟩ := DataW.trod_int Tryz.underlying3 f2
  have c2 : (cs.drop 2).take 1 = [.int .i64 c] := h2
  have cE : cs.drop 3 = [] := List.drop_eq_nil_of_le (Nat.le_of_eq hlen2)
  refine ⟨(a, b, c), ?_, trivial⟩
  have e0 := pieces cs 0 1 1 rfl
  have e1 := pieces cs 1 1 2 rfl
  have e2 := pieces cs 2 1 3 rfl
  rw [e1, e2, cE, c2, c1, c0] at e0
  simpa [encW] using e0
set_option maxRecDepth 100000 in
theorem openBd : Opens encH Tryz.prog w base spare held 166 encBd (fun _ => True) := by
  intro fuel cs x h
  obtain ⟨xs, n, rfl, hx, hlen, hxl, hf⟩ := DataW.trod_struct Tryz.underlying166 h
  have hlen2 : cs.length = 4 := hlen.trans (by kernel_rfl)
  clear hlen
  have hxl2 : xs.length = 2 := hxl
  have f0 := (hf 0 _ rfl).trans (List.getElem?_eq_getElem (by omega))
  have f1 := (hf 1 _ rfl).trans (List.getElem?_eq_getElem (by omega))
  obtain ⟨a, h0, _, _⟩ := DataW.trod_string Tryz.underlying9 f0
  have c0 : (cs.drop 0).take 1 = [.string a] := h0
  obtain ⟨v, h1, o1⟩ := openW _ _ _ f1
  have c1 : (cs.drop 1).take 3 = encW v := h1
  have cE : cs.drop 4 = [] := List.drop_eq_nil_of_le (Nat.le_of_eq hlen2)
  refine ⟨⟨a, v.1, v.2.1, v.2.2⟩, ?_, trivial⟩
  have e0 := pieces cs 0 1 1 rfl
  have e1 := pieces cs 1 3 4 rfl
  rw [e1, cE, c1, c0] at e0
  simpa [encBd, encW] using e0
set_option maxRecDepth 100000 in
theorem openRt : Opens encH Tryz.prog w base spare held 107 encRt (fun _ => True) := by
  intro fuel cs x h
  obtain ⟨xs, n, rfl, hx, hlen, hxl, hf⟩ := DataW.trod_struct Tryz.underlying107 h
  have hlen2 : cs.length = 5 := hlen.trans (by kernel_rfl)
  clear hlen
  have hxl2 : xs.length = 5 := hxl
  have f0 := (hf 0 _ rfl).trans (List.getElem?_eq_getElem (by omega))
  have f1 := (hf 1 _ rfl).trans (List.getElem?_eq_getElem (by omega))
  have f2 := (hf 2 _ rfl).trans (List.getElem?_eq_getElem (by omega))
  have f3 := (hf 3 _ rfl).trans (List.getElem?_eq_getElem (by omega))
  have f4 := (hf 4 _ rfl).trans (List.getElem?_eq_getElem (by omega))
  obtain ⟨a, h0, _, _⟩ := DataW.trod_string Tryz.underlying9 f0
  have c0 : (cs.drop 0).take 1 = [.string a] := h0
  obtain ⟨b, h1, _, _⟩ := DataW.trod_string Tryz.underlying9 f1
  have c1 : (cs.drop 1).take 1 = [.string b] := h1
  obtain ⟨c, h2, _, _⟩ := DataW.trod_int Tryz.underlying3 f2
  have c2 : (cs.drop 2).take 1 = [.int .i64 c] := h2
  obtain ⟨d, h3, _, _⟩ := DataW.trod_string Tryz.underlying9 f3
  have c3 : (cs.drop 3).take 1 = [.string d] := h3
  obtain ⟨e, h4, _, _⟩ := DataW.trod_int Tryz.underlying3 f4
  have c4 : (cs.drop 4).take 1 = [.int .i64 e] := h4
  have cE : cs.drop 5 = [] := List.drop_eq_nil_of_le (Nat.le_of_eq hlen2)
  refine ⟨⟨a, b, c, d, e⟩, ?_, trivial⟩
  have e0 := pieces cs 0 1 1 rfl
  have e1 := pieces cs 1 1 2 rfl
  have e2 := pieces cs 2 1 3 rfl
  have e3 := pieces cs 3 1 4 rfl
  have e4 := pieces cs 4 1 5 rfl
  rw [e1, e2, e3, e4, cE, c4, c3, c2, c1, c0] at e0
  simpa [encRt] using e0
set_option maxRecDepth 100000 in
theorem openTa : Opens encH Tryz.prog w base spare held 104 encTa (TaOk w) := by
  intro fuel cs x h
  obtain ⟨xs, n, rfl, hx, hlen, hxl, hf⟩ := DataW.trod_struct Tryz.underlying104 h
  have hlen2 : cs.length = 4 := hlen.trans (by kernel_rfl)
  clear hlen
  have hxl2 : xs.length = 3 := hxl
  have f0 := (hf 0 _ rfl).trans (List.getElem?_eq_getElem (by omega))
  have f1 := (hf 1 _ rfl).trans (List.getElem?_eq_getElem (by omega))
  have f2 := (hf 2 _ rfl).trans (List.getElem?_eq_getElem (by omega))
  obtain ⟨v, h0, o0⟩ := openIv _ _ _ f0
  have c0 : (cs.drop 0).take 2 = encIv v := h0
  obtain ⟨bA, bc, bs, h1, k1, m1, r1, o1⟩ := open_list Tryz.underlying101 (by kernel_rfl) (by omega) encBd_ok.1 openBd f1
  have c1 : (cs.drop 2).take 1 = [.slice bA bs.length bc] := h1
  obtain ⟨rA, rc, rs, h2, k2, m2, r2, o2⟩ := open_list Tryz.underlying102 (by kernel_rfl) (by omega) encRt_ok.1 openRt f2
  have c2 : (cs.drop 3).take 1 = [.slice rA rs.length rc] := h2
  have cE : cs.drop 4 = [] := List.drop_eq_nil_of_le (Nat.le_of_eq hlen2)
  refine ⟨⟨v.1, v.2, bA, bc, bs, rA, rc, rs⟩, ?_, ⟨r1, r2, by unfold maxLen at m1; have := k1; show bs.length ≤ _; omega, by unfold maxLen at m2; have := k2; show rs.length ≤ _; omega⟩⟩
  have e0 := pieces cs 0 2 2 rfl
  have e1 := pieces cs 2 1 3 rfl
  have e2 := pieces cs 3 1 4 rfl
  rw [e1, e2, cE, c2, c1, c0] at e0
  simpa [encTa, encIv] using e0
set_option maxRecDepth 100000 in
theorem openDc : Opens encH Tryz.prog w base spare held 93 encDc (fun _ => True) := by
  intro fuel cs x h
  obtain ⟨xs, n, rfl, hx, hlen, hxl, hf⟩ := DataW.trod_struct Tryz.underlying93 h
  have hlen2 : cs.length = 10 := hlen.trans (by kernel_rfl)
  clear hlen
  have hxl2 : xs.length = 8 := hxl
  have f0 := (hf 0 _ rfl).trans (List.getElem?_eq_getElem (by omega))
  have f1 := (hf 1 _ rfl).trans (List.getElem?_eq_getElem (by omega))
  have f2 := (hf 2 _ rfl).trans (List.getElem?_eq_getElem (by omega))
  have f3 := (hf 3 _ rfl).trans (List.getElem?_eq_getElem (by omega))
  have f4 := (hf 4 _ rfl).trans (List.getElem?_eq_getElem (by omega))
  have f5 := (hf 5 _ rfl).trans (List.getElem?_eq_getElem (by omega))
  have f6 := (hf 6 _ rfl).trans (List.getElem?_eq_getElem (by omega))
  have f7 := (hf 7 _ rfl).trans (List.getElem?_eq_getElem (by omega))
  obtain ⟨a, h0, _, _⟩ := DataW.trod_string Tryz.underlying9 f0
  have c0 : (cs.drop 0).take 1 = [.string a] := h0
  obtain ⟨b, h1, _, _⟩ := DataW.trod_int Tryz.underlying3 f1
  have c1 : (cs.drop 1).take 1 = [.int .i64 b] := h1
  obtain ⟨c, h2, _, _⟩ := DataW.trod_int Tryz.underlying3 f2
  have c2 : (cs.drop 2).take 1 = [.int .i64 c] := h2
  obtain ⟨d, h3, _, _⟩ := DataW.trod_string Tryz.underlying9 f3
  have c3 : (cs.drop 3).take 1 = [.string d] := h3
  obtain ⟨e, h4, _, _⟩ := DataW.trod_string Tryz.underlying9 f4
  have c4 : (cs.drop 4).take 1 = [.string e] := h4
  obtain ⟨f, h5, _, _⟩ := DataW.trod_int Tryz.underlying3 f5
  have c5 : (cs.drop 5).take 1 = [.int .i64 f] := h5
  obtain ⟨v, h6, o6⟩ := openW _ _ _ f6
  have c6 : (cs.drop 6).take 3 = encW v := h6
  obtain ⟨g, h7, _, _⟩ := DataW.trod_int Tryz.underlying3 f7
  have c7 : (cs.drop 9).take 1 = [.int .i64 g] := h7
  have cE : cs.drop 10 = [] := List.drop_eq_nil_of_le (Nat.le_of_eq hlen2)
  refine ⟨⟨a, b, c, d, e, f, v.1, v.2.1, v.2.2, g⟩, ?_, trivial⟩
  have e0 := pieces cs 0 1 1 rfl
  have e1 := pieces cs 1 1 2 rfl
  have e2 := pieces cs 2 1 3 rfl
  have e3 := pieces cs 3 1 4 rfl
  have e4 := pieces cs 4 1 5 rfl
  have e5 := pieces cs 5 1 6 rfl
  have e6 := pieces cs 6 3 9 rfl
  have e7 := pieces cs 9 1 10 rfl
  rw [e1, e2, e3, e4, e5, e6, e7, cE, c7, c6, c5, c4, c3, c2, c1, c0] at e0
  simpa [encDc, encW] using e0
set_option maxRecDepth 100000 in
theorem openZn : Opens encH Tryz.prog w base spare held 76 encZ (ZOk w) := by
  intro fuel cs x h
  obtain ⟨xs, n, rfl, hx, hlen, hxl, hf⟩ := DataW.trod_struct Tryz.underlying76 h
  have hlen2 : cs.length = 7 := hlen.trans (by kernel_rfl)
  clear hlen
  have hxl2 : xs.length = 7 := hxl
  have f0 := (hf 0 _ rfl).trans (List.getElem?_eq_getElem (by omega))
  have f1 := (hf 1 _ rfl).trans (List.getElem?_eq_getElem (by omega))
  have f2 := (hf 2 _ rfl).trans (List.getElem?_eq_getElem (by omega))
  have f3 := (hf 3 _ rfl).trans (List.getElem?_eq_getElem (by omega))
  have f4 := (hf 4 _ rfl).trans (List.getElem?_eq_getElem (by omega))
  have f5 := (hf 5 _ rfl).trans (List.getElem?_eq_getElem (by omega))
  have f6 := (hf 6 _ rfl).trans (List.getElem?_eq_getElem (by omega))
  obtain ⟨nm, h0, _, _⟩ := DataW.trod_string Tryz.underlying9 f0
  have c0 : (cs.drop 0).take 1 = [.string nm] := h0
  obtain ⟨hA, hc, hs, h1, k1, m1, r1, o1⟩ := open_list Tryz.underlying73 (by kernel_rfl) (by omega) encW_ok.1 openW f1
  have c1 : (cs.drop 1).take 1 = [.slice hA hs.length hc] := h1
  obtain ⟨sA, sc, ss, h2, k2, m2, r2, o2⟩ := open_list Tryz.underlying74 (by kernel_rfl) (by omega) encW_ok.1 openSp f2
  have c2 : (cs.drop 2).take 1 = [.slice sA ss.length sc] := h2
  obtain ⟨a, h3, _, _⟩ := DataW.trod_int Tryz.underlying3 f3
  have c3 : (cs.drop 3).take 1 = [.int .i64 a] := h3
  obtain ⟨b, h4, _, _⟩ := DataW.trod_int Tryz.underlying3 f4
  have c4 : (cs.drop 4).take 1 = [.int .i64 b] := h4
  obtain ⟨c, h5, _, _⟩ := DataW.trod_int Tryz.underlying3 f5
  have c5 : (cs.drop 5).take 1 = [.int .i64 c] := h5
  obtain ⟨d, h6, _, _⟩ := DataW.trod_int Tryz.underlying3 f6
  have c6 : (cs.drop 6).take 1 = [.int .i64 d] := h6
  have cE : cs.drop 7 = [] := List.drop_eq_nil_of_le (Nat.le_of_eq hlen2)
  refine ⟨⟨nm, hA, hc, hs, sA, sc, ss, a, b, c, d⟩, ?_, ⟨r1, r2⟩⟩
  have e0 := pieces cs 0 1 1 rfl
  have e1 := pieces cs 1 1 2 rfl
  have e2 := pieces cs 2 1 3 rfl
  have e3 := pieces cs 3 1 4 rfl
  have e4 := pieces cs 4 1 5 rfl
  have e5 := pieces cs 5 1 6 rfl
  have e6 := pieces cs 6 1 7 rfl
  rw [e1, e2, e3, e4, e5, e6, cE, c6, c5, c4, c3, c2, c1, c0] at e0
  simpa [encZ] using e0
set_option maxRecDepth 100000 in
theorem openNwZ : Opens encH Tryz.prog w base spare held 25 encNwZ (NwZOk w) := by
  intro fuel cs x h
  obtain ⟨xs, n, rfl, hx, hlen, hxl, hf⟩ := DataW.trod_struct Tryz.underlying25 h
  have hlen2 : cs.length = 2 := hlen.trans (by kernel_rfl)
  clear hlen
  have hxl2 : xs.length = 2 := hxl
  have f0 := (hf 0 _ rfl).trans (List.getElem?_eq_getElem (by omega))
  have f1 := (hf 1 _ rfl).trans (List.getElem?_eq_getElem (by omega))
  obtain ⟨pA, pc, pts, h0, k0, m0, r0, o0⟩ := open_list Tryz.underlying22 (by kernel_rfl) (by omega) encPt_ok.1 openPt f0
  have c0 : (cs.drop 0).take 1 = [.slice pA pts.length pc] := h0
  obtain ⟨lA, lc, lks, h1, k1, m1, r1, o1⟩ := open_list Tryz.underlying23 (by kernel_rfl) (by omega) encLk_ok.1 openLk f1
  have c1 : (cs.drop 1).take 1 = [.slice lA lks.length lc] := h1
  have cE : cs.drop 2 = [] := List.drop_eq_nil_of_le (Nat.le_of_eq hlen2)
  refine ⟨⟨pA, pc, pts, lA, lc, lks⟩, ?_, ⟨⟨r0, r1⟩, by unfold maxLen at m0; have := k0; show pts.length ≤ _; omega, by unfold maxLen at m1; have := k1; show lks.length ≤ _; omega⟩⟩
  have e0 := pieces cs 0 1 1 rfl
  have e1 := pieces cs 1 1 2 rfl
  rw [e1, cE, c1, c0] at e0
  simpa [encNwZ] using e0
set_option maxRecDepth 100000 in
theorem openTgZ : Opens encH Tryz.prog w base spare held 28 encTgZ (TgZOk w) := by
  intro fuel cs x h
  obtain ⟨xs, n, rfl, hx, hlen, hxl, hf⟩ := DataW.trod_struct Tryz.underlying28 h
  have hlen2 : cs.length = 3 := hlen.trans (by kernel_rfl)
  clear hlen
  have hxl2 : xs.length = 2 := hxl
  have f0 := (hf 0 _ rfl).trans (List.getElem?_eq_getElem (by omega))
  have f1 := (hf 1 _ rfl).trans (List.getElem?_eq_getElem (by omega))
  obtain ⟨n, h0, o0⟩ := openNwZ _ _ _ f0
  have c0 : (cs.drop 0).take 2 = encNwZ n := h0
  obtain ⟨sA, sc, sys, h1, k1, m1, r1, o1⟩ := open_list Tryz.underlying26 (by kernel_rfl) (by omega) encSy_ok.1 openSy f1
  have c1 : (cs.drop 2).take 1 = [.slice sA sys.length sc] := h1
  have cE : cs.drop 3 = [] := List.drop_eq_nil_of_le (Nat.le_of_eq hlen2)
  refine ⟨⟨n, sA, sc, sys⟩, ?_, ⟨⟨o0.1.1, o0.1.2, r1, o0.2.1, o0.2.2, by unfold maxLen at m1; have := k1; show sys.length ≤ _; omega⟩, k1⟩⟩
  have e0 := pieces cs 0 2 2 rfl
  have e1 := pieces cs 2 1 3 rfl
  rw [e1, cE, c1, c0] at e0
  simpa [encTgZ, encNwZ] using e0
set_option maxRecDepth 100000 in
theorem openSlZ : Opens encH Tryz.prog w base spare held 35 encSlZ (SlZOk w) := by
  intro fuel cs x h
  obtain ⟨xs, n, rfl, hx, hlen, hxl, hf⟩ := DataW.trod_struct Tryz.underlying35 h
  have hlen2 : cs.length = 4 := hlen.trans (by kernel_rfl)
  clear hlen
  have hxl2 : xs.length = 4 := hxl
  have f0 := (hf 0 _ rfl).trans (List.getElem?_eq_getElem (by omega))
  have f1 := (hf 1 _ rfl).trans (List.getElem?_eq_getElem (by omega))
  have f2 := (hf 2 _ rfl).trans (List.getElem?_eq_getElem (by omega))
  have f3 := (hf 3 _ rfl).trans (List.getElem?_eq_getElem (by omega))
  obtain ⟨pe, h0, _, _⟩ := DataW.trod_int Tryz.underlying3 f0
  have c0 : (cs.drop 0).take 1 = [.int .i64 pe] := h0
  obtain ⟨uA, uc, us, h1, k1, m1, r1, o1⟩ := open_list Tryz.underlying33 (by kernel_rfl) (by omega) encI_ok.1 openInt f1
  have c1 : (cs.drop 1).take 1 = [.slice uA us.length uc] := h1
  obtain ⟨dA, dc, ds, h2, k2, m2, r2, o2⟩ := open_list Tryz.underlying33 (by kernel_rfl) (by omega) encI_ok.1 openInt f2
  have c2 : (cs.drop 2).take 1 = [.slice dA ds.length dc] := h2
  obtain ⟨qA, qc, qs, h3, k3, m3, r3, o3⟩ := open_list Tryz.underlying33 (by kernel_rfl) (by omega) encI_ok.1 openInt f3
  have c3 : (cs.drop 3).take 1 = [.slice qA qs.length qc] := h3
  have cE : cs.drop 4 = [] := List.drop_eq_nil_of_le (Nat.le_of_eq hlen2)
  refine ⟨⟨pe, uA, uc, us, dA, dc, ds, qA, qc, qs⟩, ?_, ⟨⟨r1, r2, r3⟩, by unfold maxLen at m3; have := k3; show qs.length ≤ _; omega⟩⟩
  have e0 := pieces cs 0 1 1 rfl
  have e1 := pieces cs 1 1 2 rfl
  have e2 := pieces cs 2 1 3 rfl
  have e3 := pieces cs 3 1 4 rfl
  rw [e1, e2, e3, cE, c3, c2, c1, c0] at e0
  simpa [encSlZ] using e0
set_option maxRecDepth 100000 in
theorem openCfZ : Opens encH Tryz.prog w base spare held 46 encCfZ (CfGood w) := by
  intro fuel cs x h
  obtain ⟨xs, n, rfl, hx, hlen, hxl, hf⟩ := DataW.trod_struct Tryz.underlying46 h
  have hlen2 : cs.length = 25 := hlen.trans (by kernel_rfl)
  clear hlen
  have hxl2 : xs.length = 18 := hxl
  have f0 := (hf 0 _ rfl).trans (List.getElem?_eq_getElem (by omega))
  have f1 := (hf 1 _ rfl).trans (List.getElem?_eq_getElem (by omega))
  have f2 := (hf 2 _ rfl).trans (List.getElem?_eq_getElem (by omega))
  have f3 := (hf 3 _ rfl).trans (List.getElem?_eq_getElem (by omega))
  have f4 := (hf 4 _ rfl).trans (List.getElem?_eq_getElem (by omega))
  have f5 := (hf 5 _ rfl).trans (List.getElem?_eq_getElem (by omega))
  have f6 := (hf 6 _ rfl).trans (List.getElem?_eq_getElem (by omega))
  have f7 := (hf 7 _ rfl).trans (List.getElem?_eq_getElem (by omega))
  have f8 := (hf 8 _ rfl).trans (List.getElem?_eq_getElem (by omega))
  have f9 := (hf 9 _ rfl).trans (List.getElem?_eq_getElem (by omega))
  have f10 := (hf 10 _ rfl).trans (List.getElem?_eq_getElem (by omega))
  have f11 := (hf 11 _ rfl).trans (List.getElem?_eq_getElem (by omega))
  have f12 := (hf 12 _ rfl).trans (List.getElem?_eq_getElem (by omega))
  have f13 := (hf 13 _ rfl).trans (List.getElem?_eq_getElem (by omega))
  have f14 := (hf 14 _ rfl).trans (List.getElem?_eq_getElem (by omega))
  have f15 := (hf 15 _ rfl).trans (List.getElem?_eq_getElem (by omega))
  have f16 := (hf 16 _ rfl).trans (List.getElem?_eq_getElem (by omega))
  have f17 := (hf 17 _ rfl).trans (List.getElem?_eq_getElem (by omega))
  obtain ⟨t, h0, o0q⟩ := openTgZ _ _ _ f0
  have c0 : (cs.drop 0).take 3 = encTgZ t := h0
  obtain ⟨o3, h1⟩ := take1 cs 3 (by omega)
  have c1 : (cs.drop 3).take 1 = [o3] := h1
  obtain ⟨o4, h2⟩ := take1 cs 4 (by omega)
  have c2 : (cs.drop 4).take 1 = [o4] := h2
  obtain ⟨o5, h3⟩ := take1 cs 5 (by omega)
  have c3 : (cs.drop 5).take 1 = [o5] := h3
  obtain ⟨o6, h4⟩ := take1 cs 6 (by omega)
  have c4 : (cs.drop 6).take 1 = [o6] := h4
  obtain ⟨o7, h5⟩ := take1 cs 7 (by omega)
  have c5 : (cs.drop 7).take 1 = [o7] := h5
  obtain ⟨tA, tc, ts, h6, k6, m6, r6, o6q⟩ := open_list Tryz.underlying32 (by kernel_rfl) (by omega) encTa_ok.1 openTa f6
  have c6 : (cs.drop 8).take 1 = [.slice tA ts.length tc] := h6
  obtain ⟨s, h7, o7q⟩ := openSlZ _ _ _ f7
  have c7 : (cs.drop 9).take 4 = encSlZ s := h7
  obtain ⟨kA, kc, dcs, h8, k8, m8, r8, o8q⟩ := open_list Tryz.underlying36 (by kernel_rfl) (by omega) encDc_ok.1 openDc f8
  have c8 : (cs.drop 13).take 1 = [.slice kA dcs.length kc] := h8
  obtain ⟨o14, h9⟩ := take1 cs 14 (by omega)
  have c9 : (cs.drop 14).take 1 = [o14] := h9
  obtain ⟨zA, zc, zs, h10, k10, m10, r10, o10q⟩ := open_list Tryz.underlying38 (by kernel_rfl) (by omega) encZ_ok.1 openZn f10
  have c10 : (cs.drop 15).take 1 = [.slice zA zs.length zc] := h10
  obtain ⟨o16, h11⟩ := take1 cs 16 (by omega)
  have c11 : (cs.drop 16).take 1 = [o16] := h11
  obtain ⟨o17, h12⟩ := take1 cs 17 (by omega)
  have c12 : (cs.drop 17).take 1 = [o17] := h12
  obtain ⟨o18, h13⟩ := take1 cs 18 (by omega)
  have c13 : (cs.drop 18).take 1 = [o18] := h13
  obtain ⟨o19, h14⟩ := take1 cs 19 (by omega)
  have c14 : (cs.drop 19).take 1 = [o19] := h14
  obtain ⟨o20, o21, o22, h15⟩ := take3 cs 20 (by omega)
  have c15 : (cs.drop 20).take 3 = [o20, o21, o22] := h15
  obtain ⟨o23, h16⟩ := take1 cs 23 (by omega)
  have c16 : (cs.drop 23).take 1 = [o23] := h16
  obtain ⟨o24, h17⟩ := take1 cs 24 (by omega)
  have c17 : (cs.drop 24).take 1 = [o24] := h17
  have cE : cs.drop 25 = [] := List.drop_eq_nil_of_le (Nat.le_of_eq hlen2)
  refine ⟨⟨t, o3, o4, o5, o6, o7, tA, tc, ts, s, kA, kc, dcs, o14, zA, zc, zs, o16, o17, o18, o19, o20, o21, o22, o23, o24⟩, ?_, ⟨o0q.1, o0q.2, r6, o6q, o7q.1.1, o7q.1.2.1, o7q.1.2.2, o7q.2, r8, r10, o10q, by unfold maxLen at m10; have := k10; show zs.length ≤ _; omega⟩⟩
  have e0 := pieces cs 0 3 3 rfl
  have e1 := pieces cs 3 1 4 rfl
  have e2 := pieces cs 4 1 5 rfl
  have e3 := pieces cs 5 1 6 rfl
  have e4 := pieces cs 6 1 7 rfl
  have e5 := pieces cs 7 1 8 rfl
  have e6 := pieces cs 8 1 9 rfl
  have e7 := pieces cs 9 4 13 rfl
  have e8 := pieces cs 13 1 14 rfl
  have e9 := pieces cs 14 1 15 rfl
  have e10 := pieces cs 15 1 16 rfl
  have e11 := pieces cs 16 1 17 rfl
  have e12 := pieces cs 17 1 18 rfl
  have e13 := pieces cs 18 1 19 rfl
  have e14 := pieces cs 19 1 20 rfl
  have e15 := pieces cs 20 3 23 rfl
  have e16 := pieces cs 23 1 24 rfl
  have e17 := pieces cs 24 1 25 rfl
  rw [e1, e2, e3, e4, e5, e6, e7, e8, e9, e10, e11, e12, e13, e14, e15, e16, e17, cE, c17, c16, c15, c14, c13, c12, c11, c10, c9, c8, c7, c6, c5, c4, c3, c2, c1, c0] at e0
  simpa [encCfZ, encSlZ, encTgZ] using e0
end
end Go.Proofs.YtcpfiiapfggmpaaGreat
