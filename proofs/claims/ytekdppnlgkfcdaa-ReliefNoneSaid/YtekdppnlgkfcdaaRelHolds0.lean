/- What the last steps of chapter 45's statements share. -/
import Derived.Test.YtekdppnlgkfcdaaRelLawFns
import Derived.Test.YtekdppnlgkfcdaaJOpen
import Derived.Test.YtekdppnlgkfcdaaRows
import Derived.ChangeMaps5
namespace Go.Proofs.Ytekdppnlgkfcdaa
open Go.ChangeShapes Go.WideShapes Go.ChangeAt Go.RowKit Go.Lib Go.Deep
set_option linter.unusedVariables false

theorem lawOwn : ownKnob Try.prog.godebug = none := by kernel_rfl
theorem lawLaid : laidOutB Try.prog = true := by kernel_rfl
/-- devices and rules -/
structure Pn where
  dA : Option Addr
  dc : Nat
  ds : List Dv
  rA : Option Addr
  rc : Nat
  rs : List Iv
def encPn (p : Pn) : List Value := [.slice p.dA p.ds.length p.dc, .slice p.rA p.rs.length p.rc]
def PnV (p : Pn) : Value := .agg #[.slice p.dA p.ds.length p.dc, .slice p.rA p.rs.length p.rc]
def PnOk (w : World) (p : Pn) : Prop := Rd encD 6 w w.heap.size p.dA p.ds ∧ DsOk w p.ds ∧ (∀ d ∈ p.ds, d.os.length ≤ 8796093022208) ∧ Rd encIv 2 w w.heap.size p.rA p.rs ∧ p.ds.length ≤ 9223372036854775807
/-- a trip -/
structure Tp where
  id : ByteArray
  vh : ByteArray
  sy : ByteArray
  cl : Int
  sA : Option Addr
  sc : Nat
  ss : List St
def encTp (t : Tp) : List Value := [.string t.id, .string t.vh, .string t.sy, .int .i64 t.cl, .slice t.sA t.ss.length t.sc]
def TpV (t : Tp) : Value := .agg #[.string t.id, .string t.vh, .string t.sy, .int .i64 t.cl, .slice t.sA t.ss.length t.sc]
def TpOk (w : World) (t : Tp) : Prop := Rd encSt 3 w w.heap.size t.sA t.ss ∧ t.ss.length ≤ 9223372036854775807
/-- a charge -/
structure Cg where
  c : CV
  lA : Option Addr
  lc : Nat
def encCg (x : Cg) : List Value := [.string x.c.key, .string x.c.veh, .string x.c.sys, .int .i64 x.c.cls, .int .i64 x.c.tm, .slice x.lA x.c.lns.length x.lc, .int .i64 x.c.ct]
def CgV (x : Cg) : Value := CHV x.c x.lA x.lc
def CgOk (w : World) (x : Cg) : Prop := Rd encLn 2 w w.heap.size x.lA x.c.lns ∧ x.c.lns.length ≤ 9223372036854775807
section
variable {H : Type} {encH : TypeId × Value → H} {w : World} {base : Nat} {spare : Nat → Bool} {held : Bool}
theorem openInt : Opens encH Try.prog w base spare held 3 encI (fun _ => True) := by
  intro fuel cs x h
  obtain ⟨n, hn, _, _⟩ := DataW.trod_int Try.underlying3 h
  exact ⟨n, hn, trivial⟩
set_option maxRecDepth 100000 in
theorem openIv : Opens encH Try.prog w base spare held 84 encIv (fun _ => True) := by
  intro fuel cs x h
  obtain ⟨xs, n, rfl, hx, hlen, hxl, hf⟩ := DataW.trod_struct Try.underlying84 h
  have hlen2 : cs.length = 2 := hlen.trans (by kernel_rfl)
  clear hlen
  have hxl2 : xs.length = 2 := hxl
  have f0 := (hf 0 _ rfl).trans (List.getElem?_eq_getElem (by omega))
  have f1 := (hf 1 _ rfl).trans (List.getElem?_eq_getElem (by omega))
  obtain ⟨a0, h0, _, _⟩ := DataW.trod_int Try.underlying3 f0
  have c0 : (cs.drop 0).take 1 = [.int .i64 a0] := h0
  obtain ⟨a1, h1, _, _⟩ := DataW.trod_int Try.underlying3 f1
  have c1 : (cs.drop 1).take 1 = [.int .i64 a1] := h1
  have cE : cs.drop 2 = [] := List.drop_eq_nil_of_le (Nat.le_of_eq hlen2)
  refine ⟨(a0, a1), ?_, trivial⟩
  have e0 := pieces cs 0 1 1 rfl
  have e1 := pieces cs 1 1 2 rfl
  rw [e1, cE, c1, c0] at e0
  simpa [encIv] using e0
set_option maxRecDepth 100000 in
theorem openO : Opens encH Try.prog w base spare held 119 encIv (fun _ => True) := by
  intro fuel cs x h
  obtain ⟨xs, n, rfl, hx, hlen, hxl, hf⟩ := DataW.trod_struct Try.underlying119 h
  have hlen2 : cs.length = 2 := hlen.trans (by kernel_rfl)
  clear hlen
  have hxl2 : xs.length = 2 := hxl
  have f0 := (hf 0 _ rfl).trans (List.getElem?_eq_getElem (by omega))
  have f1 := (hf 1 _ rfl).trans (List.getElem?_eq_getElem (by omega))
  obtain ⟨a0, h0, _, _⟩ := DataW.trod_int Try.underlying3 f0
  have c0 : (cs.drop 0).take 1 = [.int .i64 a0] := h0
  obtain ⟨a1, h1, _, _⟩ := DataW.trod_int Try.underlying3 f1
  have c1 : (cs.drop 1).take 1 = [.int .i64 a1] := h1
  have cE : cs.drop 2 = [] := List.drop_eq_nil_of_le (Nat.le_of_eq hlen2)
  refine ⟨(a0, a1), ?_, trivial⟩
  have e0 := pieces cs 0 1 1 rfl
  have e1 := pieces cs 1 1 2 rfl
  rw [e1, cE, c1, c0] at e0
  simpa [encIv] using e0
set_option maxRecDepth 100000 in
theorem openRl : Opens encH Try.prog w base spare held 74 encIv (fun _ => True) := by
  intro fuel cs x h
  obtain ⟨xs, n, rfl, hx, hlen, hxl, hf⟩ := DataW.trod_struct Try.underlying74 h
  have hlen2 : cs.length = 2 := hlen.trans (by kernel_rfl)
  clear hlen
  have hxl2 : xs.length = 2 := hxl
  have f0 := (hf 0 _ rfl).trans (List.getElem?_eq_getElem (by omega))
  have f1 := (hf 1 _ rfl).trans (List.getElem?_eq_getElem (by omega))
  obtain ⟨a0, h0, _, _⟩ := DataW.trod_int Try.underlying3 f0
  have c0 : (cs.drop 0).take 1 = [.int .i64 a0] := h0
  obtain ⟨a1, h1, _, _⟩ := DataW.trod_int Try.underlying3 f1
  have c1 : (cs.drop 1).take 1 = [.int .i64 a1] := h1
  have cE : cs.drop 2 = [] := List.drop_eq_nil_of_le (Nat.le_of_eq hlen2)
  refine ⟨(a0, a1), ?_, trivial⟩
  have e0 := pieces cs 0 1 1 rfl
  have e1 := pieces cs 1 1 2 rfl
  rw [e1, cE, c1, c0] at e0
  simpa [encIv] using e0
set_option maxRecDepth 100000 in
theorem openLn : Opens encH Try.prog w base spare held 86 encLn (fun _ => True) := by
  intro fuel cs x h
  obtain ⟨xs, n, rfl, hx, hlen, hxl, hf⟩ := DataW.trod_struct Try.underlying86 h
  have hlen2 : cs.length = 2 := hlen.trans (by kernel_rfl)
  clear hlen
  have hxl2 : xs.length = 2 := hxl
  have f0 := (hf 0 _ rfl).trans (List.getElem?_eq_getElem (by omega))
  have f1 := (hf 1 _ rfl).trans (List.getElem?_eq_getElem (by omega))
  obtain ⟨a0, h0, _, _⟩ := DataW.trod_string Try.underlying9 f0
  have c0 : (cs.drop 0).take 1 = [.string a0] := h0
  obtain ⟨a1, h1, _, _⟩ := DataW.trod_int Try.underlying3 f1
  have c1 : (cs.drop 1).take 1 = [.int .i64 a1] := h1
  have cE : cs.drop 2 = [] := List.drop_eq_nil_of_le (Nat.le_of_eq hlen2)
  refine ⟨(a0, a1), ?_, trivial⟩
  have e0 := pieces cs 0 1 1 rfl
  have e1 := pieces cs 1 1 2 rfl
  rw [e1, cE, c1, c0] at e0
  simpa [encLn] using e0
set_option maxRecDepth 100000 in
theorem openSt : Opens encH Try.prog w base spare held 81 encSt (fun _ => True) := by
  intro fuel cs x h
  obtain ⟨xs, n, rfl, hx, hlen, hxl, hf⟩ := DataW.trod_struct Try.underlying81 h
  have hlen2 : cs.length = 3 := hlen.trans (by kernel_rfl)
  clear hlen
  have hxl2 : xs.length = 3 := hxl
  have f0 := (hf 0 _ rfl).trans (List.getElem?_eq_getElem (by omega))
  have f1 := (hf 1 _ rfl).trans (List.getElem?_eq_getElem (by omega))
  have f2 := (hf 2 _ rfl).trans (List.getElem?_eq_getElem (by omega))
  obtain ⟨a, h0, _, _⟩ := DataW.trod_string Try.underlying9 f0
  have c0 : (cs.drop 0).take 1 = [.string a] := h0
  obtain ⟨b, h1, _, _⟩ := DataW.trod_int Try.underlying3 f1
  have c1 : (cs.drop 1).take 1 = [.int .i64 b] := h1
  obtain ⟨c, h2, _, _⟩ := DataW.trod_string Try.underlying9 f2
  have c2 : (cs.drop 2).take 1 = [.string c] := h2
  have cE : cs.drop 3 = [] := List.drop_eq_nil_of_le (Nat.le_of_eq hlen2)
  refine ⟨⟨a, b, c⟩, ?_, trivial⟩
  have e0 := pieces cs 0 1 1 rfl
  have e1 := pieces cs 1 1 2 rfl
  have e2 := pieces cs 2 1 3 rfl
  rw [e1, e2, cE, c2, c1, c0] at e0
  simpa [encSt] using e0
set_option maxRecDepth 100000 in
theorem openD : OpensS encH Try.prog w base spare held 79 encD (fun d => DOk w d ∧ d.os.length ≤ 8796093022208) := by
  intro fuel cs x h hz
  obtain ⟨xs, n, rfl, hx, hlen, hxl, hf⟩ := DataW.trod_struct Try.underlying79 h
  have hlen2 : cs.length = 6 := hlen.trans (by kernel_rfl)
  clear hlen
  have hxl2 : xs.length = 6 := hxl
  have f0 := (hf 0 _ rfl).trans (List.getElem?_eq_getElem (by omega))
  have f1 := (hf 1 _ rfl).trans (List.getElem?_eq_getElem (by omega))
  have f2 := (hf 2 _ rfl).trans (List.getElem?_eq_getElem (by omega))
  have f3 := (hf 3 _ rfl).trans (List.getElem?_eq_getElem (by omega))
  have f4 := (hf 4 _ rfl).trans (List.getElem?_eq_getElem (by omega))
  have f5 := (hf 5 _ rfl).trans (List.getElem?_eq_getElem (by omega))
  subst hx
  obtain ⟨nm, h0, _, _⟩ := DataW.trod_string Try.underlying9 f0
  have c0 : (cs.drop 0).take 1 = [.string nm] := h0
  obtain ⟨pt, h1, _, _⟩ := DataW.trod_string Try.underlying9 f1
  have c1 : (cs.drop 1).take 1 = [.string pt] := h1
  obtain ⟨kd, h2, _, _⟩ := DataW.trod_int Try.underlying3 f2
  have c2 : (cs.drop 2).take 1 = [.int .i64 kd] := h2
  obtain ⟨ln, h3, _, _⟩ := DataW.trod_int Try.underlying3 f3
  have c3 : (cs.drop 3).take 1 = [.int .i64 ln] := h3
  obtain ⟨oA, oc, os, h4, k4, m4, r4, o4, z4⟩ := open_listS Try.underlying76 (by kernel_rfl) (by omega) encIv_ok.1 openO.s f4 (Sized.field Try.underlying79 hz (i := 4) rfl (by rw [List.getElem?_map, List.getElem?_eq_getElem (by omega : 4 < xs.length), Option.map_some]))
  have c4 : (cs.drop 4).take 1 = [.slice oA os.length oc] := h4
  obtain ⟨dA, dc, ds, h5, k5, m5, r5, o5⟩ := open_list Try.underlying77 (by kernel_rfl) (by omega) encIv_ok.1 openIv f5
  have c5 : (cs.drop 5).take 1 = [.slice dA ds.length dc] := h5
  have cE : cs.drop 6 = [] := List.drop_eq_nil_of_le (Nat.le_of_eq hlen2)
  refine ⟨⟨nm, pt, kd, ln, oA, oc, os, dA, dc, ds⟩, ?_, ⟨⟨r4, r5⟩, by have q : Program.bytesOf Try.prog 119 = 16 := (by kernel_rfl); rw [q] at z4; have := reachBytes_lt; show os.length ≤ _; omega⟩⟩
  have e0 := pieces cs 0 1 1 rfl
  have e1 := pieces cs 1 1 2 rfl
  have e2 := pieces cs 2 1 3 rfl
  have e3 := pieces cs 3 1 4 rfl
  have e4 := pieces cs 4 1 5 rfl
  have e5 := pieces cs 5 1 6 rfl
  rw [e1, e2, e3, e4, e5, cE, c5, c4, c3, c2, c1, c0] at e0
  simpa [encD] using e0
set_option maxRecDepth 100000 in
theorem openPn : OpensS encH Try.prog w base spare held 32 encPn (PnOk w) := by
  intro fuel cs x h hz
  obtain ⟨xs, n, rfl, hx, hlen, hxl, hf⟩ := DataW.trod_struct Try.underlying32 h
  have hlen2 : cs.length = 2 := hlen.trans (by kernel_rfl)
  clear hlen
  have hxl2 : xs.length = 2 := hxl
  have f0 := (hf 0 _ rfl).trans (List.getElem?_eq_getElem (by omega))
  have f1 := (hf 1 _ rfl).trans (List.getElem?_eq_getElem (by omega))
  subst hx
  obtain ⟨dA, dc, ds, h0, k0, m0, r0, o0, z0⟩ := open_listS Try.underlying30 (by kernel_rfl) (by omega) encD_ok.1 openD f0 (Sized.field Try.underlying32 hz (i := 0) rfl (by rw [List.getElem?_map, List.getElem?_eq_getElem (by omega : 0 < xs.length), Option.map_some]))
  have c0 : (cs.drop 0).take 1 = [.slice dA ds.length dc] := h0
  obtain ⟨rA, rc, rs, h1, k1, m1, r1, o1⟩ := open_list Try.underlying22 (by kernel_rfl) (by omega) encIv_ok.1 openRl f1
  have c1 : (cs.drop 1).take 1 = [.slice rA rs.length rc] := h1
  have cE : cs.drop 2 = [] := List.drop_eq_nil_of_le (Nat.le_of_eq hlen2)
  refine ⟨⟨dA, dc, ds, rA, rc, rs⟩, ?_, ⟨r0, fun d hd => (o0 d hd).1, fun d hd => (o0 d hd).2, r1, by unfold maxLen at m0; have := k0; show ds.length ≤ _; omega⟩⟩
  have e0 := pieces cs 0 1 1 rfl
  have e1 := pieces cs 1 1 2 rfl
  rw [e1, cE, c1, c0] at e0
  simpa [encPn] using e0
set_option maxRecDepth 100000 in
theorem openTp : Opens encH Try.prog w base spare held 35 encTp (TpOk w) := by
  intro fuel cs x h
  obtain ⟨xs, n, rfl, hx, hlen, hxl, hf⟩ := DataW.trod_struct Try.underlying35 h
  have hlen2 : cs.length = 5 := hlen.trans (by kernel_rfl)
  clear hlen
  have hxl2 : xs.length = 5 := hxl
  have f0 := (hf 0 _ rfl).trans (List.getElem?_eq_getElem (by omega))
  have f1 := (hf 1 _ rfl).trans (List.getElem?_eq_getElem (by omega))
  have f2 := (hf 2 _ rfl).trans (List.getElem?_eq_getElem (by omega))
  have f3 := (hf 3 _ rfl).trans (List.getElem?_eq_getElem (by omega))
  have f4 := (hf 4 _ rfl).trans (List.getElem?_eq_getElem (by omega))
  obtain ⟨i, h0, _, _⟩ := DataW.trod_string Try.underlying9 f0
  have c0 : (cs.drop 0).take 1 = [.string i] := h0
  obtain ⟨vh, h1, _, _⟩ := DataW.trod_string Try.underlying9 f1
  have c1 : (cs.drop 1).take 1 = [.string vh] := h1
  obtain ⟨sy, h2, _, _⟩ := DataW.trod_string Try.underlying9 f2
  have c2 : (cs.drop 2).take 1 = [.string sy] := h2
  obtain ⟨cl, h3, _, _⟩ := DataW.trod_int Try.underlying3 f3
  have c3 : (cs.drop 3).take 1 = [.int .i64 cl] := h3
  obtain ⟨sA, sc, ss, h4, k4, m4, r4, o4⟩ := open_list Try.underlying33 (by kernel_rfl) (by omega) encSt_ok.1 openSt f4
  have c4 : (cs.drop 4).take 1 = [.slice sA ss.length sc] := h4
  have cE : cs.drop 5 = [] := List.drop_eq_nil_of_le (Nat.le_of_eq hlen2)
  refine ⟨⟨i, vh, sy, cl, sA, sc, ss⟩, ?_, ⟨r4, by unfold maxLen at m4; have := k4; show ss.length ≤ _; omega⟩⟩
  have e0 := pieces cs 0 1 1 rfl
  have e1 := pieces cs 1 1 2 rfl
  have e2 := pieces cs 2 1 3 rfl
  have e3 := pieces cs 3 1 4 rfl
  have e4 := pieces cs 4 1 5 rfl
  rw [e1, e2, e3, e4, cE, c4, c3, c2, c1, c0] at e0
  simpa [encTp] using e0
set_option maxRecDepth 100000 in
theorem openCg : Opens encH Try.prog w base spare held 64 encCg (CgOk w) := by
  intro fuel cs x h
  obtain ⟨xs, n, rfl, hx, hlen, hxl, hf⟩ := DataW.trod_struct Try.underlying64 h
  have hlen2 : cs.length = 7 := hlen.trans (by kernel_rfl)
  clear hlen
  have hxl2 : xs.length = 7 := hxl
  have f0 := (hf 0 _ rfl).trans (List.getElem?_eq_getElem (by omega))
  have f1 := (hf 1 _ rfl).trans (List.getElem?_eq_getElem (by omega))
  have f2 := (hf 2 _ rfl).trans (List.getElem?_eq_getElem (by omega))
  have f3 := (hf 3 _ rfl).trans (List.getElem?_eq_getElem (by omega))
  have f4 := (hf 4 _ rfl).trans (List.getElem?_eq_getElem (by omega))
  have f5 := (hf 5 _ rfl).trans (List.getElem?_eq_getElem (by omega))
  have f6 := (hf 6 _ rfl).trans (List.getElem?_eq_getElem (by omega))
  obtain ⟨key, h0, _, _⟩ := DataW.trod_string Try.underlying9 f0
  have c0 : (cs.drop 0).take 1 = [.string key] := h0
  obtain ⟨veh, h1, _, _⟩ := DataW.trod_string Try.underlying9 f1
  have c1 : (cs.drop 1).take 1 = [.string veh] := h1
  obtain ⟨sys, h2, _, _⟩ := DataW.trod_string Try.underlying9 f2
  have c2 : (cs.drop 2).take 1 = [.string sys] := h2
  obtain ⟨cls, h3, _, _⟩ := DataW.trod_int Try.underlying3 f3
  have c3 : (cs.drop 3).take 1 = [.int .i64 cls] := h3
  obtain ⟨tm, h4, _, _⟩ := DataW.trod_int Try.underlying3 f4
  have c4 : (cs.drop 4).take 1 = [.int .i64 tm] := h4
  obtain ⟨lA, lc, lns, h5, k5, m5, r5, o5⟩ := open_list Try.underlying62 (by kernel_rfl) (by omega) encLn_ok.1 openLn f5
  have c5 : (cs.drop 5).take 1 = [.slice lA lns.length lc] := h5
  obtain ⟨ct, h6, _, _⟩ := DataW.trod_int Try.underlying3 f6
  have c6 : (cs.drop 6).take 1 = [.int .i64 ct] := h6
  have cE : cs.drop 7 = [] := List.drop_eq_nil_of_le (Nat.le_of_eq hlen2)
  refine ⟨⟨⟨key, veh, sys, cls, tm, lns, ct⟩, lA, lc⟩, ?_, ⟨r5, by unfold maxLen at m5; have := k5; show lns.length ≤ _; omega⟩⟩
  have e0 := pieces cs 0 1 1 rfl
  have e1 := pieces cs 1 1 2 rfl
  have e2 := pieces cs 2 1 3 rfl
  have e3 := pieces cs 3 1 4 rfl
  have e4 := pieces cs 4 1 5 rfl
  have e5 := pieces cs 5 1 6 rfl
  have e6 := pieces cs 6 1 7 rfl
  rw [e1, e2, e3, e4, e5, e6, cE, c6, c5, c4, c3, c2, c1, c0] at e0
  simpa [encCg] using e0
end
end Go.Proofs.Ytekdppnlgkfcdaa
