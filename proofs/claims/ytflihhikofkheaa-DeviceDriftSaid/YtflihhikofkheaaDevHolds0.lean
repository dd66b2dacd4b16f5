/- What the last steps of chapter 09's statements share. -/
import Derived.Test.YtflihhikofkheaaDevPt
import Derived.Test.YtflihhikofkheaaOpen
import Derived.Test.YtflihhikofkheaaRows
import Derived.ChangeMaps5
namespace Go.Proofs.Ytflihhikofkheaa
open Go.ChangeShapes Go.WideShapes Go.ChangeAt Go.RowKit Go.Lib Go.Deep
set_option linter.unusedVariables false

theorem lawOwn : ownKnob Try.prog.godebug = none := by kernel_rfl
theorem lawLaid : laidOutB Try.prog = true := by kernel_rfl
structure Lk where
  a : ByteArray
  b : ByteArray
  c : Int
  d : Int
def encLk (x : Lk) : List Value := [.string x.a, .string x.b, .int .i64 x.c, .int .i64 x.d]
theorem encLk_ok : Enc encLk 4 := ⟨fun _ => rfl, fun x u hu => by simp [encLk] at hu; rcases hu with rfl | rfl | rfl | rfl <;> rfl⟩
structure Pl where
  pt : ByteArray
  kind : Int
def encPl (x : Pl) : List Value := [.string x.pt, .int .i64 x.kind]
def PLV (x : Pl) : Value := .agg #[.string x.pt, .int .i64 x.kind]
def encNw (n : Nw) : List Value := [.slice n.pA n.ps.length n.pc, .slice n.lA n.ln n.lc]
section
variable {H : Type} {encH : TypeId × Value → H} {w : World} {base : Nat} {spare : Nat → Bool} {held : Bool}
set_option maxRecDepth 100000 in
theorem openIv : Opens encH Try.prog w base spare held 48 encIv (fun _ => True) := by
  intro fuel cs x h
  obtain ⟨xs, n, rfl, hx, hlen, hxl, hf⟩ := DataW.trod_struct Try.underlying48 h
  have hlen2 : cs.length = 2 := hlen.trans (by kernel_rfl)
  clear hlen
  have hxl2 : xs.length = 2 := hxl
  have f0 := (hf 0 _ rfl).trans (List.getElem?_eq_getElem (by omega))
  have f1 := (hf 1 _ rfl).trans (List.getElem?_eq_getElem (by omega))
  obtain ⟨a0, h0, _, _⟩ := DataW.trod_int Try.underlying3 f0
  have c0 : (cs.drop 0).take 1 = [.int .i64 a0] := h0
  obtain ⟨a1, h1, _, _⟩ := DataW.trod_int Try.underlying3 f1
  have c1 : (cs.drop 1).take 1 = [.int .i64 a1] := h1
  have cE : cs.drop 2 = [] := List.drop_eq_nil_of_le (Nat.le_of_eq hlen2)
  refine ⟨(a0, a1), ?_, trivial⟩
  have e0 := pieces cs 0 1 1 rfl
  have e1 := pieces cs 1 1 2 rfl
  rw [e1, cE, c1, c0] at e0
  simpa [encIv] using e0
set_option maxRecDepth 100000 in
theorem openO : Opens encH Try.prog w base spare held 57 encIv (fun _ => True) := by
  intro fuel cs x h
  obtain ⟨xs, n, rfl, hx, hlen, hxl, hf⟩ := DataW.trod_struct Try.underlying57 h
  have hlen2 : cs.length = 2 := hlen.trans (by kernel_rfl)
  clear hlen
  have hxl2 : xs.length = 2 := hxl
  have f0 := (hf 0 _ rfl).trans (List.getElem?_eq_getElem (by omega))
  have f1 := (hf 1 _ rfl).trans (List.getElem?_eq_getElem (by omega))
  obtain ⟨a0, h0, _, _⟩ := DataW.trod_int Try.underlying3 f0
  have c0 : (cs.drop 0).take 1 = [.int .i64 a0] := h0
  obtain ⟨a1, h1, _, _⟩ := DataW.trod_int Try.underlying3 f1
  have c1 : (cs.drop 1).take 1 = [.int .i64 a1] := h1
  have cE : cs.drop 2 = [] := List.drop_eq_nil_of_le (Nat.le_of_eq hlen2)
  refine ⟨(a0, a1), ?_, trivial⟩
  have e0 := pieces cs 0 1 1 rfl
  have e1 := pieces cs 1 1 2 rfl
  rw [e1, cE, c1, c0] at e0
  simpa [encIv] using e0
set_option maxRecDepth 100000 in
theorem openPt : Opens encH Try.prog w base spare held 59 encPt (fun _ => True) := by
  intro fuel cs x h
  obtain ⟨xs, n, rfl, hx, hlen, hxl, hf⟩ := DataW.trod_struct Try.underlying59 h
  have hlen2 : cs.length = 3 := hlen.trans (by kernel_rfl)
  clear hlen
  have hxl2 : xs.length = 3 := hxl
  have f0 := (hf 0 _ rfl).trans (List.getElem?_eq_getElem (by omega))
  have f1 := (hf 1 _ rfl).trans (List.getElem?_eq_getElem (by omega))
  have f2 := (hf 2 _ rfl).trans (List.getElem?_eq_getElem (by omega))
  obtain ⟨a, h0, _, _⟩ := DataW.trod_string Try.underlying9 f0
  have c0 : (cs.drop 0).take 1 = [.string a] := h0
  obtain ⟨b, h1, _, _⟩ := DataW.trod_int Try.underlying3 f1
  have c1 : (cs.drop 1).take 1 = [.int .i64 b] := h1
  obtain ⟨c, h2, _, _⟩ := DataW.trod_string Try.underlying9 f2
  have c2 : (cs.drop 2).take 1 = [.string c] := h2
  have cE : cs.drop 3 = [] := List.drop_eq_nil_of_le (Nat.le_of_eq hlen2)
  refine ⟨⟨a, b, c⟩, ?_, trivial⟩
  have e0 := pieces cs 0 1 1 rfl
  have e1 := pieces cs 1 1 2 rfl
  have e2 := pieces cs 2 1 3 rfl
  rw [e1, e2, cE, c2, c1, c0] at e0
  simpa [encPt] using e0
set_option maxRecDepth 100000 in
theorem openLk : Opens encH Try.prog w base spare held 133 encLk (fun _ => True) := by
  intro fuel cs x h
  obtain ⟨xs, n, rfl, hx, hlen, hxl, hf⟩ := DataW.trod_struct Try.underlying133 h
  have hlen2 : cs.length = 4 := hlen.trans (by kernel_rfl)
  clear hlen
  have hxl2 : xs.length = 4 := hxl
  have f0 := (hf 0 _ rfl).trans (List.getElem?_eq_getElem (by omega))
  have f1 := (hf 1 _ rfl).trans (List.getElem?_eq_getElem (by omega))
  have f2 := (hf 2 _ rfl).trans (List.getElem?_eq_getElem (by omega))
  have f3 := (hf 3 _ rfl).trans (List.getElem?_eq_getElem (by omega))
  obtain ⟨a, h0, _, _⟩ := DataW.trod_string Try.underlying9 f0
  have c0 : (cs.drop 0).take 1 = [.string a] := h0
  obtain ⟨b, h1, _, _⟩ := DataW.trod_string Try.underlying9 f1
  have c1 : (cs.drop 1).take 1 = [.string b] := h1
  obtain ⟨c, h2, _, _⟩ := DataW.trod_int Try.underlying3 f2
  have c2 : (cs.drop 2).take 1 = [.int .i64 c] := h2
  obtain ⟨d, h3, _, _⟩ := DataW.trod_int Try.underlying3 f3
  have c3 : (cs.drop 3).take 1 = [.int .i64 d] := h3
  have cE : cs.drop 4 = [] := List.drop_eq_nil_of_le (Nat.le_of_eq hlen2)
  refine ⟨⟨a, b, c, d⟩, ?_, trivial⟩
  have e0 := pieces cs 0 1 1 rfl
  have e1 := pieces cs 1 1 2 rfl
  have e2 := pieces cs 2 1 3 rfl
  have e3 := pieces cs 3 1 4 rfl
  rw [e1, e2, e3, cE, c3, c2, c1, c0] at e0
  simpa [encLk] using e0
set_option maxRecDepth 100000 in
theorem openD : Opens encH Try.prog w base spare held 36 encD (DOk w) := by
  intro fuel cs x h
  obtain ⟨xs, n, rfl, hx, hlen, hxl, hf⟩ := DataW.trod_struct Try.underlying36 h
  have hlen2 : cs.length = 6 := hlen.trans (by kernel_rfl)
  clear hlen
  have hxl2 : xs.length = 6 := hxl
  have f0 := (hf 0 _ rfl).trans (List.getElem?_eq_getElem (by omega))
  have f1 := (hf 1 _ rfl).trans (List.getElem?_eq_getElem (by omega))
  have f2 := (hf 2 _ rfl).trans (List.getElem?_eq_getElem (by omega))
  have f3 := (hf 3 _ rfl).trans (List.getElem?_eq_getElem (by omega))
  have f4 := (hf 4 _ rfl).trans (List.getElem?_eq_getElem (by omega))
  have f5 := (hf 5 _ rfl).trans (List.getElem?_eq_getElem (by omega))
  obtain ⟨nm, h0, _, _⟩ := DataW.trod_string Try.underlying9 f0
  have c0 : (cs.drop 0).take 1 = [.string nm] := h0
  obtain ⟨pt, h1, _, _⟩ := DataW.trod_string Try.underlying9 f1
  have c1 : (cs.drop 1).take 1 = [.string pt] := h1
  obtain ⟨kd, h2, _, _⟩ := DataW.trod_int Try.underlying3 f2
  have c2 : (cs.drop 2).take 1 = [.int .i64 kd] := h2
  obtain ⟨ln, h3, _, _⟩ := DataW.trod_int Try.underlying3 f3
  have c3 : (cs.drop 3).take 1 = [.int .i64 ln] := h3
  obtain ⟨oA, oc, os, h4, _, _, r4, o4⟩ := open_list Try.underlying33 (by kernel_rfl) (by omega) encIv_ok.1 openO f4
  have c4 : (cs.drop 4).take 1 = [.slice oA os.length oc] := h4
  obtain ⟨dA, dc, ds, h5, _, _, r5, o5⟩ := open_list Try.underlying34 (by kernel_rfl) (by omega) encIv_ok.1 openIv f5
  have c5 : (cs.drop 5).take 1 = [.slice dA ds.length dc] := h5
  have cE : cs.drop 6 = [] := List.drop_eq_nil_of_le (Nat.le_of_eq hlen2)
  refine ⟨⟨nm, pt, kd, ln, oA, oc, os, dA, dc, ds⟩, ?_, ⟨r4, r5⟩⟩
  have e0 := pieces cs 0 1 1 rfl
  have e1 := pieces cs 1 1 2 rfl
  have e2 := pieces cs 2 1 3 rfl
  have e3 := pieces cs 3 1 4 rfl
  have e4 := pieces cs 4 1 5 rfl
  have e5 := pieces cs 5 1 6 rfl
  rw [e1, e2, e3, e4, e5, cE, c5, c4, c3, c2, c1, c0] at e0
  simpa [encD] using e0
set_option maxRecDepth 100000 in
theorem openNw : Opens encH Try.prog w base spare held 26 encNw (NwOk w) := by
  intro fuel cs x h
  obtain ⟨xs, n, rfl, hx, hlen, hxl, hf⟩ := DataW.trod_struct Try.underlying26 h
  have hlen2 : cs.length = 2 := hlen.trans (by kernel_rfl)
  clear hlen
  have hxl2 : xs.length = 2 := hxl
  have f0 := (hf 0 _ rfl).trans (List.getElem?_eq_getElem (by omega))
  have f1 := (hf 1 _ rfl).trans (List.getElem?_eq_getElem (by omega))
  obtain ⟨pA, pc, ps, h0, _, _, r0, o0⟩ := open_list Try.underlying23 (by kernel_rfl) (by omega) encPt_ok.1 openPt f0
  have c0 : (cs.drop 0).take 1 = [.slice pA ps.length pc] := h0
  obtain ⟨lA, lc, ls, h1, _, _, r1, o1⟩ := open_list Try.underlying24 (by kernel_rfl) (by omega) encLk_ok.1 openLk f1
  have c1 : (cs.drop 1).take 1 = [.slice lA ls.length lc] := h1
  have cE : cs.drop 2 = [] := List.drop_eq_nil_of_le (Nat.le_of_eq hlen2)
  refine ⟨⟨pA, pc, ps, lA, ls.length, lc⟩, ?_, r0⟩
  have e0 := pieces cs 0 1 1 rfl
  have e1 := pieces cs 1 1 2 rfl
  rw [e1, cE, c1, c0] at e0
  simpa [encNw] using e0
set_option maxRecDepth 100000 in
theorem openPl : Opens encH Try.prog w base spare held 42 encPl (fun _ => True) := by
  intro fuel cs x h
  obtain ⟨xs, n, rfl, hx, hlen, hxl, hf⟩ := DataW.trod_struct Try.underlying42 h
  have hlen2 : cs.length = 2 := hlen.trans (by kernel_rfl)
  clear hlen
  have hxl2 : xs.length = 2 := hxl
  have f0 := (hf 0 _ rfl).trans (List.getElem?_eq_getElem (by omega))
  have f1 := (hf 1 _ rfl).trans (List.getElem?_eq_getElem (by omega))
  obtain ⟨a, h0, _, _⟩ := DataW.trod_string Try.underlying9 f0
  have c0 : (cs.drop 0).take 1 = [.string a] := h0
  obtain ⟨b, h1, _, _⟩ := DataW.trod_int Try.underlying3 f1
  have c1 : (cs.drop 1).take 1 = [.int .i64 b] := h1
  have cE : cs.drop 2 = [] := List.drop_eq_nil_of_le (Nat.le_of_eq hlen2)
  refine ⟨⟨a, b⟩, ?_, trivial⟩
  have e0 := pieces cs 0 1 1 rfl
  have e1 := pieces cs 1 1 2 rfl
  rw [e1, cE, c1, c0] at e0
  simpa [encPl] using e0
end
end Go.Proofs.Ytflihhikofkheaa
