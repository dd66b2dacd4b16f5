/- What the last steps of chapter 33's statements share. -/
import Derived.Test.YtfdnciijibiodaaAccEnc
import Derived.Test.YtfdnciijibiodaaOpen
import Derived.Test.YtfdnciijibiodaaRows
import Derived.ChangeMaps5
namespace Go.Proofs.Ytfdnciijibiodaa
open Go.ChangeShapes Go.WideShapes Go.ChangeAt Go.RowKit Go.Lib Go.Deep
set_option linter.unusedVariables false

theorem lawOwn : ownKnob Try.prog.godebug = none := by kernel_rfl
theorem lawLaid : laidOutB Try.prog = true := by kernel_rfl
structure Lv where
  a : ByteArray
  b : ByteArray
  t : Int
def encLv (x : Lv) : List Value := [.string x.a, .string x.b, .int .i64 x.t]
def LvV (x : Lv) : Value := .agg #[.string x.a, .string x.b, .int .i64 x.t]
structure Rf where
  a : Int
  b : Int
  c : Int
  d : Int
def encRf (x : Rf) : List Value := [.int .i64 x.a, .int .i64 x.b, .int .i64 x.c, .int .i64 x.d]
theorem encRf_ok : Enc encRf 4 := ⟨fun _ => rfl, fun x u hu => by simp [encRf] at hu; rcases hu with rfl | rfl | rfl | rfl <;> rfl⟩
section
variable {H : Type} {encH : TypeId × Value → H} {w : World} {base : Nat} {spare : Nat → Bool} {held : Bool}
set_option maxRecDepth 100000 in
theorem openIv : Opens encH Try.prog w base spare held 41 encIv (fun _ => True) := by
  intro fuel cs x h
  obtain ⟨xs, n, rfl, hx, hlen, hxl, hf⟩ := DataW.trod_struct Try.underlying41 h
  have hlen2 : cs.length = 2 := hlen.trans (by kernel_rfl)
  clear hlen
  have hxl2 : xs.length = 2 := hxl
  have f0 := (hf 0 _ rfl).trans (List.getElem?_eq_getElem (by omega))
  have f1 := (hf 1 _ rfl).trans (List.getElem?_eq_getElem (by omega))
  obtain ⟨a0, h0, _, _⟩ := DataW.trod_int Try.underlying3 f0
  have c0 : (cs.drop 0).take 1 = [.int .i64 a0] := h0
  obtain ⟨a1, h1, _, _⟩ := DataW.trod_int Try.underlying3 f1
  have c1 : (cs.drop 1).take 1 = [.int .i64 a1] := h1
  have cE : cs.drop 2 = [] := List.drop_eq_nil_of_le (Nat.le_of_eq hlen2)
  refine ⟨(a0, a1), ?_, trivial⟩
  have e0 := pieces cs 0 1 1 rfl
  have e1 := pieces cs 1 1 2 rfl
  rw [e1, cE, c1, c0] at e0
  simpa [encIv] using e0
set_option maxRecDepth 100000 in
theorem openOw : Opens encH Try.prog w base spare held 43 encOw (fun _ => True) := by
  intro fuel cs x h
  obtain ⟨xs, n, rfl, hx, hlen, hxl, hf⟩ := DataW.trod_struct Try.underlying43 h
  have hlen2 : cs.length = 4 := hlen.trans (by kernel_rfl)
  clear hlen
  have hxl2 : xs.length = 3 := hxl
  have f0 := (hf 0 _ rfl).trans (List.getElem?_eq_getElem (by omega))
  have f1 := (hf 1 _ rfl).trans (List.getElem?_eq_getElem (by omega))
  have f2 := (hf 2 _ rfl).trans (List.getElem?_eq_getElem (by omega))
  obtain ⟨tg, h0, _, _⟩ := DataW.trod_string Try.underlying9 f0
  have c0 : (cs.drop 0).take 1 = [.string tg] := h0
  obtain ⟨pl, h1, _, _⟩ := DataW.trod_string Try.underlying9 f1
  have c1 : (cs.drop 1).take 1 = [.string pl] := h1
  obtain ⟨iv, h2, o2⟩ := openIv _ _ _ f2
  have c2 : (cs.drop 2).take 2 = encIv iv := h2
  have cE : cs.drop 4 = [] := List.drop_eq_nil_of_le (Nat.le_of_eq hlen2)
  refine ⟨⟨tg, pl, iv.1, iv.2⟩, ?_, trivial⟩
  have e0 := pieces cs 0 1 1 rfl
  have e1 := pieces cs 1 1 2 rfl
  have e2 := pieces cs 2 2 4 rfl
  rw [e1, e2, cE, c2, c1, c0] at e0
  simpa [encOw, encIv] using e0
set_option maxRecDepth 100000 in
theorem openRf : Opens encH Try.prog w base spare held 37 encRf (fun _ => True) := by
  intro fuel cs x h
  obtain ⟨xs, n, rfl, hx, hlen, hxl, hf⟩ := DataW.trod_struct Try.underlying37 h
  have hlen2 : cs.length = 4 := hlen.trans (by kernel_rfl)
  clear hlen
  have hxl2 : xs.length = 4 := hxl
  have f0 := (hf 0 _ rfl).trans (List.getElem?_eq_getElem (by omega))
  have f1 := (hf 1 _ rfl).trans (List.getElem?_eq_getElem (by omega))
  have f2 := (hf 2 _ rfl).trans (List.getElem?_eq_getElem (by omega))
  have f3 := (hf 3 _ rfl).trans (List.getElem?_eq_getElem (by omega))
  obtain ⟨a0, h0, _, _⟩ := DataW.trod_int Try.underlying3 f0
  have c0 : (cs.drop 0).take 1 = [.int .i64 a0] := h0
  obtain ⟨a1, h1, _, _⟩ := DataW.trod_int Try.underlying3 f1
  have c1 : (cs.drop 1).take 1 = [.int .i64 a1] := h1
  obtain ⟨a2, h2, _, _⟩ := DataW.trod_int Try.underlying3 f2
  have c2 : (cs.drop 2).take 1 = [.int .i64 a2] := h2
  obtain ⟨a3, h3, _, _⟩ := DataW.trod_int Try.underlying3 f3
  have c3 : (cs.drop 3).take 1 = [.int .i64 a3] := h3
  have cE : cs.drop 4 = [] := List.drop_eq_nil_of_le (Nat.le_of_eq hlen2)
  refine ⟨⟨a0, a1, a2, a3⟩, ?_, trivial⟩
  have e0 := pieces cs 0 1 1 rfl
  have e1 := pieces cs 1 1 2 rfl
  have e2 := pieces cs 2 1 3 rfl
  have e3 := pieces cs 3 1 4 rfl
  rw [e1, e2, e3, cE, c3, c2, c1, c0] at e0
  simpa [encRf] using e0
set_option maxRecDepth 100000 in
theorem openAc : Opens encH Try.prog w base spare held 39 encAc (AOk w) := by
  intro fuel cs x h
  obtain ⟨xs, n, rfl, hx, hlen, hxl, hf⟩ := DataW.trod_struct Try.underlying39 h
  have hlen2 : cs.length = 9 := hlen.trans (by kernel_rfl)
  clear hlen
  have hxl2 : xs.length = 6 := hxl
  have f0 := (hf 0 _ rfl).trans (List.getElem?_eq_getElem (by omega))
  have f1 := (hf 1 _ rfl).trans (List.getElem?_eq_getElem (by omega))
  have f2 := (hf 2 _ rfl).trans (List.getElem?_eq_getElem (by omega))
  have f3 := (hf 3 _ rfl).trans (List.getElem?_eq_getElem (by omega))
  have f4 := (hf 4 _ rfl).trans (List.getElem?_eq_getElem (by omega))
  have f5 := (hf 5 _ rfl).trans (List.getElem?_eq_getElem (by omega))
  obtain ⟨nm, h0, _, _⟩ := DataW.trod_string Try.underlying9 f0
  have c0 : (cs.drop 0).take 1 = [.string nm] := h0
  obtain ⟨ag, h1, _, _⟩ := DataW.trod_string Try.underlying9 f1
  have c1 : (cs.drop 1).take 1 = [.string ag] := h1
  obtain ⟨pre, h2, _⟩ := DataW.trod_bool Try.underlying4 f2
  have c2 : (cs.drop 2).take 1 = [.bool pre] := h2
  obtain ⟨oA, oc, os, h3, k3, m3, r3, o3⟩ := open_list Try.underlying35 (by kernel_rfl) (by omega) encOw_ok.1 openOw f3
  have c3 : (cs.drop 3).take 1 = [.slice oA os.length oc] := h3
  obtain ⟨rf, h4, o4⟩ := openRf _ _ _ f4
  have c4 : (cs.drop 4).take 4 = encRf rf := h4
  obtain ⟨ex, h5, _⟩ := DataW.trod_bool Try.underlying4 f5
  have c5 : (cs.drop 8).take 1 = [.bool ex] := h5
  have cE : cs.drop 9 = [] := List.drop_eq_nil_of_le (Nat.le_of_eq hlen2)
  refine ⟨⟨⟨nm, ag, pre, os, rf.a, rf.b, rf.c, rf.d, ex⟩, oA, oc⟩, ?_, ⟨r3, k3, by have := m3; unfold maxLen at this; omega⟩⟩
  have e0 := pieces cs 0 1 1 rfl
  have e1 := pieces cs 1 1 2 rfl
  have e2 := pieces cs 2 1 3 rfl
  have e3 := pieces cs 3 1 4 rfl
  have e4 := pieces cs 4 4 8 rfl
  have e5 := pieces cs 8 1 9 rfl
  rw [e1, e2, e3, e4, e5, cE, c5, c4, c3, c2, c1, c0] at e0
  simpa [encAc, encRf] using e0
set_option maxRecDepth 100000 in
theorem openLv : Opens encH Try.prog w base spare held 24 encLv (fun _ => True) := by
  intro fuel cs x h
  obtain ⟨xs, n, rfl, hx, hlen, hxl, hf⟩ := DataW.trod_struct Try.underlying24 h
  have hlen2 : cs.length = 3 := hlen.trans (by kernel_rfl)
  clear hlen
  have hxl2 : xs.length = 3 := hxl
  have f0 := (hf 0 _ rfl).trans (List.getElem?_eq_getElem (by omega))
  have f1 := (hf 1 _ rfl).trans (List.getElem?_eq_getElem (by omega))
  have f2 := (hf 2 _ rfl).trans (List.getElem?_eq_getElem (by omega))
  obtain ⟨a, h0, _, _⟩ := DataW.trod_string Try.underlying9 f0
  have c0 : (cs.drop 0).take 1 = [.string a] := h0
  obtain ⟨b, h1, _, _⟩ := DataW.trod_string Try.underlying9 f1
  have c1 : (cs.drop 1).take 1 = [.string b] := h1
  obtain ⟨t, h2, _, _⟩ := DataW.trod_int Try.underlying3 f2
  have c2 : (cs.drop 2).take 1 = [.int .i64 t] := h2
  have cE : cs.drop 3 = [] := List.drop_eq_nil_of_le (Nat.le_of_eq hlen2)
  refine ⟨⟨a, b, t⟩, ?_, trivial⟩
  have e0 := pieces cs 0 1 1 rfl
  have e1 := pieces cs 1 1 2 rfl
  have e2 := pieces cs 2 1 3 rfl
  rw [e1, e2, cE, c2, c1, c0] at e0
  simpa [encLv] using e0
end
end Go.Proofs.Ytfdnciijibiodaa
