/- What the last steps of chapter 26's statements share. -/
import Derived.Test.YtfilfdkbchkpmaaZoneEnc
import Derived.Test.YtfilfdkbchkpmaaOpen
import Derived.Test.YtfilfdkbchkpmaaRows
import Derived.ChangeMaps5
namespace Go.Proofs.Ytfilfdkbchkpmaa
open Go.ChangeShapes Go.WideShapes Go.ChangeAt Go.RowKit Go.Lib Go.Deep
set_option linter.unusedVariables false

theorem lawOwn : ownKnob Try.prog.godebug = none := by kernel_rfl
theorem lawLaid : laidOutB Try.prog = true := by kernel_rfl
section
variable {H : Type} {encH : TypeId × Value → H} {w : World} {base : Nat} {spare : Nat → Bool} {held : Bool}
set_option maxRecDepth 100000 in
theorem openIv : Opens encH Try.prog w base spare held 35 encIv (fun _ => True) := by
  intro fuel cs x h
  obtain ⟨xs, n, rfl, hx, hlen, hxl, hf⟩ := DataW.trod_struct Try.underlying35 h
  have hlen2 : cs.length = 2 := hlen.trans (by kernel_rfl)
  clear hlen
  have hxl2 : xs.length = 2 := hxl
  have f0 := (hf 0 _ rfl).trans (List.getElem?_eq_getElem (by omega))
  have f1 := (hf 1 _ rfl).trans (List.getElem?_eq_getElem (by omega))
  obtain ⟨a0, h0, _, _⟩ := DataW.trod_int Try.underlying3 f0
  obtain ⟨a1, h1, _, _⟩ := DataW.trod_int Try.underlying3 f1
  have c0 : (cs.drop 0).take 1 = [.int .i64 a0] := h0
  have c1 : (cs.drop 1).take 1 = [.int .i64 a1] := h1
  have c2 : cs.drop 2 = [] := List.drop_eq_nil_of_le (Nat.le_of_eq hlen2)
  refine ⟨(a0, a1), ?_, trivial⟩
  have e := pieces cs 0 1 1 rfl
  have e1 := pieces cs 1 1 2 rfl
  rw [e1, c2, c1, c0] at e
  simpa [encIv] using e
set_option maxRecDepth 100000 in
theorem openW : Opens encH Try.prog w base spare held 80 encW (fun _ => True) := by
  intro fuel cs x h
  obtain ⟨xs, n, rfl, hx, hlen, hxl, hf⟩ := DataW.trod_struct Try.underlying80 h
  have hlen2 : cs.length = 3 := hlen.trans (by kernel_rfl)
  clear hlen
  have hxl2 : xs.length = 3 := hxl
  have f0 := (hf 0 _ rfl).trans (List.getElem?_eq_getElem (by omega))
  have f1 := (hf 1 _ rfl).trans (List.getElem?_eq_getElem (by omega))
  have f2 := (hf 2 _ rfl).trans (List.getElem?_eq_getElem (by omega))
  obtain ⟨a0, h0, _, _⟩ := DataW.trod_int Try.underlying3 f0
  obtain ⟨a1, h1, _, _⟩ := DataW.trod_int Try.underlying3 f1
  obtain ⟨a2, h2, _, _⟩ := DataW.trod_int Try.underlying3 f2
  have c0 : (cs.drop 0).take 1 = [.int .i64 a0] := h0
  have c1 : (cs.drop 1).take 1 = [.int .i64 a1] := h1
  have c2 : (cs.drop 2).take 1 = [.int .i64 a2] := h2
  have c3 : cs.drop 3 = [] := List.drop_eq_nil_of_le (Nat.le_of_eq hlen2)
  refine ⟨(a0, a1, a2), ?_, trivial⟩
  have e := pieces cs 0 1 1 rfl
  have e1 := pieces cs 1 1 2 rfl
  have e2 := pieces cs 2 1 3 rfl
  rw [e1, e2, c3, c2, c1, c0] at e
  simpa [encW] using e
set_option maxRecDepth 100000 in
theorem openS : Opens encH Try.prog w base spare held 53 encW (fun _ => True) := by
  intro fuel cs x h
  obtain ⟨xs, n, rfl, hx, hlen, hxl, hf⟩ := DataW.trod_struct Try.underlying53 h
  have hlen2 : cs.length = 3 := hlen.trans (by kernel_rfl)
  clear hlen
  have hxl2 : xs.length = 3 := hxl
  have f0 := (hf 0 _ rfl).trans (List.getElem?_eq_getElem (by omega))
  have f1 := (hf 1 _ rfl).trans (List.getElem?_eq_getElem (by omega))
  have f2 := (hf 2 _ rfl).trans (List.getElem?_eq_getElem (by omega))
  obtain ⟨a0, h0, _, _⟩ := DataW.trod_int Try.underlying3 f0
  obtain ⟨a1, h1, _, _⟩ := DataW.trod_int Try.underlying3 f1
  obtain ⟨a2, h2, _, _⟩ := DataW.trod_int Try.underlying3 f2
  have c0 : (cs.drop 0).take 1 = [.int .i64 a0] := h0
  have c1 : (cs.drop 1).take 1 = [.int .i64 a1] := h1
  have c2 : (cs.drop 2).take 1 = [.int .i64 a2] := h2
  have c3 : cs.drop 3 = [] := List.drop_eq_nil_of_le (Nat.le_of_eq hlen2)
  refine ⟨(a0, a1, a2), ?_, trivial⟩
  have e := pieces cs 0 1 1 rfl
  have e1 := pieces cs 1 1 2 rfl
  have e2 := pieces cs 2 1 3 rfl
  rw [e1, e2, c3, c2, c1, c0] at e
  simpa [encW] using e
def OkZ (w : World) (z : Zn) : Prop := ZOk w z
set_option maxRecDepth 100000 in
theorem openZ : Opens encH Try.prog w base spare held 25 encZ (OkZ w) := by
  intro fuel cs x h
  obtain ⟨xs, n, rfl, hx, hlen, hxl, hf⟩ := DataW.trod_struct Try.underlying25 h
  have hlen2 : cs.length = 7 := hlen.trans (by kernel_rfl)
  clear hlen
  have hxl2 : xs.length = 7 := hxl
  have f0 := (hf 0 _ rfl).trans (List.getElem?_eq_getElem (by omega))
  have f1 := (hf 1 _ rfl).trans (List.getElem?_eq_getElem (by omega))
  have f2 := (hf 2 _ rfl).trans (List.getElem?_eq_getElem (by omega))
  have f3 := (hf 3 _ rfl).trans (List.getElem?_eq_getElem (by omega))
  have f4 := (hf 4 _ rfl).trans (List.getElem?_eq_getElem (by omega))
  have f5 := (hf 5 _ rfl).trans (List.getElem?_eq_getElem (by omega))
  have f6 := (hf 6 _ rfl).trans (List.getElem?_eq_getElem (by omega))
  obtain ⟨s, h0, _, _⟩ := DataW.trod_string Try.underlying9 f0
  obtain ⟨hA, hc, hs, h1, _, _, r1, _⟩ := open_list Try.underlying22 (by kernel_rfl) (by omega) encW_ok.1 openW f1
  obtain ⟨sA, sc, ss, h2, _, _, r2, _⟩ := open_list Try.underlying23 (by kernel_rfl) (by omega) encW_ok.1 openS f2
  obtain ⟨a3, h3, _, _⟩ := DataW.trod_int Try.underlying3 f3
  obtain ⟨a4, h4, _, _⟩ := DataW.trod_int Try.underlying3 f4
  obtain ⟨a5, h5, _, _⟩ := DataW.trod_int Try.underlying3 f5
  obtain ⟨a6, h6, _, _⟩ := DataW.trod_int Try.underlying3 f6
  have c0 : (cs.drop 0).take 1 = [.string s] := h0
  have c1 : (cs.drop 1).take 1 = [.slice hA hs.length hc] := h1
  have c2 : (cs.drop 2).take 1 = [.slice sA ss.length sc] := h2
  have c3 : (cs.drop 3).take 1 = [.int .i64 a3] := h3
  have c4 : (cs.drop 4).take 1 = [.int .i64 a4] := h4
  have c5 : (cs.drop 5).take 1 = [.int .i64 a5] := h5
  have c6 : (cs.drop 6).take 1 = [.int .i64 a6] := h6
  have c7 : cs.drop 7 = [] := List.drop_eq_nil_of_le (Nat.le_of_eq hlen2)
  refine ⟨⟨s, hA, hc, hs, sA, sc, ss, a3, a4, a5, a6⟩, ?_, ⟨r1, r2⟩⟩
  have e := pieces cs 0 1 1 rfl
  have e1 := pieces cs 1 1 2 rfl
  have e2 := pieces cs 2 1 3 rfl
  have e3 := pieces cs 3 1 4 rfl
  have e4 := pieces cs 4 1 5 rfl
  have e5 := pieces cs 5 1 6 rfl
  have e6 := pieces cs 6 1 7 rfl
  rw [e1, e2, e3, e4, e5, e6, c7, c6, c5, c4, c3, c2, c1, c0] at e
  simpa [encZ] using e
end
end Go.Proofs.Ytfilfdkbchkpmaa
