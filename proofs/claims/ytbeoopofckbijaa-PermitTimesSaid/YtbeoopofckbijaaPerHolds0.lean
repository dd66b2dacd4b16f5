/- What the last steps of chapter 29's statement share. -/
import Derived.Test.YtbeoopofckbijaaPerEnc
import Derived.Test.YtbeoopofckbijaaOpen
import Derived.Test.YtbeoopofckbijaaRows
import Derived.ChangeMaps5
namespace Go.Proofs.Ytbeoopofckbijaa
open Go.ChangeShapes Go.WideShapes Go.ChangeAt Go.RowKit Go.Lib Go.Deep
set_option linter.unusedVariables false

theorem lawOwn : ownKnob Try.prog.godebug = none := by kernel_rfl
theorem lawLaid : laidOutB Try.prog = true := by kernel_rfl
structure Ve where
  a : ByteArray
  b : ByteArray
def encVe (x : Ve) : List Value := [.string x.a, .string x.b]
def VeV (x : Ve) : Value := .agg #[.string x.a, .string x.b]
def IvV (x : Iv) : Value := .agg #[.int .i64 x.1, .int .i64 x.2]
section
variable {H : Type} {encH : TypeId × Value → H} {w : World} {base : Nat} {spare : Nat → Bool} {held : Bool}
theorem openStr : Opens encH Try.prog w base spare held 9 encStr (fun _ => True) := by
  intro fuel cs x h
  obtain ⟨s, rfl, _, _⟩ := DataW.trod_string Try.underlying9 h
  exact ⟨s, rfl, trivial⟩
set_option maxRecDepth 100000 in
theorem openIv : Opens encH Try.prog w base spare held 26 encIv (fun _ => True) := by
  intro fuel cs x h
  obtain ⟨xs, n, rfl, hx, hlen, hxl, hf⟩ := DataW.trod_struct Try.underlying26 h
  have hlen2 : cs.length = 2 := hlen.trans (by kernel_rfl)
  clear hlen
  have hxl2 : xs.length = 2 := hxl
  have f0 := (hf 0 _ rfl).trans (List.getElem?_eq_getElem (by omega))
  have f1 := (hf 1 _ rfl).trans (List.getElem?_eq_getElem (by omega))
  obtain ⟨a0, h0, _, _⟩ := DataW.trod_int Try.underlying3 f0
  have c0 : (cs.drop 0).take 1 = [.int .i64 a0] := h0
  obtain ⟨a1, h1, _, _⟩ := DataW.trod_int Try.underlying3 f1
  have c1 : (cs.drop 1).take 1 = [.int .i64 a1] := h1
  have cE : cs.drop 2 = [] := List.drop_eq_nil_of_le (Nat.le_of_eq hlen2)
  refine ⟨(a0, a1), ?_, trivial⟩
  have e0 := pieces cs 0 1 1 rfl
  have e1 := pieces cs 1 1 2 rfl
  rw [e1, cE, c1, c0] at e0
  simpa [encIv] using e0
set_option maxRecDepth 100000 in
theorem openWn : Opens encH Try.prog w base spare held 42 encW (fun _ => True) := by
  intro fuel cs x h
  obtain ⟨xs, n, rfl, hx, hlen, hxl, hf⟩ := DataW.trod_struct Try.underlying42 h
  have hlen2 : cs.length = 3 := hlen.trans (by kernel_rfl)
  clear hlen
  have hxl2 : xs.length = 3 := hxl
  have f0 := (hf 0 _ rfl).trans (List.getElem?_eq_getElem (by omega))
  have f1 := (hf 1 _ rfl).trans (List.getElem?_eq_getElem (by omega))
  have f2 := (hf 2 _ rfl).trans (List.getElem?_eq_getElem (by omega))
  obtain ⟨a0, h0, _, _⟩ := DataW.trod_int Try.underlying3 f0
  have c0 : (cs.drop 0).take 1 = [.int .i64 a0] := h0
  obtain ⟨a1, h1, _, _⟩ := DataW.trod_int Try.underlying3 f1
  have c1 : (cs.drop 1).take 1 = [.int .i64 a1] := h1
  obtain ⟨a2, h2, _, _⟩ := DataW.trod_int Try.underlying3 f2
  have c2 : (cs.drop 2).take 1 = [.int .i64 a2] := h2
  have cE : cs.drop 3 = [] := List.drop_eq_nil_of_le (Nat.le_of_eq hlen2)
  refine ⟨(a0, a1, a2), ?_, trivial⟩
  have e0 := pieces cs 0 1 1 rfl
  have e1 := pieces cs 1 1 2 rfl
  have e2 := pieces cs 2 1 3 rfl
  rw [e1, e2, cE, c2, c1, c0] at e0
  simpa [encW] using e0
set_option maxRecDepth 100000 in
theorem openVe : Opens encH Try.prog w base spare held 24 encVe (fun _ => True) := by
  intro fuel cs x h
  obtain ⟨xs, n, rfl, hx, hlen, hxl, hf⟩ := DataW.trod_struct Try.underlying24 h
  have hlen2 : cs.length = 2 := hlen.trans (by kernel_rfl)
  clear hlen
  have hxl2 : xs.length = 2 := hxl
  have f0 := (hf 0 _ rfl).trans (List.getElem?_eq_getElem (by omega))
  have f1 := (hf 1 _ rfl).trans (List.getElem?_eq_getElem (by omega))
  obtain ⟨a, h0, _, _⟩ := DataW.trod_string Try.underlying9 f0
  have c0 : (cs.drop 0).take 1 = [.string a] := h0
  obtain ⟨b, h1, _, _⟩ := DataW.trod_string Try.underlying9 f1
  have c1 : (cs.drop 1).take 1 = [.string b] := h1
  have cE : cs.drop 2 = [] := List.drop_eq_nil_of_le (Nat.le_of_eq hlen2)
  refine ⟨⟨a, b⟩, ?_, trivial⟩
  have e0 := pieces cs 0 1 1 rfl
  have e1 := pieces cs 1 1 2 rfl
  rw [e1, cE, c1, c0] at e0
  simpa [encVe] using e0
set_option maxRecDepth 100000 in
theorem openPm : Opens encH Try.prog w base spare held 31 encPm (POk w) := by
  intro fuel cs x h
  obtain ⟨xs, n, rfl, hx, hlen, hxl, hf⟩ := DataW.trod_struct Try.underlying31 h
  have hlen2 : cs.length = 7 := hlen.trans (by kernel_rfl)
  clear hlen
  have hxl2 : xs.length = 6 := hxl
  have f0 := (hf 0 _ rfl).trans (List.getElem?_eq_getElem (by omega))
  have f1 := (hf 1 _ rfl).trans (List.getElem?_eq_getElem (by omega))
  have f2 := (hf 2 _ rfl).trans (List.getElem?_eq_getElem (by omega))
  have f3 := (hf 3 _ rfl).trans (List.getElem?_eq_getElem (by omega))
  have f4 := (hf 4 _ rfl).trans (List.getElem?_eq_getElem (by omega))
  have f5 := (hf 5 _ rfl).trans (List.getElem?_eq_getElem (by omega))
  obtain ⟨nm, h0, _, _⟩ := DataW.trod_string Try.underlying9 f0
  have c0 : (cs.drop 0).take 1 = [.string nm] := h0
  obtain ⟨zo, h1, _, _⟩ := DataW.trod_string Try.underlying9 f1
  have c1 : (cs.drop 1).take 1 = [.string zo] := h1
  obtain ⟨pA, pc, ps, h2, k2, m2, r2, o2⟩ := open_list Try.underlying28 (by kernel_rfl) (by omega) encStr_ok.1 openStr f2
  have c2 : (cs.drop 2).take 1 = [.slice pA ps.length pc] := h2
  obtain ⟨iv, h3, o3⟩ := openIv _ _ _ f3
  have c3 : (cs.drop 3).take 2 = encIv iv := h3
  obtain ⟨hA, hc, hs, h4, k4, m4, r4, o4⟩ := open_list Try.underlying29 (by kernel_rfl) (by omega) encW_ok.1 openWn f4
  have c4 : (cs.drop 5).take 1 = [.slice hA hs.length hc] := h4
  obtain ⟨mo, h5, _, _⟩ := DataW.trod_int Try.underlying3 f5
  have c5 : (cs.drop 6).take 1 = [.int .i64 mo] := h5
  have cE : cs.drop 7 = [] := List.drop_eq_nil_of_le (Nat.le_of_eq hlen2)
  refine ⟨⟨nm, zo, pA, pc, ps, iv.1, iv.2, hA, hc, hs, mo⟩, ?_, ⟨r2, r4, ⟨k2, by have := m2; unfold maxLen at this; omega⟩, by show hs.length ≤ 9223372036854775807; have := m4; have := k4; unfold maxLen at m4; omega⟩⟩
  have e0 := pieces cs 0 1 1 rfl
  have e1 := pieces cs 1 1 2 rfl
  have e2 := pieces cs 2 1 3 rfl
  have e3 := pieces cs 3 2 5 rfl
  have e4 := pieces cs 5 1 6 rfl
  have e5 := pieces cs 6 1 7 rfl
  rw [e1, e2, e3, e4, e5, cE, c5, c4, c3, c2, c1, c0] at e0
  simpa [encPm, encIv] using e0
end
end Go.Proofs.Ytbeoopofckbijaa
