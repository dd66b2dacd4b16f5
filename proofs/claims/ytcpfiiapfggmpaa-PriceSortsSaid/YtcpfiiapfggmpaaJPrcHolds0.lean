/- Joined texts: PrcHolds0, Valid. -/
import Derived.Test.YtcpfiiapfggmpaaPrcEnc
import Derived.Test.YtcpfiiapfggmpaaOpen
import Derived.Test.YtcpfiiapfggmpaaRows
import Derived.ChangeMaps5
import Derived.Test.YtcpfiiapfggmpaaJInts
import Derived.IntWalk
import Derived.BigRegion
/- What the last steps of chapter 31's plain statements share. -/
namespace Go.Proofs.Ytcpfiiapfggmpaa
open Go.ChangeShapes Go.WideShapes Go.ChangeAt Go.RowKit Go.Lib Go.Deep
set_option linter.unusedVariables false

theorem lawOwn : ownKnob Try.prog.godebug = none := by kernel_rfl
theorem lawLaid : laidOutB Try.prog = true := by kernel_rfl
def CgOk (w : World) (x : Cg) : Prop := Rd encLn 2 w w.heap.size x.lA x.c.lns ∧ x.c.lns.length ≤ 9223372036854775807
section
variable {H : Type} {encH : TypeId × Value → H} {w : World} {base : Nat} {spare : Nat → Bool} {held : Bool}
set_option maxRecDepth 100000 in
theorem openLn : Opens encH Try.prog w base spare held 86 encLn (fun _ => True) := by
  intro fuel cs x h
  obtain ⟨xs, n, rfl, hx, hlen, hxl, hf⟩ := DataW.trod_struct Try.underlying86 h
  have hlen2 : cs.length = 2 := hlen.trans (by kernel_rfl)
  clear hlen
  have hxl2 : xs.length = 2 := hxl
  have f0 := (hf 0 _ rfl).trans (List.getElem?_eq_getElem (by omega))
  have f1 := (hf 1 _ rfl).trans (List.getElem?_eq_getElem (by omega))
  obtain ⟨a0, h0, _, _⟩ := DataW.trod_string Try.underlying9 f0
  have c0 : (cs.drop 0).take 1 = [.string a0] := h0
  obtain ⟨a1, h1, _, _⟩ := DataW.trod_int Try.underlying3 f1
  have c1 : (cs.drop 1).take 1 = [.int .i64 a1] := h1
  have cE : cs.drop 2 = [] := List.drop_eq_nil_of_le (Nat.le_of_eq hlen2)
  refine ⟨(a0, a1), ?_, trivial⟩
  have e0 := pieces cs 0 1 1 rfl
  have e1 := pieces cs 1 1 2 rfl
  rw [e1, cE, c1, c0] at e0
  simpa [encLn] using e0
set_option maxRecDepth 100000 in
theorem openCg : Opens encH Try.prog w base spare held 24 encCg (CgOk w) := by
  intro fuel cs x h
  obtain ⟨xs, n, rfl, hx, hlen, hxl, hf⟩ := DataW.trod_struct Try.underlying24 h
  have hlen2 : cs.length = 7 := hlen.trans (by kernel_rfl)
  clear hlen
  have hxl2 : xs.length = 7 := hxl
  have f0 := (hf 0 _ rfl).trans (List.getElem?_eq_getElem (by omega))
  have f1 := (hf 1 _ rfl).trans (List.getElem?_eq_getElem (by omega))
  have f2 := (hf 2 _ rfl).trans (List.getElem?_eq_getElem (by omega))
  have f3 := (hf 3 _ rfl).trans (List.getElem?_eq_getElem (by omega))
  have f4 := (hf 4 _ rfl).trans (List.getElem?_eq_getElem (by omega))
  have f5 := (hf 5 _ rfl).trans (List.getElem?_eq_getElem (by omega))
  have f6 := (hf 6 _ rfl).trans (List.getElem?_eq_getElem (by omega))
  obtain ⟨key, h0, _, _⟩ := DataW.trod_string Try.underlying9 f0
  have c0 : (cs.drop 0).take 1 = [.string key] := h0
  obtain ⟨veh, h1, _, _⟩ := DataW.trod_string Try.underlying9 f1
  have c1 : (cs.drop 1).take 1 = [.string veh] := h1
  obtain ⟨sys, h2, _, _⟩ := DataW.trod_string Try.underlying9 f2
  have c2 : (cs.drop 2).take 1 = [.string sys] := h2
  obtain ⟨cls, h3, _, _⟩ := DataW.trod_int Try.underlying3 f3
  have c3 : (cs.drop 3).take 1 = [.int .i64 cls] := h3
  obtain ⟨tm, h4, _, _⟩ := DataW.trod_int Try.underlying3 f4
  have c4 : (cs.drop 4).take 1 = [.int .i64 tm] := h4
  obtain ⟨lA, lc, lns, h5, k5, m5, r5, o5⟩ := open_list Try.underlying22 (by kernel_rfl) (by omega) encLn_ok.1 openLn f5
  have c5 : (cs.drop 5).take 1 = [.slice lA lns.length lc] := h5
  obtain ⟨ct, h6, _, _⟩ := DataW.trod_int Try.underlying3 f6
  have c6 : (cs.drop 6).take 1 = [.int .i64 ct] := h6
  have cE : cs.drop 7 = [] := List.drop_eq_nil_of_le (Nat.le_of_eq hlen2)
  refine ⟨⟨⟨key, veh, sys, cls, tm, lns, ct⟩, lA, lc⟩, ?_, ⟨r5, by unfold maxLen at m5; have := k5; show lns.length ≤ _; omega⟩⟩
  have e0 := pieces cs 0 1 1 rfl
  have e1 := pieces cs 1 1 2 rfl
  have e2 := pieces cs 2 1 3 rfl
  have e3 := pieces cs 3 1 4 rfl
  have e4 := pieces cs 4 1 5 rfl
  have e5 := pieces cs 5 1 6 rfl
  have e6 := pieces cs 6 1 7 rfl
  rw [e1, e2, e3, e4, e5, e6, cE, c6, c5, c4, c3, c2, c1, c0] at e0
  simpa [encCg] using e0
end
end Go.Proofs.Ytcpfiiapfggmpaa
/- span.Valid, walked. -/
namespace Go.Proofs.Ytcpfiiapfggmpaa
open Go.RowKit Go.Lib

theorem valid_any (f t : Int) (w : World) :
    Calls Try.prog 50 #[.agg #[.int .i64 f, .int .i64 t]] w fun e w' => e = .returned (.bool (validB f t)) ∧ w.alloc (.cells #[.int .i64 f, .int .i64 t] 39) = w' := by
  unfold validB
  go_enter Try.func50, Try.ntmps50
  go_wp2
  all_goals (go_ret; exact ⟨ret_bool (by rw [Bool.eq_iff_iff]; simp; omega), rfl⟩)
end Go.Proofs.Ytcpfiiapfggmpaa
