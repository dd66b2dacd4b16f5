/- What the last steps of chapter 13's statements share. -/
import Derived.Test.YtgkppjkmakomnaaDetLaw1
import Derived.Test.YtgkppjkmakomnaaJOpen
import Derived.Test.YtgkppjkmakomnaaRows
import Derived.ChangeMaps5
namespace Go.Proofs.Ytgkppjkmakomnaa
open Go.ChangeShapes Go.WideShapes Go.ChangeAt Go.RowKit Go.Lib Go.Deep
set_option linter.unusedVariables false

theorem lawOwn : ownKnob Try.prog.godebug = none := by kernel_rfl
theorem lawLaid : laidOutB Try.prog = true := by kernel_rfl
/-- seen detections and rejects -/
structure Kn where
  sA : Option Addr
  sc : Nat
  S : List Sn
  rA : Option Addr
  rc : Nat
  R : List Rj
def encKn (k : Kn) : List Value := [.slice k.sA k.S.length k.sc, .slice k.rA k.R.length k.rc]
def KnV (k : Kn) : Value := .agg #[.slice k.sA k.S.length k.sc, .slice k.rA k.R.length k.rc]
def KnOk (w : World) (k : Kn) : Prop := Rd encSn 11 w w.heap.size k.sA k.S ∧ Rd encRj 8 w w.heap.size k.rA k.R ∧ k.S.length * 120 ≤ 140737488355328 ∧ k.R.length * 88 ≤ 140737488355328 ∧ (∀ x ∈ k.S, SeqOk x.d) ∧ (∀ x ∈ k.R, SeqOk x.d)
theorem u8_range {n : Int} (h : (Lit.int .u8 n).wf = true) : 0 ≤ n ∧ n ≤ 255 := by
  simp [Lit.wf, IntKind.min, IntKind.max, IntKind.signed, IntKind.bits] at h
  omega
section
variable {H : Type} {encH : TypeId × Value → H} {w : World} {base : Nat} {spare : Nat → Bool} {held : Bool}
set_option maxRecDepth 100000 in
theorem openIv : Opens encH Try.prog w base spare held 98 encIv (fun _ => True) := by
  intro fuel cs x h
  obtain ⟨xs, n, rfl, hx, hlen, hxl, hf⟩ := DataW.trod_struct Try.underlying98 h
  have hlen2 : cs.length = 2 := hlen.trans (by kernel_rfl)
  clear hlen
  have hxl2 : xs.length = 2 := hxl
  have f0 := (hf 0 _ rfl).trans (List.getElem?_eq_getElem (by omega))
  have f1 := (hf 1 _ rfl).trans (List.getElem?_eq_getElem (by omega))
  obtain ⟨a0, h0, _, _⟩ := DataW.trod_int Try.underlying3 f0
  have c0 : (cs.drop 0).take 1 = [.int .i64 a0] := h0
  obtain ⟨a1, h1, _, _⟩ := DataW.trod_int Try.underlying3 f1
  have c1 : (cs.drop 1).take 1 = [.int .i64 a1] := h1
  have cE : cs.drop 2 = [] := List.drop_eq_nil_of_le (Nat.le_of_eq hlen2)
  refine ⟨(a0, a1), ?_, trivial⟩
  have e0 := pieces cs 0 1 1 rfl
  have e1 := pieces cs 1 1 2 rfl
  rw [e1, cE, c1, c0] at e0
  simpa [encIv] using e0
set_option maxRecDepth 100000 in
theorem openO : Opens encH Try.prog w base spare held 91 encIv (fun _ => True) := by
  intro fuel cs x h
  obtain ⟨xs, n, rfl, hx, hlen, hxl, hf⟩ := DataW.trod_struct Try.underlying91 h
  have hlen2 : cs.length = 2 := hlen.trans (by kernel_rfl)
  clear hlen
  have hxl2 : xs.length = 2 := hxl
  have f0 := (hf 0 _ rfl).trans (List.getElem?_eq_getElem (by omega))
  have f1 := (hf 1 _ rfl).trans (List.getElem?_eq_getElem (by omega))
  obtain ⟨a0, h0, _, _⟩ := DataW.trod_int Try.underlying3 f0
  have c0 : (cs.drop 0).take 1 = [.int .i64 a0] := h0
  obtain ⟨a1, h1, _, _⟩ := DataW.trod_int Try.underlying3 f1
  have c1 : (cs.drop 1).take 1 = [.int .i64 a1] := h1
  have cE : cs.drop 2 = [] := List.drop_eq_nil_of_le (Nat.le_of_eq hlen2)
  refine ⟨(a0, a1), ?_, trivial⟩
  have e0 := pieces cs 0 1 1 rfl
  have e1 := pieces cs 1 1 2 rfl
  rw [e1, cE, c1, c0] at e0
  simpa [encIv] using e0
set_option maxRecDepth 100000 in
theorem openD : Opens encH Try.prog w base spare held 59 encD (DOk w) := by
  intro fuel cs x h
  obtain ⟨xs, n, rfl, hx, hlen, hxl, hf⟩ := DataW.trod_struct Try.underlying59 h
  have hlen2 : cs.length = 6 := hlen.trans (by kernel_rfl)
  clear hlen
  have hxl2 : xs.length = 6 := hxl
  have f0 := (hf 0 _ rfl).trans (List.getElem?_eq_getElem (by omega))
  have f1 := (hf 1 _ rfl).trans (List.getElem?_eq_getElem (by omega))
  have f2 := (hf 2 _ rfl).trans (List.getElem?_eq_getElem (by omega))
  have f3 := (hf 3 _ rfl).trans (List.getElem?_eq_getElem (by omega))
  have f4 := (hf 4 _ rfl).trans (List.getElem?_eq_getElem (by omega))
  have f5 := (hf 5 _ rfl).trans (List.getElem?_eq_getElem (by omega))
  obtain ⟨nm, h0, _, _⟩ := DataW.trod_string Try.underlying9 f0
  have c0 : (cs.drop 0).take 1 = [.string nm] := h0
  obtain ⟨pt, h1, _, _⟩ := DataW.trod_string Try.underlying9 f1
  have c1 : (cs.drop 1).take 1 = [.string pt] := h1
  obtain ⟨kd, h2, _, _⟩ := DataW.trod_int Try.underlying3 f2
  have c2 : (cs.drop 2).take 1 = [.int .i64 kd] := h2
  obtain ⟨ln, h3, _, _⟩ := DataW.trod_int Try.underlying3 f3
  have c3 : (cs.drop 3).take 1 = [.int .i64 ln] := h3
  obtain ⟨oA, oc, os, h4, k4, m4, r4, o4⟩ := open_list Try.underlying56 (by kernel_rfl) (by omega) encIv_ok.1 openO f4
  have c4 : (cs.drop 4).take 1 = [.slice oA os.length oc] := h4
  obtain ⟨dA, dc, ds, h5, k5, m5, r5, o5⟩ := open_list Try.underlying57 (by kernel_rfl) (by omega) encIv_ok.1 openIv f5
  have c5 : (cs.drop 5).take 1 = [.slice dA ds.length dc] := h5
  have cE : cs.drop 6 = [] := List.drop_eq_nil_of_le (Nat.le_of_eq hlen2)
  refine ⟨⟨nm, pt, kd, ln, oA, oc, os, dA, dc, ds⟩, ?_, ⟨r4, r5⟩⟩
  have e0 := pieces cs 0 1 1 rfl
  have e1 := pieces cs 1 1 2 rfl
  have e2 := pieces cs 2 1 3 rfl
  have e3 := pieces cs 3 1 4 rfl
  have e4 := pieces cs 4 1 5 rfl
  have e5 := pieces cs 5 1 6 rfl
  rw [e1, e2, e3, e4, e5, cE, c5, c4, c3, c2, c1, c0] at e0
  simpa [encD] using e0
set_option maxRecDepth 100000 in
theorem openDt : Opens encH Try.prog w base spare held 24 encDt SeqOk := by
  intro fuel cs x h
  obtain ⟨xs, n, rfl, hx, hlen, hxl, hf⟩ := DataW.trod_struct Try.underlying24 h
  have hlen2 : cs.length = 7 := hlen.trans (by kernel_rfl)
  clear hlen
  have hxl2 : xs.length = 7 := hxl
  have f0 := (hf 0 _ rfl).trans (List.getElem?_eq_getElem (by omega))
  have f1 := (hf 1 _ rfl).trans (List.getElem?_eq_getElem (by omega))
  have f2 := (hf 2 _ rfl).trans (List.getElem?_eq_getElem (by omega))
  have f3 := (hf 3 _ rfl).trans (List.getElem?_eq_getElem (by omega))
  have f4 := (hf 4 _ rfl).trans (List.getElem?_eq_getElem (by omega))
  have f5 := (hf 5 _ rfl).trans (List.getElem?_eq_getElem (by omega))
  have f6 := (hf 6 _ rfl).trans (List.getElem?_eq_getElem (by omega))
  obtain ⟨dv, h0, _, _⟩ := DataW.trod_string Try.underlying9 f0
  have c0 : (cs.drop 0).take 1 = [.string dv] := h0
  obtain ⟨sq, h1, _, w1⟩ := DataW.trod_int Try.underlying3 f1
  have c1 : (cs.drop 1).take 1 = [.int .i64 sq] := h1
  obtain ⟨tm, h2, _, _⟩ := DataW.trod_int Try.underlying3 f2
  have c2 : (cs.drop 2).take 1 = [.int .i64 tm] := h2
  obtain ⟨tg, h3, _, _⟩ := DataW.trod_string Try.underlying9 f3
  have c3 : (cs.drop 3).take 1 = [.string tg] := h3
  obtain ⟨pl, h4, _, _⟩ := DataW.trod_string Try.underlying9 f4
  have c4 : (cs.drop 4).take 1 = [.string pl] := h4
  obtain ⟨ax, h5, _, _⟩ := DataW.trod_int Try.underlying3 f5
  have c5 : (cs.drop 5).take 1 = [.int .i64 ax] := h5
  obtain ⟨sc, h6, _, _⟩ := DataW.trod_int Try.underlying3 f6
  have c6 : (cs.drop 6).take 1 = [.int .i64 sc] := h6
  have cE : cs.drop 7 = [] := List.drop_eq_nil_of_le (Nat.le_of_eq hlen2)
  refine ⟨⟨dv, sq, tm, tg, pl, ax, sc⟩, ?_, w1⟩
  have e0 := pieces cs 0 1 1 rfl
  have e1 := pieces cs 1 1 2 rfl
  have e2 := pieces cs 2 1 3 rfl
  have e3 := pieces cs 3 1 4 rfl
  have e4 := pieces cs 4 1 5 rfl
  have e5 := pieces cs 5 1 6 rfl
  have e6 := pieces cs 6 1 7 rfl
  rw [e1, e2, e3, e4, e5, e6, cE, c6, c5, c4, c3, c2, c1, c0] at e0
  simpa [encDt] using e0
set_option maxRecDepth 100000 in
theorem openSn : Opens encH Try.prog w base spare held 29 encSn (fun s => SeqOk s.d) := by
  intro fuel cs x h
  obtain ⟨xs, n, rfl, hx, hlen, hxl, hf⟩ := DataW.trod_struct Try.underlying29 h
  have hlen2 : cs.length = 11 := hlen.trans (by kernel_rfl)
  clear hlen
  have hxl2 : xs.length = 5 := hxl
  have f0 := (hf 0 _ rfl).trans (List.getElem?_eq_getElem (by omega))
  have f1 := (hf 1 _ rfl).trans (List.getElem?_eq_getElem (by omega))
  have f2 := (hf 2 _ rfl).trans (List.getElem?_eq_getElem (by omega))
  have f3 := (hf 3 _ rfl).trans (List.getElem?_eq_getElem (by omega))
  have f4 := (hf 4 _ rfl).trans (List.getElem?_eq_getElem (by omega))
  obtain ⟨d, h0, o0⟩ := openDt _ _ _ f0
  have c0 : (cs.drop 0).take 7 = encDt d := h0
  obtain ⟨t, h1, _, _⟩ := DataW.trod_int Try.underlying3 f1
  have c1 : (cs.drop 7).take 1 = [.int .i64 t] := h1
  obtain ⟨pt, h2, _, _⟩ := DataW.trod_string Try.underlying9 f2
  have c2 : (cs.drop 8).take 1 = [.string pt] := h2
  obtain ⟨lane, h3, _, _⟩ := DataW.trod_int Try.underlying3 f3
  have c3 : (cs.drop 9).take 1 = [.int .i64 lane] := h3
  obtain ⟨kind, h4, _, _⟩ := DataW.trod_int Try.underlying3 f4
  have c4 : (cs.drop 10).take 1 = [.int .i64 kind] := h4
  have cE : cs.drop 11 = [] := List.drop_eq_nil_of_le (Nat.le_of_eq hlen2)
  refine ⟨⟨d, t, pt, lane, kind⟩, ?_, o0⟩
  have e0 := pieces cs 0 7 7 rfl
  have e1 := pieces cs 7 1 8 rfl
  have e2 := pieces cs 8 1 9 rfl
  have e3 := pieces cs 9 1 10 rfl
  have e4 := pieces cs 10 1 11 rfl
  rw [e1, e2, e3, e4, cE, c4, c3, c2, c1, c0] at e0
  simpa [encSn, encDt] using e0
set_option maxRecDepth 100000 in
theorem openRj : Opens encH Try.prog w base spare held 36 encRj (fun s => SeqOk s.d) := by
  intro fuel cs x h
  obtain ⟨xs, n, rfl, hx, hlen, hxl, hf⟩ := DataW.trod_struct Try.underlying36 h
  have hlen2 : cs.length = 8 := hlen.trans (by kernel_rfl)
  clear hlen
  have hxl2 : xs.length = 2 := hxl
  have f0 := (hf 0 _ rfl).trans (List.getElem?_eq_getElem (by omega))
  have f1 := (hf 1 _ rfl).trans (List.getElem?_eq_getElem (by omega))
  obtain ⟨d, h0, o0⟩ := openDt _ _ _ f0
  have c0 : (cs.drop 0).take 7 = encDt d := h0
  obtain ⟨why, h1, _, _⟩ := DataW.trod_int Try.underlying3 f1
  have c1 : (cs.drop 7).take 1 = [.int .i64 why] := h1
  have cE : cs.drop 8 = [] := List.drop_eq_nil_of_le (Nat.le_of_eq hlen2)
  refine ⟨⟨d, why⟩, ?_, o0⟩
  have e0 := pieces cs 0 7 7 rfl
  have e1 := pieces cs 7 1 8 rfl
  rw [e1, cE, c1, c0] at e0
  simpa [encRj, encDt] using e0
set_option maxRecDepth 100000 in
theorem openKn : OpensS encH Try.prog w base spare held 52 encKn (KnOk w) := by
  intro fuel cs x h hz
  obtain ⟨xs, n, rfl, hx, hlen, hxl, hf⟩ := DataW.trod_struct Try.underlying52 h
  have hlen2 : cs.length = 2 := hlen.trans (by kernel_rfl)
  clear hlen
  have hxl2 : xs.length = 2 := hxl
  have f0 := (hf 0 _ rfl).trans (List.getElem?_eq_getElem (by omega))
  have f1 := (hf 1 _ rfl).trans (List.getElem?_eq_getElem (by omega))
  subst hx
  obtain ⟨sA, sc, S, h0, k0, m0, r0, o0, z0⟩ := open_listS Try.underlying42 (by kernel_rfl) (by omega) encSn_ok.1 openSn.s f0 (Sized.field Try.underlying52 hz (i := 0) rfl (by rw [List.getElem?_map, List.getElem?_eq_getElem (by omega : 0 < xs.length), Option.map_some]))
  have c0 : (cs.drop 0).take 1 = [.slice sA S.length sc] := h0
  obtain ⟨rA, rc, R, h1, k1, m1, r1, o1, z1⟩ := open_listS Try.underlying43 (by kernel_rfl) (by omega) encRj_ok.1 openRj.s f1 (Sized.field Try.underlying52 hz (i := 1) rfl (by rw [List.getElem?_map, List.getElem?_eq_getElem (by omega : 1 < xs.length), Option.map_some]))
  have c1 : (cs.drop 1).take 1 = [.slice rA R.length rc] := h1
  have cE : cs.drop 2 = [] := List.drop_eq_nil_of_le (Nat.le_of_eq hlen2)
  refine ⟨⟨sA, sc, S, rA, rc, R⟩, ?_, ⟨r0, r1, by have q : Program.bytesOf Try.prog 29 = 120 := (by kernel_rfl); rw [q] at z0; have := reachBytes_lt; show S.length * 120 ≤ _; omega, by have q : Program.bytesOf Try.prog 36 = 88 := (by kernel_rfl); rw [q] at z1; have := reachBytes_lt; show R.length * 88 ≤ _; omega, o0, o1⟩⟩
  have e0 := pieces cs 0 1 1 rfl
  have e1 := pieces cs 1 1 2 rfl
  rw [e1, cE, c1, c0] at e0
  simpa [encKn] using e0
end
end Go.Proofs.Ytgkppjkmakomnaa
