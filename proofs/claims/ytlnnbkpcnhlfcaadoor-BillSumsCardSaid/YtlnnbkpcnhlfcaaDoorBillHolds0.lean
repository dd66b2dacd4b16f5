/- What the last steps of chapter 34's statements share. -/
import Derived.Test.YtlnnbkpcnhlfcaaDoorJBillFew
import Derived.Test.YtlnnbkpcnhlfcaaDoorJBillEar
import Derived.Test.YtlnnbkpcnhlfcaaDoorRows
import Derived.ChangeMaps5
import Derived.LaidMore
import Derived.ProofKit
namespace Go.Proofs.YtlnnbkpcnhlfcaaDoor
open Go.ChangeShapes Go.WideShapes Go.ChangeAt Go.RowKit Go.Lib Go.Deep
set_option linter.unusedVariables false

theorem lawOwn : ownKnob Tryd.prog.godebug = none := by kernel_rfl
theorem lawLaid : laidOutB Tryd.prog = true := by kernel_rfl
def lawMonths : List (String × DataW Unit) := [("tollway/clock.months", Rows.laid_tollway_clock_months)]
theorem gMon : Tryd.prog.globalNamed "tollway/clock.months" = some 0 := by kernel_rfl
theorem tMon : (Tryd.prog.globals[0]?).map (·.type) = some 144 := by kernel_rfl
theorem door_met (os : Os) (args : Array Value) : laidMetH Tryd.prog lawMonths ((World.doorLaid Tryd.prog 400 os).forCall (fun _ _ => 0) ⟨#[], args, []⟩).memory :=
  laidMetH_of_parts3 (fuel := 8) (laidMet_of_run' 8 (by kernel_rfl) (by kernel_rfl)) (by kernel_rfl) (by kernel_rfl)
theorem take_one {l : List Value} {k : Nat} {a : Value} (h : (l.drop (k * 1)).take 1 = [a]) : l[k]? = some a := by
  rw [Nat.mul_one] at h
  have := congrArg (fun z => z[0]?) h
  simp [List.getElem?_take, List.getElem?_drop] at this
  exact this
theorem lt_of_cell {w : World} {b i : Nat} {v : Value} (h : w.cell? ⟨b, i, none⟩ = some v) : b < w.heap.size := by
  rcases Nat.lt_or_ge b w.heap.size with q | q
  · exact q
  · simp [World.cell?, Array.getElem?_eq_none q] at h
theorem mon_of {W : World} (h : laidMetH Tryd.prog lawMonths W) : Mon W := by
  rw [MakeChecks.laidMetH_plain _ _ _ (by kernel_rfl)] at h
  obtain ⟨ps, ⟨g0, t0, cs0, f0, p0, q0, hg0, ht0, hv0, hd0, _⟩, _⟩ := h
  obtain rfl := Option.some.inj (gMon.symm.trans hg0)
  obtain rfl := Option.some.inj (tMon.symm.trans ht0)
  obtain ⟨xs, m1, rfl, hx1, hlen, hn3, hel⟩ := DataW.trod_array Tryd.underlying144 hd0
  have cI : Tryd.prog.cellsOf 3 = 1 := by kernel_rfl
  have hc : ∀ i, W.cell? ⟨0, i, none⟩ = cs0[i]? := World.var?_cell gMon hv0
  have hmap : xs.map (·.1) = monL.map fun v => DataW.lit (.int .i64 v) := by
    simp only [Rows.laid_tollway_clock_months, Prod.mk.injEq, DataW.agg.injEq] at hx1
    exact hx1.1.symm
  have all : ∀ (k : Nat) (v : Int), monL[k]? = some v → W.cell? ⟨0, k, none⟩ = some (.int .i64 v) := by
    intro k v hv
    have hk : k < 12 := (List.getElem?_eq_some_iff.1 hv).1
    have hx := congrArg (fun z => z[k]?) hmap
    simp only [List.getElem?_map, hv, Option.map_some] at hx
    cases hxk : xs[k]? with
    | none => rw [hxk] at hx; cases hx
    | some x =>
      rw [hxk] at hx
      have he := (hel k hk).trans hxk
      obtain ⟨n, e1, e2, _⟩ := DataW.trod_int Tryd.underlying3 he
      rw [cI] at e1
      have hn : n = v := by rw [e2] at hx; simpa using hx
      subst hn
      rw [hc, ← Array.getElem?_toList]
      exact take_one e1
  exact ⟨lt_of_cell (all 0 31 rfl), all⟩
structure Bl where
  aA : Option Addr
  ac : Nat
  acs : List Ac
  cA : Option Addr
  cc : Nat
  caps : List Cp
  A : Option Addr
  c : Nat
  l : List Cg
def encBl (z : Bl) : List Value := [.slice z.aA z.acs.length z.ac, .slice z.cA z.caps.length z.cc, .slice z.A z.l.length z.c]
def BlV (z : Bl) : Value := .agg #[.slice z.aA z.acs.length z.ac, .slice z.cA z.caps.length z.cc, .slice z.A z.l.length z.c]
def BlOk (w : World) (z : Bl) : Prop := BRaw w z.aA z.ac z.acs z.cA z.caps z.A z.l ∧ z.l.length ≤ z.c
def IvV (x : Iv) : Value := .agg #[.int .i64 x.1, .int .i64 x.2]
structure Rf where
  a : Int
  b : Int
  c : Int
  d : Int
def encRf (x : Rf) : List Value := [.int .i64 x.a, .int .i64 x.b, .int .i64 x.c, .int .i64 x.d]
theorem encRf_ok : Enc encRf 4 := ⟨fun _ => rfl, fun x u hu => by simp [encRf] at hu; rcases hu with rfl | rfl | rfl | rfl <;> rfl⟩
section
variable {H : Type} {encH : TypeId × Value → H} {w : World} {base : Nat} {spare : Nat → Bool} {held : Bool}
set_option maxRecDepth 100000 in
theorem openIv : Opens encH Tryd.prog w base spare held 68 encIv (fun _ => True) := by
  intro fuel cs x h
  obtain ⟨xs, n, rfl, hx, hlen, hxl, hf⟩ := DataW.trod_struct Tryd.underlying68 h
  have hlen2 : cs.length = 2 := hlen.trans (by kernel_rfl)
  clear hlen
  have hxl2 : xs.length = 2 := hxl
  have f0 := (hf 0 _ rfl).trans (List.getElem?_eq_getElem (by omega))
  have f1 := (hf 1 _ rfl).trans (List.getElem?_eq_getElem (by omega))
  obtain ⟨a0, h0, _, _⟩ := DataW.trod_int Tryd.underlying3 f0
  have c0 : (cs.drop 0).take 1 = [.int .i64 a0] := h0
  obtain ⟨a1, h1, _, _⟩ := DataW.trod_int Tryd.underlying3 f1
  have c1 : (cs.drop 1).take 1 = [.int .i64 a1] := h1
  have cE : cs.drop 2 = [] := List.drop_eq_nil_of_le (Nat.le_of_eq hlen2)
  refine ⟨(a0, a1), ?_, trivial⟩
  have e0 := pieces cs 0 1 1 rfl
  have e1 := pieces cs 1 1 2 rfl
  rw [e1, cE, c1, c0] at e0
  simpa [encIv] using e0
set_option maxRecDepth 100000 in
theorem openOw : Opens encH Tryd.prog w base spare held 95 encOw (fun _ => True) := by
  intro fuel cs x h
  obtain ⟨xs, n, rfl, hx, hlen, hxl, hf⟩ := DataW.trod_struct Tryd.underlying95 h
  have hlen2 : cs.length = 4 := hlen.trans (by kernel_rfl)
  clear hlen
  have hxl2 : xs.length = 3 := hxl
  have f0 := (hf 0 _ rfl).trans (List.getElem?_eq_getElem (by omega))
  have f1 := (hf 1 _ rfl).trans (List.getElem?_eq_getElem (by omega))
  have f2 := (hf 2 _ rfl).trans (List.getElem?_eq_getElem (by omega))
  obtain ⟨tg, h0, _, _⟩ := DataW.trod_string Tryd.underlying9 f0
  have c0 : (cs.drop 0).take 1 = [.string tg] := h0
  obtain ⟨pl, h1, _, _⟩ := DataW.trod_string Tryd.underlying9 f1
  have c1 : (cs.drop 1).take 1 = [.string pl] := h1
  obtain ⟨iv, h2, o2⟩ := openIv _ _ _ f2
  have c2 : (cs.drop 2).take 2 = encIv iv := h2
  have cE : cs.drop 4 = [] := List.drop_eq_nil_of_le (Nat.le_of_eq hlen2)
  refine ⟨⟨tg, pl, iv.1, iv.2⟩, ?_, trivial⟩
  have e0 := pieces cs 0 1 1 rfl
  have e1 := pieces cs 1 1 2 rfl
  have e2 := pieces cs 2 2 4 rfl
  rw [e1, e2, cE, c2, c1, c0] at e0
  simpa [encOw, encIv] using e0
set_option maxRecDepth 100000 in
theorem openRf : Opens encH Tryd.prog w base spare held 89 encRf (fun _ => True) := by
  intro fuel cs x h
  obtain ⟨xs, n, rfl, hx, hlen, hxl, hf⟩ := DataW.trod_struct Tryd.underlying89 h
  have hlen2 : cs.length = 4 := hlen.trans (by kernel_rfl)
  clear hlen
  have hxl2 : xs.length = 4 := hxl
  have f0 := (hf 0 _ rfl).trans (List.getElem?_eq_getElem (by omega))
  have f1 := (hf 1 _ rfl).trans (List.getElem?_eq_getElem (by omega))
  have f2 := (hf 2 _ rfl).trans (List.getElem?_eq_getElem (by omega))
  have f3 := (hf 3 _ rfl).trans (List.getElem?_eq_getElem (by omega))
  obtain ⟨a0, h0, _, _⟩ := DataW.trod_int Tryd.underlying3 f0
  have c0 : (cs.drop 0).take 1 = [.int .i64 a0] := h0
  obtain ⟨a1, h1, _, _⟩ := DataW.trod_int Tryd.underlying3 f1
  have c1 : (cs.drop 1).take 1 = [.int .i64 a1] := h1
  obtain ⟨a2, h2, _, _⟩ := DataW.trod_int Tryd.underlying3 f2
  have c2 : (cs.drop 2).take 1 = [.int .i64 a2] := h2
  obtain ⟨a3, h3, _, _⟩ := DataW.trod_int Tryd.underlying3 f3
  have c3 : (cs.drop 3).take 1 = [.int .i64 a3] := h3
  have cE : cs.drop 4 = [] := List.drop_eq_nil_of_le (Nat.le_of_eq hlen2)
  refine ⟨⟨a0, a1, a2, a3⟩, ?_, trivial⟩
  have e0 := pieces cs 0 1 1 rfl
  have e1 := pieces cs 1 1 2 rfl
  have e2 := pieces cs 2 1 3 rfl
  have e3 := pieces cs 3 1 4 rfl
  rw [e1, e2, e3, cE, c3, c2, c1, c0] at e0
  simpa [encRf] using e0
set_option maxRecDepth 100000 in
theorem openAc : Opens encH Tryd.prog w base spare held 91 encAc (AOk w) := by
  intro fuel cs x h
  obtain ⟨xs, n, rfl, hx, hlen, hxl, hf⟩ := DataW.trod_struct Tryd.underlying91 h
  have hlen2 : cs.length = 9 := hlen.trans (by kernel_rfl)
  clear hlen
  have hxl2 : xs.length = 6 := hxl
  have f0 := (hf 0 _ rfl).trans (List.getElem?_eq_getElem (by omega))
  have f1 := (hf 1 _ rfl).trans (List.getElem?_eq_getElem (by omega))
  have f2 := (hf 2 _ rfl).trans (List.getElem?_eq_getElem (by omega))
  have f3 := (hf 3 _ rfl).trans (List.getElem?_eq_getElem (by omega))
  have f4 := (hf 4 _ rfl).trans (List.getElem?_eq_getElem (by omega))
  have f5 := (hf 5 _ rfl).trans (List.getElem?_eq_getElem (by omega))
  obtain ⟨nm, h0, _, _⟩ := DataW.trod_string Tryd.underlying9 f0
  have c0 : (cs.drop 0).take 1 = [.string nm] := h0
  obtain ⟨ag, h1, _, _⟩ := DataW.trod_string Tryd.underlying9 f1
  have c1 : (cs.drop 1).take 1 = [.string ag] := h1
  obtain ⟨pre, h2, _⟩ := DataW.trod_bool Tryd.underlying4 f2
  have c2 : (cs.drop 2).take 1 = [.bool pre] := h2
  obtain ⟨oA, oc, os, h3, k3, m3, r3, o3⟩ := open_list Tryd.underlying87 (by kernel_rfl) (by omega) encOw_ok.1 openOw f3
  have c3 : (cs.drop 3).take 1 = [.slice oA os.length oc] := h3
  obtain ⟨rf, h4, o4⟩ := openRf _ _ _ f4
  have c4 : (cs.drop 4).take 4 = encRf rf := h4
  obtain ⟨ex, h5, _⟩ := DataW.trod_bool Tryd.underlying4 f5
  have c5 : (cs.drop 8).take 1 = [.bool ex] := h5
  have cE : cs.drop 9 = [] := List.drop_eq_nil_of_le (Nat.le_of_eq hlen2)
  refine ⟨⟨⟨nm, ag, pre, os, rf.a, rf.b, rf.c, rf.d, ex⟩, oA, oc⟩, ?_, ⟨r3, k3, by have := m3; unfold maxLen at this; omega⟩⟩
  have e0 := pieces cs 0 1 1 rfl
  have e1 := pieces cs 1 1 2 rfl
  have e2 := pieces cs 2 1 3 rfl
  have e3 := pieces cs 3 1 4 rfl
  have e4 := pieces cs 4 4 8 rfl
  have e5 := pieces cs 8 1 9 rfl
  rw [e1, e2, e3, e4, e5, cE, c5, c4, c3, c2, c1, c0] at e0
  simpa [encAc, encRf] using e0
set_option maxRecDepth 100000 in
theorem openLn : Opens encH Tryd.prog w base spare held 99 encLn (fun _ => True) := by
  intro fuel cs x h
  obtain ⟨xs, n, rfl, hx, hlen, hxl, hf⟩ := DataW.trod_struct Tryd.underlying99 h
  have hlen2 : cs.length = 2 := hlen.trans (by kernel_rfl)
  clear hlen
  have hxl2 : xs.length = 2 := hxl
  have f0 := (hf 0 _ rfl).trans (List.getElem?_eq_getElem (by omega))
  have f1 := (hf 1 _ rfl).trans (List.getElem?_eq_getElem (by omega))
  obtain ⟨a0, h0, _, _⟩ := DataW.trod_string Tryd.underlying9 f0
  have c0 : (cs.drop 0).take 1 = [.string a0] := h0
  obtain ⟨a1, h1, _, _⟩ := DataW.trod_int Tryd.underlying3 f1
  have c1 : (cs.drop 1).take 1 = [.int .i64 a1] := h1
  have cE : cs.drop 2 = [] := List.drop_eq_nil_of_le (Nat.le_of_eq hlen2)
  refine ⟨(a0, a1), ?_, trivial⟩
  have e0 := pieces cs 0 1 1 rfl
  have e1 := pieces cs 1 1 2 rfl
  rw [e1, cE, c1, c0] at e0
  simpa [encLn] using e0
set_option maxRecDepth 100000 in
theorem openSp : Opens encH Tryd.prog w base spare held 101 encSp (fun _ => True) := by
  intro fuel cs x h
  obtain ⟨xs, n, rfl, hx, hlen, hxl, hf⟩ := DataW.trod_struct Tryd.underlying101 h
  have hlen2 : cs.length = 3 := hlen.trans (by kernel_rfl)
  clear hlen
  have hxl2 : xs.length = 3 := hxl
  have f0 := (hf 0 _ rfl).trans (List.getElem?_eq_getElem (by omega))
  have f1 := (hf 1 _ rfl).trans (List.getElem?_eq_getElem (by omega))
  have f2 := (hf 2 _ rfl).trans (List.getElem?_eq_getElem (by omega))
  obtain ⟨a, h0, _, _⟩ := DataW.trod_string Tryd.underlying9 f0
  have c0 : (cs.drop 0).take 1 = [.string a] := h0
  obtain ⟨b, h1, _, _⟩ := DataW.trod_int Tryd.underlying3 f1
  have c1 : (cs.drop 1).take 1 = [.int .i64 b] := h1
  obtain ⟨c, h2, _, _⟩ := DataW.trod_string Tryd.underlying9 f2
  have c2 : (cs.drop 2).take 1 = [.string c] := h2
  have cE : cs.drop 3 = [] := List.drop_eq_nil_of_le (Nat.le_of_eq hlen2)
  refine ⟨⟨a, b, c⟩, ?_, trivial⟩
  have e0 := pieces cs 0 1 1 rfl
  have e1 := pieces cs 1 1 2 rfl
  have e2 := pieces cs 2 1 3 rfl
  rw [e1, e2, cE, c2, c1, c0] at e0
  simpa [encSp] using e0
set_option maxRecDepth 100000 in
theorem openTr : Opens encH Tryd.prog w base spare held 28 encTr (TrOk w) := by
  intro fuel cs x h
  obtain ⟨xs, n, rfl, hx, hlen, hxl, hf⟩ := DataW.trod_struct Tryd.underlying28 h
  have hlen2 : cs.length = 5 := hlen.trans (by kernel_rfl)
  clear hlen
  have hxl2 : xs.length = 5 := hxl
  have f0 := (hf 0 _ rfl).trans (List.getElem?_eq_getElem (by omega))
  have f1 := (hf 1 _ rfl).trans (List.getElem?_eq_getElem (by omega))
  have f2 := (hf 2 _ rfl).trans (List.getElem?_eq_getElem (by omega))
  have f3 := (hf 3 _ rfl).trans (List.getElem?_eq_getElem (by omega))
  have f4 := (hf 4 _ rfl).trans (List.getElem?_eq_getElem (by omega))
  obtain ⟨i, h0, _, _⟩ := DataW.trod_string Tryd.underlying9 f0
  have c0 : (cs.drop 0).take 1 = [.string i] := h0
  obtain ⟨vh, h1, _, _⟩ := DataW.trod_string Tryd.underlying9 f1
  have c1 : (cs.drop 1).take 1 = [.string vh] := h1
  obtain ⟨sy, h2, _, _⟩ := DataW.trod_string Tryd.underlying9 f2
  have c2 : (cs.drop 2).take 1 = [.string sy] := h2
  obtain ⟨cl, h3, _, _⟩ := DataW.trod_int Tryd.underlying3 f3
  have c3 : (cs.drop 3).take 1 = [.int .i64 cl] := h3
  obtain ⟨sA, sc, ss, h4, k4, m4, r4, o4⟩ := open_list Tryd.underlying26 (by kernel_rfl) (by omega) encSp_ok.1 openSp f4
  have c4 : (cs.drop 4).take 1 = [.slice sA ss.length sc] := h4
  have cE : cs.drop 5 = [] := List.drop_eq_nil_of_le (Nat.le_of_eq hlen2)
  refine ⟨⟨i, vh, sy, cl, sA, sc, ss⟩, ?_, ⟨r4, by unfold maxLen at m4; have := k4; show ss.length ≤ _; omega⟩⟩
  have e0 := pieces cs 0 1 1 rfl
  have e1 := pieces cs 1 1 2 rfl
  have e2 := pieces cs 2 1 3 rfl
  have e3 := pieces cs 3 1 4 rfl
  have e4 := pieces cs 4 1 5 rfl
  rw [e1, e2, e3, e4, cE, c4, c3, c2, c1, c0] at e0
  simpa [encTr] using e0
set_option maxRecDepth 100000 in
theorem openCp : Opens encH Tryd.prog w base spare held 97 encCp (fun _ => True) := by
  intro fuel cs x h
  obtain ⟨xs, n, rfl, hx, hlen, hxl, hf⟩ := DataW.trod_struct Tryd.underlying97 h
  have hlen2 : cs.length = 4 := hlen.trans (by kernel_rfl)
  clear hlen
  have hxl2 : xs.length = 4 := hxl
  have f0 := (hf 0 _ rfl).trans (List.getElem?_eq_getElem (by omega))
  have f1 := (hf 1 _ rfl).trans (List.getElem?_eq_getElem (by omega))
  have f2 := (hf 2 _ rfl).trans (List.getElem?_eq_getElem (by omega))
  have f3 := (hf 3 _ rfl).trans (List.getElem?_eq_getElem (by omega))
  obtain ⟨a, h0, _, _⟩ := DataW.trod_string Tryd.underlying9 f0
  have c0 : (cs.drop 0).take 1 = [.string a] := h0
  obtain ⟨b, h1, _, _⟩ := DataW.trod_string Tryd.underlying9 f1
  have c1 : (cs.drop 1).take 1 = [.string b] := h1
  obtain ⟨c, h2, _, _⟩ := DataW.trod_int Tryd.underlying3 f2
  have c2 : (cs.drop 2).take 1 = [.int .i64 c] := h2
  obtain ⟨d, h3, _, _⟩ := DataW.trod_int Tryd.underlying3 f3
  have c3 : (cs.drop 3).take 1 = [.int .i64 d] := h3
  have cE : cs.drop 4 = [] := List.drop_eq_nil_of_le (Nat.le_of_eq hlen2)
  refine ⟨⟨a, b, c, d⟩, ?_, trivial⟩
  have e0 := pieces cs 0 1 1 rfl
  have e1 := pieces cs 1 1 2 rfl
  have e2 := pieces cs 2 1 3 rfl
  have e3 := pieces cs 3 1 4 rfl
  rw [e1, e2, e3, cE, c3, c2, c1, c0] at e0
  simpa [encCp] using e0
set_option maxRecDepth 100000 in
theorem openCg : Opens encH Tryd.prog w base spare held 82 encCg (CgOk w) := by
  intro fuel cs x h
  obtain ⟨xs, n, rfl, hx, hlen, hxl, hf⟩ := DataW.trod_struct Tryd.underlying82 h
  have hlen2 : cs.length = 7 := hlen.trans (by kernel_rfl)
  clear hlen
  have hxl2 : xs.length = 7 := hxl
  have f0 := (hf 0 _ rfl).trans (List.getElem?_eq_getElem (by omega))
  have f1 := (hf 1 _ rfl).trans (List.getElem?_eq_getElem (by omega))
  have f2 := (hf 2 _ rfl).trans (List.getElem?_eq_getElem (by omega))
  have f3 := (hf 3 _ rfl).trans (List.getElem?_eq_getElem (by omega))
  have f4 := (hf 4 _ rfl).trans (List.getElem?_eq_getElem (by omega))
  have f5 := (hf 5 _ rfl).trans (List.getElem?_eq_getElem (by omega))
  have f6 := (hf 6 _ rfl).trans (List.getElem?_eq_getElem (by omega))
  obtain ⟨key, h0, _, _⟩ := DataW.trod_string Tryd.underlying9 f0
  have c0 : (cs.drop 0).take 1 = [.string key] := h0
  obtain ⟨veh, h1, _, _⟩ := DataW.trod_string Tryd.underlying9 f1
  have c1 : (cs.drop 1).take 1 = [.string veh] := h1
  obtain ⟨sys, h2, _, _⟩ := DataW.trod_string Tryd.underlying9 f2
  have c2 : (cs.drop 2).take 1 = [.string sys] := h2
  obtain ⟨cls, h3, _, _⟩ := DataW.trod_int Tryd.underlying3 f3
  have c3 : (cs.drop 3).take 1 = [.int .i64 cls] := h3
  obtain ⟨tm, h4, _, _⟩ := DataW.trod_int Tryd.underlying3 f4
  have c4 : (cs.drop 4).take 1 = [.int .i64 tm] := h4
  obtain ⟨lA, lc, lns, h5, k5, m5, r5, o5⟩ := open_list Tryd.underlying80 (by kernel_rfl) (by omega) encLn_ok.1 openLn f5
  have c5 : (cs.drop 5).take 1 = [.slice lA lns.length lc] := h5
  obtain ⟨ct, h6, _, _⟩ := DataW.trod_int Tryd.underlying3 f6
  have c6 : (cs.drop 6).take 1 = [.int .i64 ct] := h6
  have cE : cs.drop 7 = [] := List.drop_eq_nil_of_le (Nat.le_of_eq hlen2)
  refine ⟨⟨⟨key, veh, sys, cls, tm, lns, ct⟩, lA, lc⟩, ?_, ⟨r5, k5, by unfold maxLen at m5; show lc ≤ _; omega⟩⟩
  have e0 := pieces cs 0 1 1 rfl
  have e1 := pieces cs 1 1 2 rfl
  have e2 := pieces cs 2 1 3 rfl
  have e3 := pieces cs 3 1 4 rfl
  have e4 := pieces cs 4 1 5 rfl
  have e5 := pieces cs 5 1 6 rfl
  have e6 := pieces cs 6 1 7 rfl
  rw [e1, e2, e3, e4, e5, e6, cE, c6, c5, c4, c3, c2, c1, c0] at e0
  simpa [encCg] using e0
set_option maxRecDepth 100000 in
theorem openBl : Opens encH Tryd.prog w base spare held 35 encBl (BlOk w) := by
  intro fuel cs x h
  obtain ⟨xs, n, rfl, hx, hlen, hxl, hf⟩ := DataW.trod_struct Tryd.underlying35 h
  have hlen2 : cs.length = 3 := hlen.trans (by kernel_rfl)
  clear hlen
  have hxl2 : xs.length = 3 := hxl
  have f0 := (hf 0 _ rfl).trans (List.getElem?_eq_getElem (by omega))
  have f1 := (hf 1 _ rfl).trans (List.getElem?_eq_getElem (by omega))
  have f2 := (hf 2 _ rfl).trans (List.getElem?_eq_getElem (by omega))
  obtain ⟨aA, ac, acs, h0, k0, m0, r0, o0⟩ := open_list Tryd.underlying31 (by kernel_rfl) (by omega) encAc_ok.1 openAc f0
  have c0 : (cs.drop 0).take 1 = [.slice aA acs.length ac] := h0
  obtain ⟨cA, cc, caps, h1, k1, m1, r1, o1⟩ := open_list Tryd.underlying32 (by kernel_rfl) (by omega) encCp_ok.1 openCp f1
  have c1 : (cs.drop 1).take 1 = [.slice cA caps.length cc] := h1
  obtain ⟨A, c, l, h2, k2, m2, r2, o2⟩ := open_list Tryd.underlying33 (by kernel_rfl) (by omega) encCg_ok.1 openCg f2
  have c2 : (cs.drop 2).take 1 = [.slice A l.length c] := h2
  have cE : cs.drop 3 = [] := List.drop_eq_nil_of_le (Nat.le_of_eq hlen2)
  refine ⟨⟨aA, ac, acs, cA, cc, caps, A, c, l⟩, ?_, ⟨⟨⟨r0, o0, k0, by unfold maxLen at m0; show ac ≤ _; omega⟩, r1, ⟨r2, o2⟩, by unfold maxLen at m1; show caps.length ≤ _; have := k1; omega, by unfold maxLen at m2; show l.length ≤ _; have := k2; omega⟩, k2⟩⟩
  have e0 := pieces cs 0 1 1 rfl
  have e1 := pieces cs 1 1 2 rfl
  have e2 := pieces cs 2 1 3 rfl
  rw [e1, e2, cE, c2, c1, c0] at e0
  simpa [encBl] using e0
end
end Go.Proofs.YtlnnbkpcnhlfcaaDoor
