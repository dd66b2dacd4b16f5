/- Joined texts: Trip, PbzHolds0, ZoneLeafB, ZoneIn. -/
import Derived.Test.YtcpfiiapfggmpaaGreatJRelMath
import Derived.Test.YtcpfiiapfggmpaaGreatJFirst
import Derived.Test.YtcpfiiapfggmpaaGreatProg
import Derived.Test.YtcpfiiapfggmpaaGreatBase
import Derived.Test.YtcpfiiapfggmpaaGreatPrzHolds0
import Derived.Test.YtcpfiiapfggmpaaGreatJZoneLeaf
/- Stops and trips as values. -/
namespace Go.Proofs.YtcpfiiapfggmpaaGreat
open Go.RowKit Go.Lib

structure Stp where
  pt : ByteArray
  t : Int
  pg : ByteArray
instance : Inhabited Stp := ⟨⟨⟨#[]⟩, 0, ⟨#[]⟩⟩⟩
def encSp (s : Stp) : List Value := [.string s.pt, .int .i64 s.t, .string s.pg]
theorem encSp_ok : Enc encSp 3 := ⟨fun _ => rfl, fun x u hu => by simp [encSp] at hu; rcases hu with rfl | rfl | rfl <;> rfl⟩
/-- a trip -/
structure Trp where
  id : ByteArray
  vh : ByteArray
  sy : ByteArray
  cl : Int
  sA : Option Addr
  sc : Nat
  ss : List Stp
def encTr (t : Trp) : List Value := [.string t.id, .string t.vh, .string t.sy, .int .i64 t.cl, .slice t.sA t.ss.length t.sc]
theorem encTr_ok : Enc encTr 5 := ⟨fun _ => rfl, fun x u hu => by simp [encTr] at hu; rcases hu with rfl | rfl | rfl | rfl | rfl <;> rfl⟩
def TrV (t : Trp) : Value := .agg #[.string t.id, .string t.vh, .string t.sy, .int .i64 t.cl, .slice t.sA t.ss.length t.sc]
def TrOk (w : World) (t : Trp) : Prop := Rd encSp 3 w w.heap.size t.sA t.ss ∧ t.ss.length ≤ 9223372036854775807
theorem TrOk.st {w w' : World} {t : Trp} (h : TrOk w t) (hb : Below w.heap.size w w') : TrOk w' t := ⟨h.1.st hb, h.2⟩
theorem Rd.tp {w : World} {B : Nat} {A : Option Addr} {l : List Trp} (h : Rd encTr 5 w B A l) {i : Nat} (hi : i < l.length) :
    ∃ b off t, A = some ⟨b, off, none⟩ ∧ b < B ∧ l[i]? = some t ∧ w.cell? ⟨b, off + i * 5, none⟩ = some (.string t.id) ∧ w.cell? ⟨b, off + i * 5 + 1, none⟩ = some (.string t.vh) ∧ w.cell? ⟨b, off + i * 5 + 2, none⟩ = some (.string t.sy) ∧ w.cell? ⟨b, off + i * 5 + 3, none⟩ = some (.int .i64 t.cl) ∧ w.cell? ⟨b, off + i * 5 + 4, none⟩ = some (.slice t.sA t.ss.length t.sc) := by
  obtain ⟨b, off, x, hA, hb, hx, hc⟩ := h.at_ hi
  exact ⟨b, off, x, hA, hb, hx, hc 0 _ rfl, hc 1 _ rfl, hc 2 _ rfl, hc 3 _ rfl, hc 4 _ rfl⟩
end Go.Proofs.YtcpfiiapfggmpaaGreat
/- A trip as it comes: opened. -/
namespace Go.Proofs.YtcpfiiapfggmpaaGreat
open Go.ChangeShapes Go.WideShapes Go.ChangeAt Go.RowKit Go.Lib Go.Deep
set_option linter.unusedVariables false
section
variable {H : Type} {encH : TypeId × Value → H} {w : World} {base : Nat} {spare : Nat → Bool} {held : Bool}
set_option maxRecDepth 100000 in
theorem openStp : Opens encH Tryz.prog w base spare held 109 encSp (fun _ => True) := by
  intro fuel cs x h
  obtain ⟨xs, n, rfl, hx, hlen, hxl, hf⟩ := DataW.trod_struct Tryz.underlying109 h
  have hlen2 : cs.length = 3 := hlen.trans (by kernel_rfl)
  clear hlen
  have hxl2 : xs.length = 3 := hxl
  have f0 := (hf 0 _ rfl).trans (List.getElem?_eq_getElem (by omega))
  have f1 := (hf 1 _ rfl).trans (List.getElem?_eq_getElem (by omega))
  have f2 := (hf 2 _ rfl).trans (List.getElem?_eq_getElem (by omega))
  obtain ⟨a, h0, _, _⟩ := DataW.trod_string Tryz.underlying9 f0
  have c0 : (cs.drop 0).take 1 = [.string a] := h0
  obtain ⟨b, h1, _, _⟩ := DataW.trod_int Tryz.underlying3 f1
  have c1 : (cs.drop 1).take 1 = [.int .i64 b] := h1
  obtain ⟨c, h2, _, _⟩ := DataW.trod_string Tryz.underlying9 f2
  have c2 : (cs.drop 2).take 1 = [.string c] := h2
  have cE : cs.drop 3 = [] := List.drop_eq_nil_of_le (Nat.le_of_eq hlen2)
  refine ⟨⟨a, b, c⟩, ?_, trivial⟩
  have e0 := pieces cs 0 1 1 rfl
  have e1 := pieces cs 1 1 2 rfl
  have e2 := pieces cs 2 1 3 rfl
  rw [e1, e2, cE, c2, c1, c0] at e0
  simpa [encSp] using e0
set_option maxRecDepth 100000 in
theorem openTrp : Opens encH Tryz.prog w base spare held 49 encTr (TrOk w) := by
  intro fuel cs x h
  obtain ⟨xs, n, rfl, hx, hlen, hxl, hf⟩ := DataW.trod_struct Tryz.underlying49 h
  have hlen2 : cs.length = 5 := hlen.trans (by kernel_rfl)
  clear hlen
  have hxl2 : xs.length = 5 := hxl
  have f0 := (hf 0 _ rfl).trans (List.getElem?_eq_getElem (by omega))
  have f1 := (hf 1 _ rfl).trans (List.getElem?_eq_getElem (by omega))
  have f2 := (hf 2 _ rfl).trans (List.getElem?_eq_getElem (by omega))
  have f3 := (hf 3 _ rfl).trans (List.getElem?_eq_getElem (by omega))
  have f4 := (hf 4 _ rfl).trans (List.getElem?_eq_getElem (by omega))
  obtain ⟨i, h0, _, _⟩ := DataW.trod_string Tryz.underlying9 f0
  have c0 : (cs.drop 0).take 1 = [.string i] := h0
  obtain ⟨vh, h1, _, _⟩ := DataW.trod_string Tryz.underlying9 f1
  have c1 : (cs.drop 1).take 1 = [.string vh] := h1
  obtain ⟨sy, h2, _, _⟩ := DataW.trod_string Tryz.underlying9 f2
  have c2 : (cs.drop 2).take 1 = [.string sy] := h2
  obtain ⟨cl, h3, _, _⟩ := DataW.trod_int Tryz.underlying3 f3
  have c3 : (cs.drop 3).take 1 = [.int .i64 cl] := h3
  obtain ⟨sA, sc, ss, h4, k4, m4, r4, o4⟩ := open_list Tryz.underlying47 (by kernel_rfl) (by omega) encSp_ok.1 openStp f4
  have c4 : (cs.drop 4).take 1 = [.slice sA ss.length sc] := h4
  have cE : cs.drop 5 = [] := List.drop_eq_nil_of_le (Nat.le_of_eq hlen2)
  refine ⟨⟨i, vh, sy, cl, sA, sc, ss⟩, ?_, ⟨r4, by unfold maxLen at m4; have := k4; show ss.length ≤ _; omega⟩⟩
  have e0 := pieces cs 0 1 1 rfl
  have e1 := pieces cs 1 1 2 rfl
  have e2 := pieces cs 2 1 3 rfl
  have e3 := pieces cs 3 1 4 rfl
  have e4 := pieces cs 4 1 5 rfl
  rw [e1, e2, e3, e4, cE, c4, c3, c2, c1, c0] at e0
  simpa [encTr] using e0
end
end Go.Proofs.YtcpfiiapfggmpaaGreat
/- More small functions of chapter 26, walked: isTime, Minute. -/
namespace Go.Proofs.YtcpfiiapfggmpaaGreat
open Go.RowKit Go.Lib

theorem isTime_any (t : Int) (w : World) :
    Calls Tryz.prog 128 #[.int .i64 t] w fun e w' => e = .returned (.bool (decide (0 ≤ t ∧ t < 68719476736))) ∧ w' = w := by
  go_enter Tryz.func128, Tryz.ntmps128
  go_wp2
  all_goals (go_ret; exact ⟨ret_bool (by rw [Bool.eq_iff_iff]; simp; omega), rfl⟩)
theorem minute_any (t : Int) (w : World) (h0 : 0 ≤ t) (h1 : t < 68719476736) :
    Calls Tryz.prog 131 #[.int .i64 t] w fun e w' => e = .returned (.int .i64 (t % 86400 / 60)) ∧ w' = w := by
  go_enter Tryz.func131, Tryz.ntmps131
  go_wp2_with (go_at_call 128; refine (isTime_any _ _).mono ?_; rintro e w' ⟨rfl, rfl⟩)
  all_goals (go_ret; exact ⟨ret_int (by go_num), rfl⟩)
end Go.Proofs.YtcpfiiapfggmpaaGreat
/- clock.In, walked. -/
namespace Go.Proofs.YtcpfiiapfggmpaaGreat
open Go.RowKit Go.Lib

theorem in_any (x : Wn) (t : Int) (w : World) :
    Calls Tryz.prog 90 #[.agg #[.int .i64 x.1, .int .i64 x.2.1, .int .i64 x.2.2], .int .i64 t] w fun e w' => e = .returned (.bool (decide (0 ≤ t ∧ t < 68719476736) && decide (wAt x t))) ∧ Below w.heap.size w w' := by
  have hb : Below w.heap.size w (w.alloc (.cells #[.int .i64 x.1, .int .i64 x.2.1, .int .i64 x.2.2] 91)) := (Below.refl _ w).al _
  generalize hr : (decide (0 ≤ t ∧ t < 68719476736) && decide (wAt x t)) = r
  go_enter Tryz.func90, Tryz.ntmps90
  by_cases ht : 0 ≤ t ∧ t < 68719476736
  · cases hv : vw x
    · have R := Lib.hid (show r = false by rw [← hr]; simp [wAt, hv])
      clear hr
      go_wp2_with (first | (go_at_call 128; refine (isTime_any _ _).mono ?_; rw [decide_eq_true ht]; rintro e w' ⟨rfl, rfl⟩) | (go_at_call 129; refine (cvalid_any x _).mono ?_; rw [hv]; rintro e w' ⟨rfl, rfl⟩))
      all_goals (go_ret; rw [R.out]; exact ⟨rfl, hb.al _⟩)
    · have hw := (vw_iff x).1 hv
      have Hv := Lib.hid hv
      cases ho : onD x.1 (t / 86400)
      · have R := Lib.hid (show r = false by rw [← hr]; simp [wAt, ho])
        clear hr
        go_wp2_with (first | (go_at_call 128; refine (isTime_any _ _).mono ?_; rw [decide_eq_true ht]; rintro e w' ⟨rfl, rfl⟩) | (go_at_call 129; refine (cvalid_any x _).mono ?_; rw [Hv.out]; rintro e w' ⟨rfl, rfl⟩) | (go_at_call 130; refine (on_any x _ _ Hv.out (by omega)).mono ?_; rw [ho]; rintro e w' ⟨rfl, rfl⟩))
        all_goals (go_ret; rw [R.out]; exact ⟨rfl, (hb.al _).al _⟩)
      · have R := Lib.hid (show r = decide (x.2.1 ≤ t % 86400 / 60 ∧ t % 86400 / 60 < x.2.2) by
          rw [← hr, Bool.eq_iff_iff]; simp [wAt, ho, Hv.out, ht]; omega)
        clear hr
        go_wp2_with (first | (go_at_call 128; refine (isTime_any _ _).mono ?_; rw [decide_eq_true ht]; rintro e w' ⟨rfl, rfl⟩) | (go_at_call 129; refine (cvalid_any x _).mono ?_; rw [Hv.out]; rintro e w' ⟨rfl, rfl⟩) | (go_at_call 130; refine (on_any x _ _ Hv.out (by omega)).mono ?_; rw [ho]; rintro e w' ⟨rfl, rfl⟩) | (go_at_call 131; refine (minute_any _ _ ht.1 ht.2).mono ?_; rintro e w' ⟨rfl, rfl⟩))
        all_goals (go_ret; rw [R.out]; exact ⟨ret_bool (by rw [Bool.eq_iff_iff]; simp; omega), (hb.al _).al _⟩)
  · have R := Lib.hid (show r = false by rw [← hr, decide_eq_false ht]; rfl)
    clear hr
    go_wp2_with (go_at_call 128; refine (isTime_any _ _).mono ?_; rw [decide_eq_false ht]; rintro e w' ⟨rfl, rfl⟩)
    all_goals (go_ret; rw [R.out]; exact ⟨rfl, hb⟩)
end Go.Proofs.YtcpfiiapfggmpaaGreat
