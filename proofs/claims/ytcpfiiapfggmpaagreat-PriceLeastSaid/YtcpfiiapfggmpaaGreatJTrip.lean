/- Joined texts: Trip, PtzHolds0, TarBand, TarClone. -/
import Derived.Test.YtcpfiiapfggmpaaGreatJRelMath
import Derived.Test.YtcpfiiapfggmpaaGreatJSpanMath
import Derived.Test.YtcpfiiapfggmpaaGreatProg
import Derived.Test.YtcpfiiapfggmpaaGreatBase
import Derived.Test.YtcpfiiapfggmpaaGreatPrzHolds0
import Derived.Test.YtcpfiiapfggmpaaGreatJZoneLeaf
import Derived.Test.YtcpfiiapfggmpaaGreatJNetTar
import Derived.Test.YtcpfiiapfggmpaaGreatJSumAny
import Derived.Shelf.SlicesE.Clone
/- Stops and trips as values. -/
namespace Go.Proofs.YtcpfiiapfggmpaaGreat
open Go.RowKit Go.Lib

structure Stp where
  pt : ByteArray
  t : Int
  pg : ByteArray
instance : Inhabited Stp := ⟨⟨⟨#[]⟩, 0, ⟨#[]⟩⟩⟩
def encSp (s : Stp) : List Value := [.string s.pt, .int .i64 s.t, .string s.pg]
theorem encSp_ok : Enc encSp 3 := ⟨fun _ => rfl, fun x u hu => by simp [encSp] at hu; rcases hu with rfl | rfl | rfl <;> rfl⟩
/-- a trip -/
structure Trp where
  id : ByteArray
  vh : ByteArray
  sy : ByteArray
  cl : Int
  sA : Option Addr
  sc : Nat
  ss : List Stp
def encTr (t : Trp) : List Value := [.string t.id, .string t.vh, .string t.sy, .int .i64 t.cl, .slice t.sA t.ss.length t.sc]
def TrV (t : Trp) : Value := .agg #[.string t.id, .string t.vh, .string t.sy, .int .i64 t.cl, .slice t.sA t.ss.length t.sc]
def TrOk (w : World) (t : Trp) : Prop := Rd encSp 3 w w.heap.size t.sA t.ss ∧ t.ss.length ≤ 9223372036854775807
theorem TrOk.st {w w' : World} {t : Trp} (h : TrOk w t) (hb : Below w.heap.size w w') : TrOk w' t := ⟨h.1.st hb, h.2⟩
end Go.Proofs.YtcpfiiapfggmpaaGreat
/- A trip as it comes: opened, its identifier's size with it. -/
namespace Go.Proofs.YtcpfiiapfggmpaaGreat
open Go.ChangeShapes Go.WideShapes Go.ChangeAt Go.RowKit Go.Lib Go.Deep
set_option linter.unusedVariables false

theorem u8_range {n : Int} (h : (Lit.int .u8 n).wf = true) : 0 ≤ n ∧ n ≤ 255 := by
  simp [Lit.wf, IntKind.min, IntKind.max, IntKind.signed, IntKind.bits] at h
  omega
theorem u16_range {n : Int} (h : (Lit.int .u16 n).wf = true) : 0 ≤ n ∧ n ≤ 65535 := by
  simp [Lit.wf, IntKind.min, IntKind.max, IntKind.signed, IntKind.bits] at h
  omega
def TrSz (w : World) (t : Trp) : Prop := TrOk w t ∧ t.id.size ≤ 1000000000000000000
section
variable {H : Type} {encH : TypeId × Value → H} {w : World} {base : Nat} {spare : Nat → Bool} {held : Bool}
set_option maxRecDepth 100000 in
theorem openStp : Opens encH Tryz.prog w base spare held 109 encSp (fun _ => True) := by
  intro fuel cs x h
  obtain ⟨xs, n, rfl, hx, hlen, hxl, hf⟩ := DataW.trod_struct Tryz.underlying109 h
  have hlen2 : cs.length = 3 := hlen.trans (by kernel_rfl)
  clear hlen
  have hxl2 : xs.length = 3 := hxl
  have f0 := (hf 0 _ rfl).trans (List.getElem?_eq_getElem (by omega))
  have f1 := (hf 1 _ rfl).trans (List.getElem?_eq_getElem (by omega))
  have f2 := (hf 2 _ rfl).trans (List.getElem?_eq_getElem (by omega))
  obtain ⟨a, h0, _, _⟩ := DataW.trod_string Tryz.underlying9 f0
  have c0 : (cs.drop 0).take 1 = [.string a] := h0
  obtain ⟨b, h1, _, _⟩ := DataW.trod_int Tryz.underlying3 f1
  have c1 : (cs.drop 1).take 1 = [.int .i64 b] := h1
  obtain ⟨c, h2, _, _⟩ := DataW.trod_string Tryz.underlying9 f2
  have c2 : (cs.drop 2).take 1 = [.string c] := h2
  have cE : cs.drop 3 = [] := List.drop_eq_nil_of_le (Nat.le_of_eq hlen2)
  refine ⟨⟨a, b, c⟩, ?_, trivial⟩
  have e0 := pieces cs 0 1 1 rfl
  have e1 := pieces cs 1 1 2 rfl
  have e2 := pieces cs 2 1 3 rfl
  rw [e1, e2, cE, c2, c1, c0] at e0
  simpa [encSp] using e0
set_option maxRecDepth 100000 in
theorem openTrpS : OpensS encH Tryz.prog w base spare held 49 encTr (TrSz w) := by
  intro fuel cs x h hz
  obtain ⟨xs, n, rfl, hx, hlen, hxl, hf⟩ := DataW.trod_struct Tryz.underlying49 h
  have hlen2 : cs.length = 5 := hlen.trans (by kernel_rfl)
  clear hlen
  have hxl2 : xs.length = 5 := hxl
  have f0 := (hf 0 _ rfl).trans (List.getElem?_eq_getElem (by omega))
  have f1 := (hf 1 _ rfl).trans (List.getElem?_eq_getElem (by omega))
  have f2 := (hf 2 _ rfl).trans (List.getElem?_eq_getElem (by omega))
  have f3 := (hf 3 _ rfl).trans (List.getElem?_eq_getElem (by omega))
  have f4 := (hf 4 _ rfl).trans (List.getElem?_eq_getElem (by omega))
  subst hx
  obtain ⟨i, h0, y0, _⟩ := DataW.trod_string Tryz.underlying9 f0
  have z0 : i.size ≤ reachBytes := Sized.field Tryz.underlying49 hz (i := 0) rfl (by rw [List.getElem?_map, List.getElem?_eq_getElem (by omega : 0 < xs.length), Option.map_some]) _ (by rw [y0]; simp only [DataW.weights, Array.length_toList]; exact List.mem_singleton.2 rfl)
  have c0 : (cs.drop 0).take 1 = [.string i] := h0
  obtain ⟨vh, h1, _, _⟩ := DataW.trod_string Tryz.underlying9 f1
  have c1 : (cs.drop 1).take 1 = [.string vh] := h1
  obtain ⟨sy, h2, _, _⟩ := DataW.trod_string Tryz.underlying9 f2
  have c2 : (cs.drop 2).take 1 = [.string sy] := h2
  obtain ⟨cl, h3, _, _⟩ := DataW.trod_int Tryz.underlying3 f3
  have c3 : (cs.drop 3).take 1 = [.int .i64 cl] := h3
  obtain ⟨sA, sc, ss, h4, k4, m4, r4, o4⟩ := open_list Tryz.underlying47 (by kernel_rfl) (by omega) encSp_ok.1 openStp f4
  have c4 : (cs.drop 4).take 1 = [.slice sA ss.length sc] := h4
  have cE : cs.drop 5 = [] := List.drop_eq_nil_of_le (Nat.le_of_eq hlen2)
  refine ⟨⟨i, vh, sy, cl, sA, sc, ss⟩, ?_, ⟨⟨r4, by unfold maxLen at m4; have := k4; show ss.length ≤ _; omega⟩, by have := reachBytes_lt; show i.size ≤ _; omega⟩⟩
  have e0 := pieces cs 0 1 1 rfl
  have e1 := pieces cs 1 1 2 rfl
  have e2 := pieces cs 2 1 3 rfl
  have e3 := pieces cs 3 1 4 rfl
  have e4 := pieces cs 4 1 5 rfl
  rw [e1, e2, e3, e4, cE, c4, c3, c2, c1, c0] at e0
  simpa [encTr] using e0
end
end Go.Proofs.YtcpfiiapfggmpaaGreat
/- The band of a time: tariff.Band and the reference's, walked. -/
set_option linter.unusedSimpArgs false
namespace Go.Proofs.YtcpfiiapfggmpaaGreat
open Go.RowKit Go.Lib

/-- is a time in a band's window -/
def inW (p : Bd) (x : Int) : Bool := decide (0 ≤ x ∧ x < 68719476736) && decide (wAt (p.d, p.f, p.t) x)
def bandM (x : Int) : List Bd → ByteArray
  | [] => ⟨#[]⟩
  | p :: l => if inW p x = true then p.name else bandM x l
theorem drop_at {α : Type} {l : List α} {k : Nat} {x : α} (h : l[k]? = some x) : l.drop k = x :: l.drop (k + 1) := by
  obtain ⟨h1, rfl⟩ := List.getElem?_eq_some_iff.1 h
  exact List.drop_eq_getElem_cons h1
theorem bandM_at {x : Int} {l : List Bd} {k : Nat} {p : Bd} (h : l[k]? = some p) : bandM x (l.drop k) = if inW p x = true then p.name else bandM x (l.drop (k + 1)) := by rw [drop_at h]; rfl

set_option maxRecDepth 100000 in
set_option maxHeartbeats 4000000 in
theorem tband_any {bA rA : Option Addr} (f t x : Int) (bc n rc : Nat) {bs : List Bd} {w : World} (h : Rd encBd 4 w w.heap.size bA bs) (hl : bs.length ≤ 1000000) :
    Calls Tryz.prog 79 #[.agg #[.int .i64 f, .int .i64 t, .slice bA bs.length bc, .slice rA n rc], .int .i64 x] w fun e w' => e = .returned (.string (bandM x bs)) ∧ Below w.heap.size w w' := by
  obtain ⟨Y1, hY1⟩ : ∃ Y, w.alloc (.cells #[.int .i64 f, .int .i64 t, .slice bA bs.length bc, .slice rA n rc] 104) = Y := ⟨_, rfl⟩
  have b1 : Below w.heap.size w Y1 := by rw [← hY1]; exact (Below.refl _ w).al _
  have B1 : Blk Y1 w.heap.size #[.int .i64 f, .int .i64 t, .slice bA bs.length bc, .slice rA n rc] 104 := by rw [← hY1]; exact Blk.new w _ _
  have y2 := B1.cell 2 (v := .slice bA bs.length bc) rfl
  have H := Lib.hid (h.st b1)
  clear h B1
  generalize hr : bandM x bs = r
  have HR := Lib.hid hr
  clear hr
  go_enter Tryz.func79, Tryz.ntmps79
  go_wp2_with fail
  go_loopw [10] (fun i wr => ∃ k : Nat, k ≤ bs.length ∧ i = .int .i64 k ∧ Hid (bandM x (bs.drop k) = r) ∧ Below Y1.heap.size Y1 wr) (fun i _ => bs.length - (RowKit.intOf i).toNat)
  case atStart => exact ⟨0, Nat.zero_le _, rfl, HR, Below.refl _ _⟩
  case round =>
    clear HR
    obtain ⟨k, hk, rfl, HR, bR⟩ := hrel
    have k1 : (0 : Int) ≤ (k : Int) := by omega
    by_cases hi : k < bs.length
    · have k2 : (k : Int) < (bs.length : Int) := by omega
      obtain ⟨b, off, p, hA, hb, hx, d0, d1, d2, d3⟩ := (H.out.st bR).bd hi
      subst hA
      have HK := Lib.hid hi
      have HT := Lib.hid (bandM_at (x := x) hx)
      obtain ⟨Y2, hY2⟩ : ∃ Y, wr.alloc (.cells #[.string p.name, .int .i64 p.d, .int .i64 p.f, .int .i64 p.t] 166) = Y := ⟨_, rfl⟩
      have BX : Blk Y2 wr.heap.size #[.string p.name, .int .i64 p.d, .int .i64 p.f, .int .i64 p.t] 166 := by rw [← hY2]; exact Blk.new wr _ _
      have b2 : Below wr.heap.size wr Y2 := by rw [← hY2]; exact (Below.refl _ wr).al _
      have bR2 := bR.st b2
      have x0 := BX.cell 0 (v := .string p.name) rfl
      have x1 := BX.cell 1 (v := .int .i64 p.d) rfl
      have x2 := BX.cell 2 (v := .int .i64 p.f) rfl
      have x3 := BX.cell 3 (v := .int .i64 p.t) rfl
      have CI := Lib.hid (show Calls Tryz.prog 90 #[.agg #[.int .i64 p.d, .int .i64 p.f, .int .i64 p.t], .int .i64 x] Y2 fun e w' => e = .returned (.bool (inW p x)) ∧ Below Y2.heap.size Y2 w' from in_any (p.d, p.f, p.t) x Y2)
      clear hx hi hb b2 bR
      cases hin : inW p x
      · have R := Lib.hid (HT.out.symm.trans HR.out)
        rw [hin, if_neg (by simp)] at R
        rw [hin] at CI
        clear HR HT hin
        go_wp2_with fail
        refine CI.out.mono ?_
        rintro e W3 ⟨rfl, b3⟩
        have bR3 := bR2.st b3
        go_wp2_with fail
        go_roundw
        case rel => exact ⟨k + 1, HK.out, by go_num, R, bR3⟩
        case measure => have := HK.out; simp [RowKit.intOf]; omega
      · have R := Lib.hid (HT.out.symm.trans HR.out)
        rw [hin, if_pos rfl] at R
        rw [hin] at CI
        clear HR HT hin
        go_wp2_with fail
        refine CI.out.mono ?_
        rintro e W3 ⟨rfl, b3⟩
        have bR3 := bR2.st b3
        have x0 := (BX.below b3 BX.lt).cell 0 (v := .string p.name) rfl
        go_wp2_with fail
        go_ret
        rw [R.out]
        exact ⟨rfl, b1.st bR3⟩
    · obtain rfl : k = bs.length := by omega
      have R := Lib.hid (show (⟨#[]⟩ : ByteArray) = r by rw [← HR.out, List.drop_length]; rfl)
      clear HR
      go_wp2_with fail
      go_ret
      rw [← R.out]
      exact ⟨rfl, b1.st bR⟩

set_option maxRecDepth 100000 in
set_option maxHeartbeats 4000000 in
theorem rband_any {bA rA : Option Addr} (f t x : Int) (bc n rc : Nat) {bs : List Bd} {w : World} (h : Rd encBd 4 w w.heap.size bA bs) (hl : bs.length ≤ 1000000) :
    Calls Tryz.prog 82 #[.agg #[.int .i64 f, .int .i64 t, .slice bA bs.length bc, .slice rA n rc], .int .i64 x] w fun e w' => e = .returned (.string (bandM x bs)) ∧ Below w.heap.size w w' := by
  obtain ⟨Y1, hY1⟩ : ∃ Y, w.alloc (.cells #[.int .i64 f, .int .i64 t, .slice bA bs.length bc, .slice rA n rc] 104) = Y := ⟨_, rfl⟩
  have b1 : Below w.heap.size w Y1 := by rw [← hY1]; exact (Below.refl _ w).al _
  have B1 : Blk Y1 w.heap.size #[.int .i64 f, .int .i64 t, .slice bA bs.length bc, .slice rA n rc] 104 := by rw [← hY1]; exact Blk.new w _ _
  have H := Lib.hid (h.st b1)
  have HB1 := Lib.hid B1
  have y1 := B1.cell 1 (v := .int .i64 t) rfl
  clear h B1
  generalize hr : bandM x bs = r
  have HR := Lib.hid hr
  clear hr
  go_enter Tryz.func82, Tryz.ntmps82
  go_wp2_with fail
  go_loopw [5] (fun i wr => ∃ k : Nat, k ≤ bs.length ∧ i = .int .i64 k ∧ Hid (bandM x (bs.drop k) = r) ∧ Below Y1.heap.size Y1 wr) (fun i _ => bs.length - (RowKit.intOf i).toNat)
  case atStart => exact ⟨0, Nat.zero_le _, rfl, HR, Below.refl _ _⟩
  case round =>
    clear HR
    obtain ⟨k, hk, rfl, HR, bR⟩ := hrel
    have k1 : (0 : Int) ≤ (k : Int) := by omega
    have z2 := (HB1.out.below bR HB1.out.lt).cell 2 (v := .slice bA bs.length bc) rfl
    by_cases hi : k < bs.length
    · have k2 : (k : Int) < (bs.length : Int) := by omega
      obtain ⟨b, off, p, hA, hb, hx, d0, d1, d2, d3⟩ := (H.out.st bR).bd hi
      subst hA
      have HK := Lib.hid hi
      have HT := Lib.hid (bandM_at (x := x) hx)
      have CI := Lib.hid (show Calls Tryz.prog 98 #[.agg #[.int .i64 p.d, .int .i64 p.f, .int .i64 p.t], .int .i64 x] wr fun e w' => e = .returned (.bool (inW p x)) ∧ Below wr.heap.size wr w' from rIn_any (p.d, p.f, p.t) x wr)
      have HD := Lib.hid (fun (X : World) (hX : Below wr.heap.size wr X) => (hX.cell (p := ⟨b, off + k * 4, none⟩) hb).trans d0)
      clear hx hi hb
      cases hin : inW p x
      · have R := Lib.hid (HT.out.symm.trans HR.out)
        rw [hin, if_neg (by simp)] at R
        rw [hin] at CI
        clear HR HT hin
        go_wp2_with fail
        refine CI.out.mono ?_
        rintro e W3 ⟨rfl, b3⟩
        have bR3 := bR.st b3
        go_wp2_with fail
        go_roundw
        case rel => exact ⟨k + 1, HK.out, by go_num, R, bR3⟩
        case measure => have := HK.out; simp [RowKit.intOf]; omega
      · have R := Lib.hid (HT.out.symm.trans HR.out)
        rw [hin, if_pos rfl] at R
        rw [hin] at CI
        clear HR HT hin
        go_wp2_with fail
        refine CI.out.mono ?_
        rintro e W3 ⟨rfl, b3⟩
        have bR3 := bR.st b3
        have d0 := HD.out W3 b3
        have z2 := (HB1.out.below bR3 HB1.out.lt).cell 2 (v := .slice (some ⟨b, off, none⟩) bs.length bc) rfl
        go_wp2_with fail
        go_ret
        rw [R.out]
        exact ⟨rfl, b1.st bR3⟩
    · obtain rfl : k = bs.length := by omega
      have R := Lib.hid (show (⟨#[]⟩ : ByteArray) = r by rw [← HR.out, List.drop_length]; rfl)
      clear HR
      go_wp2_with fail
      go_ret
      rw [← R.out]
      exact ⟨rfl, b1.st bR⟩
end Go.Proofs.YtcpfiiapfggmpaaGreat
/- The reference's Has, and tariff.At's clones of bands and rates. -/
set_option linter.unusedSimpArgs false
namespace Go.Proofs.YtcpfiiapfggmpaaGreat
open Go.RowKit Go.Lib

theorem rvalidT_any (f t : Int) (w : World) :
    Calls Tryz.prog 38 #[.agg #[.int .i64 f, .int .i64 t]] w fun e w' => e = .returned (.bool (validB f t)) ∧ w.alloc (.cells #[.int .i64 f, .int .i64 t] 59) = w' := by
  unfold validB
  go_enter Tryz.func38, Tryz.ntmps38
  go_wp2
  all_goals (go_ret; exact ⟨ret_bool (by rw [Bool.eq_iff_iff]; simp; omega), rfl⟩)

set_option maxHeartbeats 800000 in
theorem rhasT_any (A : Option Addr) (c : Nat) (l : List Iv) (t : Int) (w : World) (h : Rd encIv 2 w w.heap.size A l) (hl : l.length ≤ 1000000000000) :
    Calls Tryz.prog 80 #[.slice A l.length c, .int .i64 t] w fun e w' => e = .returned (.bool (hasB l t)) ∧ Below w.heap.size w w' := by
  go_enter Tryz.func80, Tryz.ntmps80
  go_wp2
  go_loopw [5] (fun i wr => ∃ k : Nat, k ≤ l.length ∧ i = .int .i64 k ∧ hasB (l.take k) t = false ∧ Below w.heap.size w wr) (fun i _ => l.length - (RowKit.intOf i).toNat)
  case atStart => exact ⟨0, Nat.zero_le _, rfl, rfl, Below.refl _ _⟩
  case round =>
    obtain ⟨k, hk, rfl, hno, hbel⟩ := hrel
    by_cases hlt : k < l.length
    · obtain ⟨b, off, f, u, rfl, hb, hx, hc0, hc1⟩ := (h.keep hbel).iv hlt
      clear h
      have hb' : b < wr.heap.size := Nat.lt_of_lt_of_le hb hbel.size
      have hbal : Below w.heap.size w (wr.alloc (.cells #[.int .i64 f, .int .i64 u] 59)) := hbel.alloc hbel.size _
      have hsn : hasB (l.take (k + 1)) t = (validB f u && decide (f ≤ t) && decide (t < u)) := by
        rw [take_snoc hx]; unfold hasB at *; rw [List.any_append, hno]; simp
      have hall : hasB (l.take (k + 1)) t = true → hasB l t = true := fun hh => by
        unfold hasB at *
        rw [List.any_eq_true] at *
        obtain ⟨x, hx, hp⟩ := hh
        exact ⟨x, List.mem_of_mem_take hx, hp⟩
      have Hno := Lib.hid hno; clear hno
      have Hx := Lib.hid hx; clear hx
      have Hs := Lib.hid hsn; clear hsn
      have Ha := Lib.hid hall; clear hall
      cases hv : validB f u
      · go_wp2_with (go_at_call 38; refine (rvalidT_any _ _ _).mono ?_; rintro e w' ⟨rfl, rfl⟩)
        go_roundw
        case rel => exact ⟨k + 1, by omega, by go_num, by rw [Hs.out, hv]; rfl, hbal⟩
        case measure => simp [RowKit.intOf]; omega
      · by_cases h1 : f ≤ t
        · by_cases h2 : t < u
          · go_wp2_with (go_at_call 38; refine (rvalidT_any _ _ _).mono ?_; rintro e w' ⟨rfl, rfl⟩)
            go_ret
            exact ⟨ret_bool (Ha.out (by rw [Hs.out, hv, decide_eq_true h1, decide_eq_true h2]; rfl)).symm, hbal⟩
          · go_wp2_with (go_at_call 38; refine (rvalidT_any _ _ _).mono ?_; rintro e w' ⟨rfl, rfl⟩)
            go_roundw
            case rel => exact ⟨k + 1, by omega, by go_num, by rw [Hs.out, decide_eq_false (show ¬ t < u by omega), Bool.and_false], hbal⟩
            case measure => simp [RowKit.intOf]; omega
        · go_wp2_with (go_at_call 38; refine (rvalidT_any _ _ _).mono ?_; rintro e w' ⟨rfl, rfl⟩)
          go_roundw
          case rel => exact ⟨k + 1, by omega, by go_num, by rw [Hs.out, decide_eq_false (show ¬ f ≤ t by omega), Bool.and_false, Bool.false_and], hbal⟩
          case measure => simp [RowKit.intOf]; omega
    · obtain rfl : k = l.length := by omega
      have Hno := Lib.hid hno; clear hno
      go_wp2
      go_ret
      exact ⟨ret_bool (by have := Hno.out; rw [List.take_length] at this; exact this.symm), hbel⟩


theorem tyBd : TyS Tryz.prog 101 166 4 40 := TyS.mk' (z := .agg #[.string ⟨#[]⟩, .int .i64 0, .int .i64 0, .int .i64 0]) Tryz.underlying101 (by kernel_rfl) rfl (by omega)
set_option maxRecDepth 100000 in
set_option maxHeartbeats 2000000 in
theorem cloneBd_any {a : Addr} (c : Nat) {l : List Bd} {w : World} (h : Rd encBd 4 w w.heap.size (some a) l) (hl : l.length ≤ 1000000) :
    Calls Tryz.prog 77 #[.slice (some a) l.length c] w fun e w' => ∃ A' c', e = .returned (.slice A' l.length c') ∧ Own 166 encBd 4 w' w.heap.size A' c' l ∧ Below w.heap.size w w' := by
  have qn : ∀ (w : World) (a : Option Addr) (n c n' c' : Nat), (binOp .eql 101 (.slice a n c) (.slice none n' c')).run Tryz.prog w = .ok (.bool a.isNone) w := fun w a n c n' c' => Lib.run_eql_slice_nil w _ _ a n c n' c' Tryz.underlying101
  have H := Lib.hid h
  clear h
  have hown := Own.lit (e := 166) (cs := #[]) w w.heap.size ([] : List Bd) (g := w.heap.size) encBd_ok rfl rfl (Nat.le_refl _) (by simp)
  have hb0 := (Below.refl w.heap.size w).al (.cells #[] 166)
  have hr := H.out.st hb0
  have hbs : w.heap.size ≤ (w.alloc (.cells #[] 166)).heap.size := by simp
  go_enter Tryz.func77, Tryz.ntmps77
  go_wp2_with (at_builtin; refine wpList_appS rfl (.tmp 5) (.tmp 6) tyBd encBd_ok rfl _ rfl (by first | rfl | simp) hown l rfl (by first | rfl | simp) hr (by first | omega | (simp; done) | (simp; omega)) (by first | omega | (simp; done) | (simp; omega)) hbs ?_; intro A4 c4 w4 hown4 hb4 hs4 hf4)
  go_ret
  exact ⟨A4, c4, by simp, by simpa using hown4, hb0.trans hb4⟩
set_option maxRecDepth 100000 in
set_option maxHeartbeats 2000000 in
theorem cloneBd_none (c : Nat) (w : World) : Calls Tryz.prog 77 #[.slice none 0 c] w fun e w' => e = .returned (.slice none 0 0) ∧ w' = w := by
  have qn : ∀ (w : World) (a : Option Addr) (n c n' c' : Nat), (binOp .eql 101 (.slice a n c) (.slice none n' c')).run Tryz.prog w = .ok (.bool a.isNone) w := fun w a n c n' c' => Lib.run_eql_slice_nil w _ _ a n c n' c' Tryz.underlying101
  go_enter Tryz.func77, Tryz.ntmps77
  go_wp2
  go_ret
  exact ⟨rfl, rfl⟩
set_option maxRecDepth 100000 in
set_option maxHeartbeats 2000000 in
theorem cloneRt_none (c : Nat) (w : World) : Calls Tryz.prog 78 #[.slice none 0 c] w fun e w' => e = .returned (.slice none 0 0) ∧ w' = w := by
  have qn : ∀ (w : World) (a : Option Addr) (n c n' c' : Nat), (binOp .eql 102 (.slice a n c) (.slice none n' c')).run Tryz.prog w = .ok (.bool a.isNone) w := fun w a n c n' c' => Lib.run_eql_slice_nil w _ _ a n c n' c' Tryz.underlying102
  go_enter Tryz.func78, Tryz.ntmps78
  go_wp2
  go_ret
  exact ⟨rfl, rfl⟩
theorem nil_of_none {α : Type} {enc : α → List Value} {k : Nat} {w : World} {B : Nat} {l : List α} (h : Rd enc k w B none l) : l = [] := by
  cases l with
  | nil => rfl
  | cons x l =>
    obtain ⟨b, off, hA, _⟩ := h (by simp)
    cases hA
theorem cloneBd_gen {A : Option Addr} (c : Nat) {l : List Bd} {w : World} (h : Rd encBd 4 w w.heap.size A l) (hl : l.length ≤ 1000000) :
    Calls Tryz.prog 77 #[.slice A l.length c] w fun e w' => ∃ A' c', e = .returned (.slice A' l.length c') ∧ Own 166 encBd 4 w' w.heap.size A' c' l ∧ Below w.heap.size w w' := by
  cases A with
  | some a => exact cloneBd_any c h hl
  | none =>
    have := nil_of_none h
    subst this
    refine (cloneBd_none c w).mono ?_
    rintro e w' ⟨rfl, rfl⟩
    exact ⟨none, 0, rfl, Own.nil _ _, Below.refl _ _⟩
theorem cloneRt_gen {A : Option Addr} (c : Nat) {l : List Rt} {w : World} (h : Rd encRt 5 w w.heap.size A l) (hl : l.length ≤ 1000000) :
    Calls Tryz.prog 78 #[.slice A l.length c] w fun e w' => ∃ A' c', e = .returned (.slice A' l.length c') ∧ Own 107 encRt 5 w' w.heap.size A' c' l ∧ Below w.heap.size w w' := by
  cases A with
  | some a => exact cloneRt_any c h hl
  | none =>
    have := nil_of_none h
    subst this
    refine (cloneRt_none c w).mono ?_
    rintro e w' ⟨rfl, rfl⟩
    exact ⟨none, 0, rfl, Own.nil _ _, Below.refl _ _⟩
end Go.Proofs.YtcpfiiapfggmpaaGreat
