/- The small functions of chapter 13's statements: fewDevices, short, few. -/
import Derived.Test.YtgkppjkmakomnaaDetRSift
import Derived.BigQuiet
import Derived.IntWalk
namespace Go.Proofs.Ytgkppjkmakomnaa
open Go.RowKit Go.Lib

def DevsOk (l : List Dv) : Prop := l.length ≤ 20 ∧ ∀ d ∈ l, d.name.size ≤ 40 ∧ d.pt.size ≤ 40 ∧ d.os.length ≤ 20 ∧ d.ds.length ≤ 20
def FdR (l : List Dv) (w w' : World) (e : Ending) : Prop := ∃ b : Bool, e = .returned (.bool b) ∧ (b = true → DevsOk l) ∧ Below w.heap.size w w'
def ShR (d : Dt) (w w' : World) (e : Ending) : Prop := ∃ b : Bool, e = .returned (.bool b) ∧ (b = true → SzD d) ∧ Below w.heap.size w w'
def FwOk (ds : List Dt) : Prop := ds.length ≤ 40 ∧ ∀ d ∈ ds, SzD d
def FwR (ds : List Dt) (w w' : World) (e : Ending) : Prop := ∃ b : Bool, e = .returned (.bool b) ∧ (b = true → FwOk ds) ∧ Below w.heap.size w w'

set_option maxRecDepth 100000 in
set_option maxHeartbeats 4000000 in
theorem fewDevices_any {A : Option Addr} (c : Nat) {l : List Dv} {w : World} (h : Rd encD 6 w w.heap.size A l) (hl : l.length ≤ 9223372036854775807) :
    Calls Try.prog 11 #[.slice A l.length c] w fun e w' => FdR l w w' e := by
  have HD := Lib.hid h
  clear h
  go_enter Try.func11, Try.ntmps11
  go_wp2_with fail
  go_loopw [3] (fun i wr => ∃ k : Nat, k ≤ l.length ∧ i = .int .i64 k ∧ Hid (∀ d ∈ l.take k, d.name.size ≤ 40 ∧ d.pt.size ≤ 40 ∧ d.os.length ≤ 20 ∧ d.ds.length ≤ 20) ∧ wr = w) (fun i _ => l.length - (intOf i).toNat)
  case atStart => exact ⟨0, Nat.zero_le _, rfl, by unfold Hid; simp, rfl⟩
  case round =>
    obtain ⟨k, hk, rfl, HQ, rfl⟩ := hrel
    by_cases hi : k < l.length
    · obtain ⟨b, off, d, rfl, hg, hx, d0, d1, d2, d3, d4, d5⟩ := HD.out.d hi
      have HX := Lib.hid (fun (g : d.name.size ≤ 40 ∧ d.pt.size ≤ 40 ∧ d.os.length ≤ 20 ∧ d.ds.length ≤ 20) => show ∀ y ∈ l.take (k + 1), y.name.size ≤ 40 ∧ y.pt.size ≤ 40 ∧ y.os.length ≤ 20 ∧ y.ds.length ≤ 20 from fun y hy => by
        rw [take_snoc hx, List.mem_append] at hy
        rcases hy with hy | hy
        · exact HQ.out y hy
        · simp only [List.mem_singleton] at hy
          subst hy
          exact g)
      have HL := Lib.hid hi
      have hi1 : (0 : Int) ≤ (k : Int) := by omega
      have hi2 : (k : Int) < (l.length : Int) := by omega
      obtain ⟨nm, pt, kd, ln, oA, oc, os, dA, dc, ds⟩ := d
      simp only at *
      clear hx HQ
      by_cases g1 : 40 < nm.size
      · go_wp2
        go_ret
        exact ⟨false, rfl, (fun h => by cases h), Below.refl _ _⟩
      · by_cases g2 : 40 < pt.size
        · go_wp2
          go_ret
          exact ⟨false, rfl, (fun h => by cases h), Below.refl _ _⟩
        · by_cases g4 : 20 < os.length
          · go_wp2
            go_ret
            exact ⟨false, rfl, (fun h => by cases h), Below.refl _ _⟩
          · by_cases g3 : 20 < ds.length
            · go_wp2
              go_ret
              exact ⟨false, rfl, (fun h => by cases h), Below.refl _ _⟩
            · have HX2 := Lib.hid (HX.out ⟨by omega, by omega, by omega, by omega⟩)
              clear HX
              go_wp2
              go_roundw
              case rel => exact ⟨k + 1, HL.out, by go_num, HX2, trivial⟩
              case measure => have := HL.out; simp [intOf]; omega
    · obtain rfl : k = l.length := by omega
      have HF := Lib.hid (show ∀ d ∈ l, d.name.size ≤ 40 ∧ d.pt.size ≤ 40 ∧ d.os.length ≤ 20 ∧ d.ds.length ≤ 20 by have := HQ.out; rwa [List.take_length] at this)
      clear HQ hk hi
      by_cases g1 : l.length ≤ 20
      · have HZ := Lib.hid (show DevsOk l from ⟨g1, HF.out⟩)
        go_wp2
        go_ret
        exact ⟨true, ret_bool (decide_eq_true (by omega)), (fun _ => HZ.out), Below.refl _ _⟩
      · go_wp2
        go_ret
        exact ⟨false, ret_bool (decide_eq_false (by omega)), (fun h => by cases h), Below.refl _ _⟩

set_option maxRecDepth 100000 in
set_option maxHeartbeats 4000000 in
theorem short_any (d : Dt) (w : World) : Calls Try.prog 12 #[DtV d] w fun e w' => ShR d w w' e := by
  obtain ⟨dv, sq, tm, tg, pl, ax, sc⟩ := d
  have HM := Lib.hid (show dv.size ≤ 40 → tg.size ≤ 40 → pl.size ≤ 40 → SzD ⟨dv, sq, tm, tg, pl, ax, sc⟩ from fun a b c => ⟨Nat.le_trans a (by decide), Nat.le_trans b (by decide), Nat.le_trans c (by decide)⟩)
  simp only [DtV] at *
  obtain ⟨Y, hY⟩ : ∃ Y, w.alloc (.cells #[.string dv, .int .i64 sq, .int .i64 tm, .string tg, .string pl, .int .i64 ax, .int .i64 sc] 24) = Y := ⟨_, rfl⟩
  have bW : Below w.heap.size w Y := by rw [← hY]; exact (Below.refl _ w).al _
  have bC : Blk Y w.heap.size #[.string dv, .int .i64 sq, .int .i64 tm, .string tg, .string pl, .int .i64 ax, .int .i64 sc] 24 := by rw [← hY]; exact Blk.new w _ _
  have q0 : Y.cell? ⟨w.heap.size, 0, none⟩ = some (.string dv) := bC.cell 0 rfl
  have q3 : Y.cell? ⟨w.heap.size, 3, none⟩ = some (.string tg) := bC.cell 3 rfl
  have q4 : Y.cell? ⟨w.heap.size, 4, none⟩ = some (.string pl) := bC.cell 4 rfl
  by_cases g1 : dv.size ≤ 40
  · by_cases g2 : tg.size ≤ 40
    · by_cases g3 : pl.size ≤ 40
      · have HZ := Lib.hid (HM.out g1 g2 g3)
        go_enter Try.func12, Try.ntmps12
        go_wp2
        go_ret
        exact ⟨true, ret_bool (decide_eq_true (by omega)), (fun _ => HZ.out), bW⟩
      · go_enter Try.func12, Try.ntmps12
        go_wp2
        go_ret
        exact ⟨false, ret_bool (decide_eq_false (by omega)), (fun h => by cases h), bW⟩
    · go_enter Try.func12, Try.ntmps12
      go_wp2
      go_ret
      exact ⟨false, rfl, (fun h => by cases h), bW⟩
  · go_enter Try.func12, Try.ntmps12
    go_wp2
    go_ret
    exact ⟨false, rfl, (fun h => by cases h), bW⟩

set_option maxRecDepth 100000 in
set_option maxHeartbeats 4000000 in
theorem few_any {A : Option Addr} (c : Nat) {l : List Dt} {w : World} (h : Rd encDt 7 w w.heap.size A l) (hl : l.length ≤ 9223372036854775807) :
    Calls Try.prog 22 #[.slice A l.length c] w fun e w' => FwR l w w' e := by
  have HD := Lib.hid h
  clear h
  have CS := Lib.hid (fun (d : Dt) (X : World) => short_any d X)
  go_enter Try.func22, Try.ntmps22
  go_wp2_with fail
  go_loopw [3] (fun i wr => ∃ k : Nat, k ≤ l.length ∧ i = .int .i64 k ∧ Hid (∀ d ∈ l.take k, SzD d) ∧ Below w.heap.size w wr) (fun i _ => l.length - (intOf i).toNat)
  case atStart => exact ⟨0, Nat.zero_le _, rfl, by unfold Hid; simp, Below.refl _ _⟩
  case round =>
    obtain ⟨k, hk, rfl, HQ, bW⟩ := hrel
    by_cases hi : k < l.length
    · obtain ⟨b, off, d, rfl, hb, hx, d0, d1, d2, d3, d4, d5, d6⟩ := HD.out.dt hi
      have HX := Lib.hid (fun (g : SzD d) => show ∀ y ∈ l.take (k + 1), SzD y from fun y hy => by
        rw [take_snoc hx, List.mem_append] at hy
        rcases hy with hy | hy
        · exact HQ.out y hy
        · simp only [List.mem_singleton] at hy
          subst hy
          exact g)
      have HL := Lib.hid hi
      have hi1 : (0 : Int) ≤ (k : Int) := by omega
      have hi2 : (k : Int) < (l.length : Int) := by omega
      have C1 := Lib.hid (CS.out d)
      have e0 := (bW.cell (p := ⟨b, off + k * 7, none⟩) hb).trans d0
      have e1 := (bW.cell (p := ⟨b, off + k * 7 + 1, none⟩) hb).trans d1
      have e2 := (bW.cell (p := ⟨b, off + k * 7 + 2, none⟩) hb).trans d2
      have e3 := (bW.cell (p := ⟨b, off + k * 7 + 3, none⟩) hb).trans d3
      have e4 := (bW.cell (p := ⟨b, off + k * 7 + 4, none⟩) hb).trans d4
      have e5 := (bW.cell (p := ⟨b, off + k * 7 + 5, none⟩) hb).trans d5
      have e6 := (bW.cell (p := ⟨b, off + k * 7 + 6, none⟩) hb).trans d6
      obtain ⟨y1, y2, y3, y4, y5, y6, y7⟩ := d
      simp only [DtV] at *
      clear hx HQ CS d0 d1 d2 d3 d4 d5 d6
      go_wp2_with fail
      refine (C1.out _).mono ?_
      rintro e w2 ⟨g, rfl, hg, hbn⟩
      have bW := bW.st hbn
      clear hbn C1 e0 e1 e2 e3 e4 e5 e6
      cases g
      · go_wp2
        go_ret
        exact ⟨false, rfl, (fun h => by cases h), bW⟩
      · have HX2 := Lib.hid (HX.out (hg rfl))
        clear HX hg
        go_wp2_with fail
        go_roundw
        case rel => exact ⟨k + 1, HL.out, by go_num, HX2, bW⟩
        case measure => have := HL.out; simp [intOf]; omega
    · obtain rfl : k = l.length := by omega
      have HF := Lib.hid (show ∀ d ∈ l, SzD d by have := HQ.out; rwa [List.take_length] at this)
      clear HQ hk hi CS
      by_cases g1 : l.length ≤ 40
      · have HZ := Lib.hid (show FwOk l from ⟨g1, HF.out⟩)
        go_wp2
        go_ret
        exact ⟨true, ret_bool (decide_eq_true (by omega)), (fun _ => HZ.out), bW⟩
      · go_wp2
        go_ret
        exact ⟨false, ret_bool (decide_eq_false (by omega)), (fun h => by cases h), bW⟩
end Go.Proofs.Ytgkppjkmakomnaa
