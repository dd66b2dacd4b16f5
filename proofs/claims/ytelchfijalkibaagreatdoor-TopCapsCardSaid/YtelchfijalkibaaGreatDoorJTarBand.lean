/- Joined texts: TarBand, TarClone. -/
import Derived.Test.YtelchfijalkibaaGreatDoorJZoneLeaf
import Derived.Test.YtelchfijalkibaaGreatDoorJValid
import Derived.Shelf.SlicesE.Clone
/- The band of a time: tariff.Band and the reference's, walked. -/
set_option linter.unusedSimpArgs false
namespace Go.Proofs.YtelchfijalkibaaGreatDoor
open Go.RowKit Go.Lib

/-- is a time in a band's window -/
def inW (p : Bd) (x : Int) : Bool := decide (0 ≤ x ∧ x < 68719476736) && decide (wAt (p.d, p.f, p.t) x)
def bandM (x : Int) : List Bd → ByteArray
  | [] => ⟨#[]⟩
  | p :: l => if inW p x = true then p.name else bandM x l
theorem drop_at {α : Type} {l : List α} {k : Nat} {x : α} (h : l[k]? = some x) : l.drop k = x :: l.drop (k + 1) := by
  obtain ⟨h1, rfl⟩ := List.getElem?_eq_some_iff.1 h
  exact List.drop_eq_getElem_cons h1
theorem bandM_at {x : Int} {l : List Bd} {k : Nat} {p : Bd} (h : l[k]? = some p) : bandM x (l.drop k) = if inW p x = true then p.name else bandM x (l.drop (k + 1)) := by rw [drop_at h]; rfl

set_option maxRecDepth 100000 in
set_option maxHeartbeats 4000000 in
theorem tband_any {bA rA : Option Addr} (f t x : Int) (bc n rc : Nat) {bs : List Bd} {w : World} (h : Rd encBd 4 w w.heap.size bA bs) (hl : bs.length ≤ 1000000) :
    Calls Tryz.prog 75 #[.agg #[.int .i64 f, .int .i64 t, .slice bA bs.length bc, .slice rA n rc], .int .i64 x] w fun e w' => e = .returned (.string (bandM x bs)) ∧ Below w.heap.size w w' := by
  obtain ⟨Y1, hY1⟩ : ∃ Y, w.alloc (.cells #[.int .i64 f, .int .i64 t, .slice bA bs.length bc, .slice rA n rc] 77) = Y := ⟨_, rfl⟩
  have b1 : Below w.heap.size w Y1 := by rw [← hY1]; exact (Below.refl _ w).al _
  have B1 : Blk Y1 w.heap.size #[.int .i64 f, .int .i64 t, .slice bA bs.length bc, .slice rA n rc] 77 := by rw [← hY1]; exact Blk.new w _ _
  have y2 := B1.cell 2 (v := .slice bA bs.length bc) rfl
  have H := Lib.hid (h.st b1)
  clear h B1
  generalize hr : bandM x bs = r
  have HR := Lib.hid hr
  clear hr
  go_enter Tryz.func75, Tryz.ntmps75
  go_wp2_with fail
  go_loopw [10] (fun i wr => ∃ k : Nat, k ≤ bs.length ∧ i = .int .i64 k ∧ Hid (bandM x (bs.drop k) = r) ∧ Below Y1.heap.size Y1 wr) (fun i _ => bs.length - (RowKit.intOf i).toNat)
  case atStart => exact ⟨0, Nat.zero_le _, rfl, HR, Below.refl _ _⟩
  case round =>
    clear HR
    obtain ⟨k, hk, rfl, HR, bR⟩ := hrel
    have k1 : (0 : Int) ≤ (k : Int) := by omega
    by_cases hi : k < bs.length
    · have k2 : (k : Int) < (bs.length : Int) := by omega
      obtain ⟨b, off, p, hA, hb, hx, d0, d1, d2, d3⟩ := (H.out.st bR).bd hi
      subst hA
      have HK := Lib.hid hi
      have HT := Lib.hid (bandM_at (x := x) hx)
      obtain ⟨Y2, hY2⟩ : ∃ Y, wr.alloc (.cells #[.string p.name, .int .i64 p.d, .int .i64 p.f, .int .i64 p.t] 152) = Y := ⟨_, rfl⟩
      have BX : Blk Y2 wr.heap.size #[.string p.name, .int .i64 p.d, .int .i64 p.f, .int .i64 p.t] 152 := by rw [← hY2]; exact Blk.new wr _ _
      have b2 : Below wr.heap.size wr Y2 := by rw [← hY2]; exact (Below.refl _ wr).al _
      have bR2 := bR.st b2
      have x0 := BX.cell 0 (v := .string p.name) rfl
      have x1 := BX.cell 1 (v := .int .i64 p.d) rfl
      have x2 := BX.cell 2 (v := .int .i64 p.f) rfl
      have x3 := BX.cell 3 (v := .int .i64 p.t) rfl
      have CI := Lib.hid (show Calls Tryz.prog 50 #[.agg #[.int .i64 p.d, .int .i64 p.f, .int .i64 p.t], .int .i64 x] Y2 fun e w' => e = .returned (.bool (inW p x)) ∧ Below Y2.heap.size Y2 w' from in_any (p.d, p.f, p.t) x Y2)
      clear hx hi hb b2 bR
      cases hin : inW p x
      · have R := Lib.hid (HT.out.symm.trans HR.out)
        rw [hin, if_neg (by simp)] at R
        rw [hin] at CI
        clear HR HT hin
        go_wp2_with fail
        refine CI.out.mono ?_
        rintro e W3 ⟨rfl, b3⟩
        have bR3 := bR2.st b3
        go_wp2_with fail
        go_roundw
        case rel => exact ⟨k + 1, HK.out, by go_num, R, bR3⟩
        case measure => have := HK.out; simp [RowKit.intOf]; omega
      · have R := Lib.hid (HT.out.symm.trans HR.out)
        rw [hin, if_pos rfl] at R
        rw [hin] at CI
        clear HR HT hin
        go_wp2_with fail
        refine CI.out.mono ?_
        rintro e W3 ⟨rfl, b3⟩
        have bR3 := bR2.st b3
        have x0 := (BX.below b3 BX.lt).cell 0 (v := .string p.name) rfl
        go_wp2_with fail
        go_ret
        rw [R.out]
        exact ⟨rfl, b1.st bR3⟩
    · obtain rfl : k = bs.length := by omega
      have R := Lib.hid (show (⟨#[]⟩ : ByteArray) = r by rw [← HR.out, List.drop_length]; rfl)
      clear HR
      go_wp2_with fail
      go_ret
      rw [← R.out]
      exact ⟨rfl, b1.st bR⟩

end Go.Proofs.YtelchfijalkibaaGreatDoor
/- The reference's Has, and tariff.At's clones of bands and rates. -/
set_option linter.unusedSimpArgs false
namespace Go.Proofs.YtelchfijalkibaaGreatDoor
open Go.RowKit Go.Lib

theorem tyBd : TyS Tryz.prog 74 152 4 40 := TyS.mk' (z := .agg #[.string ⟨#[]⟩, .int .i64 0, .int .i64 0, .int .i64 0]) Tryz.underlying74 (by kernel_rfl) rfl (by omega)
set_option maxRecDepth 100000 in
set_option maxHeartbeats 2000000 in
theorem cloneBd_any {a : Addr} (c : Nat) {l : List Bd} {w : World} (h : Rd encBd 4 w w.heap.size (some a) l) (hl : l.length ≤ 1000000) :
    Calls Tryz.prog 73 #[.slice (some a) l.length c] w fun e w' => ∃ A' c', e = .returned (.slice A' l.length c') ∧ Own 152 encBd 4 w' w.heap.size A' c' l ∧ Below w.heap.size w w' := by
  have qn : ∀ (w : World) (a : Option Addr) (n c n' c' : Nat), (binOp .eql 74 (.slice a n c) (.slice none n' c')).run Tryz.prog w = .ok (.bool a.isNone) w := fun w a n c n' c' => Lib.run_eql_slice_nil w _ _ a n c n' c' Tryz.underlying74
  have H := Lib.hid h
  clear h
  have hown := Own.lit (e := 152) (cs := #[]) w w.heap.size ([] : List Bd) (g := w.heap.size) encBd_ok rfl rfl (Nat.le_refl _) (by simp)
  have hb0 := (Below.refl w.heap.size w).al (.cells #[] 152)
  have hr := H.out.st hb0
  have hbs : w.heap.size ≤ (w.alloc (.cells #[] 152)).heap.size := by simp
  go_enter Tryz.func73, Tryz.ntmps73
  go_wp2_with (at_builtin; refine wpList_appS rfl (.tmp 5) (.tmp 6) tyBd encBd_ok rfl _ rfl (by first | rfl | simp) hown l rfl (by first | rfl | simp) hr (by first | omega | (simp; done) | (simp; omega)) (by first | omega | (simp; done) | (simp; omega)) hbs ?_; intro A4 c4 w4 hown4 hb4 hs4 hf4)
  go_ret
  exact ⟨A4, c4, by simp, by simpa using hown4, hb0.trans hb4⟩
set_option maxRecDepth 100000 in
set_option maxHeartbeats 2000000 in
theorem cloneBd_none (c : Nat) (w : World) : Calls Tryz.prog 73 #[.slice none 0 c] w fun e w' => e = .returned (.slice none 0 0) ∧ w' = w := by
  have qn : ∀ (w : World) (a : Option Addr) (n c n' c' : Nat), (binOp .eql 74 (.slice a n c) (.slice none n' c')).run Tryz.prog w = .ok (.bool a.isNone) w := fun w a n c n' c' => Lib.run_eql_slice_nil w _ _ a n c n' c' Tryz.underlying74
  go_enter Tryz.func73, Tryz.ntmps73
  go_wp2
  go_ret
  exact ⟨rfl, rfl⟩
set_option maxRecDepth 100000 in
set_option maxHeartbeats 2000000 in
theorem cloneRt_none (c : Nat) (w : World) : Calls Tryz.prog 74 #[.slice none 0 c] w fun e w' => e = .returned (.slice none 0 0) ∧ w' = w := by
  have qn : ∀ (w : World) (a : Option Addr) (n c n' c' : Nat), (binOp .eql 75 (.slice a n c) (.slice none n' c')).run Tryz.prog w = .ok (.bool a.isNone) w := fun w a n c n' c' => Lib.run_eql_slice_nil w _ _ a n c n' c' Tryz.underlying75
  go_enter Tryz.func74, Tryz.ntmps74
  go_wp2
  go_ret
  exact ⟨rfl, rfl⟩
theorem nil_of_none {α : Type} {enc : α → List Value} {k : Nat} {w : World} {B : Nat} {l : List α} (h : Rd enc k w B none l) : l = [] := by
  cases l with
  | nil => rfl
  | cons x l =>
    obtain ⟨b, off, hA, _⟩ := h (by simp)
    cases hA
theorem cloneBd_gen {A : Option Addr} (c : Nat) {l : List Bd} {w : World} (h : Rd encBd 4 w w.heap.size A l) (hl : l.length ≤ 1000000) :
    Calls Tryz.prog 73 #[.slice A l.length c] w fun e w' => ∃ A' c', e = .returned (.slice A' l.length c') ∧ Own 152 encBd 4 w' w.heap.size A' c' l ∧ Below w.heap.size w w' := by
  cases A with
  | some a => exact cloneBd_any c h hl
  | none =>
    have := nil_of_none h
    subst this
    refine (cloneBd_none c w).mono ?_
    rintro e w' ⟨rfl, rfl⟩
    exact ⟨none, 0, rfl, Own.nil _ _, Below.refl _ _⟩
theorem cloneRt_gen {A : Option Addr} (c : Nat) {l : List Rt} {w : World} (h : Rd encRt 5 w w.heap.size A l) (hl : l.length ≤ 1000000) :
    Calls Tryz.prog 74 #[.slice A l.length c] w fun e w' => ∃ A' c', e = .returned (.slice A' l.length c') ∧ Own 80 encRt 5 w' w.heap.size A' c' l ∧ Below w.heap.size w w' := by
  cases A with
  | some a => exact cloneRt_any c h hl
  | none =>
    have := nil_of_none h
    subst this
    refine (cloneRt_none c w).mono ?_
    rintro e w' ⟨rfl, rfl⟩
    exact ⟨none, 0, rfl, Own.nil _ _, Below.refl _ _⟩
end Go.Proofs.YtelchfijalkibaaGreatDoor
