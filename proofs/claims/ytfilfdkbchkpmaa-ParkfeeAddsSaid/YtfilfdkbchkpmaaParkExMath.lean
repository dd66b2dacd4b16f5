/- What the chapter's examples are in plain words. -/
import Derived.Test.YtfilfdkbchkpmaaParkRLong
namespace Go.Proofs.Ytfilfdkbchkpmaa
open Go.RowKit Go.Lib

def exS : List Wn := [(3600, 1800, 100), (0, 3600, 150)]
def exP (sA : Option Addr) : Zn := ⟨⟨#[122]⟩, none, 0, [], sA, 2, exS, 0, 0, 1000, 0⟩
theorem exPName : nameB ⟨#[122]⟩ = true := by decide +kernel
theorem exPCheck (A : Option Addr) : checkE (exP A) = 0 := by
  rw [checkE_tail (by exact exPName) (by simp [exP]) (by simp [exP]) (by simp [exP, exS, stepsE, firstE, stepE, stepX, prevU, List.range_succ])]
  rw [tailE_0 (by simp [exP]) (by simp [exP])]
theorem exSt : StOk exS := (check_st (exPCheck none)).1
theorem exStep {A : Option Addr} {s c : Int} (hs : 0 ≤ s ∧ s ≤ 68719476736) (hv : V exS s = c) (hc : c ≤ 1125899906842624) : stepsPN (exP A) s = c ∧ stepsPE (exP A) s = 0 := by
  have := stepsP_0 (exPCheck A) hs (show V (exP A).ss s ≤ _ by show V exS s ≤ _; omega)
  exact ⟨this.1.trans hv, this.2⟩
theorem exU {a b : Int} (ha : 0 ≤ a) (h : a ≤ b) : U [] a b = b - a := U_all ha h
theorem exDayE {A : Option Addr} {a b c : Int} (hd : daysE a b = 0) (hv : V exS (b - a) = c) (hc : c ≤ 1125899906842624) : dayE (exP A) a b = 0 := by
  have r := daysE_rng hd
  rw [dayE_is (exPCheck A) hd, if_neg]
  show ¬ _ < V exS (U [] a b)
  rw [exU r.1 (by omega), hv]
  omega
theorem exFeeE {A : Option Addr} {a b c : Int} (hd : daysE a b = 0) (hv : V exS (b - a) = c) (hc : c ≤ 1125899906842624) (hs : feeS (exP A) a b ≤ 1125899906842624) : feeN (exP A) a b = feeS (exP A) a b ∧ feeE (exP A) a b = 0 :=
  feeE_0 (exDayE hd hv hc) hs
theorem fees1 {z : Zn} {a b : Int} (h : dayN a b = 1) : feesL z a b = [feeK z a b 0] := by unfold feesL; rw [h]; rfl
theorem fees2 {z : Zn} {a b : Int} (h : dayN a b = 2) : feesL z a b = [feeK z a b 0, feeK z a b 1] := by unfold feesL; rw [h]; rfl
theorem exK {A : Option Addr} {a b p q x y : Int} {k : Nat} (hp : min (86400 * (a / 86400 + (k : Int) + 1)) b = p) (hq : min (86400 * (a / 86400 + (k : Int))) b = q) (hu : U [] a p = x) (hv : U [] a q = y) : feeK (exP A) a b k = capD 1000 (V exS x - V exS y) := by
  unfold feeK feeD
  show capD 1000 (V exS (U [] a _) - V exS (U [] a _)) = _
  rw [hp, hq, hu, hv]
theorem exA (A : Option Addr) : feesL (exP A) 0 7200 = [350] := by
  rw [fees1 (by decide), exK (p := 7200) (q := 0) (by decide) (by decide) (exU (by omega) (by omega)) (exU (by omega) (by omega))]
  decide
theorem exA1 (A : Option Addr) : feesL (exP A) 0 7201 = [500] := by
  rw [fees1 (by decide), exK (p := 7201) (q := 0) (by decide) (by decide) (exU (by omega) (by omega)) (exU (by omega) (by omega))]
  decide
theorem exA2 (A : Option Addr) : feesL (exP A) 0 1 = [100] := by
  rw [fees1 (by decide), exK (p := 1) (q := 0) (by decide) (by decide) (exU (by omega) (by omega)) (exU (by omega) (by omega))]
  decide
theorem exA3 (A : Option Addr) : feesL (exP A) 0 1800 = [100] := by
  rw [fees1 (by decide), exK (p := 1800) (q := 0) (by decide) (by decide) (exU (by omega) (by omega)) (exU (by omega) (by omega))]
  decide
theorem exB1 (A : Option Addr) : feesL (exP A) 0 172800 = [1000, 1000] := by
  rw [fees2 (by decide), exK (p := 86400) (q := 0) (by decide) (by decide) (exU (by omega) (by omega)) (exU (by omega) (by omega)), exK (p := 172800) (q := 86400) (by decide) (by decide) (exU (by omega) (by omega)) (exU (by omega) (by omega))]
  decide
theorem exB2 (A : Option Addr) : feesL (exP A) 84600 88200 = [100, 100] := by
  rw [fees2 (by decide), exK (p := 86400) (q := 0) (by decide) (by decide) (exU (by omega) (by omega)) (U_zero _ (by omega)), exK (p := 88200) (q := 86400) (by decide) (by decide) (exU (by omega) (by omega)) (exU (by omega) (by omega))]
  decide
theorem exLA (A : Option Addr) : feeN (exP A) 0 7200 = 350 ∧ feeE (exP A) 0 7200 = 0 := by
  have e : feeS (exP A) 0 7200 = 350 := by unfold feeS; rw [exA]; rfl
  have := exFeeE (A := A) (a := 0) (b := 7200) (c := 350) (by decide) (by decide) (by omega) (by omega)
  exact ⟨this.1.trans e, this.2⟩
theorem exLB (A : Option Addr) : dayE (exP A) 0 172800 = 0 ∧ dayL (exP A) 0 172800 = [1000, 1000] := by
  have := exDayE (A := A) (a := 0) (b := 172800) (c := 7250) (by decide) (by decide) (by omega)
  exact ⟨this, (dayL_yes this).trans (exB1 A)⟩
theorem exLC (A : Option Addr) : dayE (exP A) 84600 88200 = 0 ∧ dayL (exP A) 84600 88200 = [100, 100] := by
  have := exDayE (A := A) (a := 84600) (b := 88200) (c := 200) (by decide) (by decide) (by omega)
  exact ⟨this, (dayL_yes this).trans (exB2 A)⟩
theorem exRef (A : Option Addr) : refN (exP A) 0 7200 1800 = 250 ∧ refE (exP A) 0 7200 1800 = 0 := by
  have e : feeS (exP A) 0 7200 = 350 := by unfold feeS; rw [exA]; rfl
  have e2 : feeS (exP A) 0 1800 = 100 := by unfold feeS; rw [exA3]; rfl
  have := ref_s (z := exP A) (a := 0) (b := 7200) (t := 1800) (exLA A).2 (by omega) (by omega)
  exact ⟨by rw [this.1, e, e2]; rfl, this.2⟩
theorem exLim (A : Option Addr) : limZ (exP A) 0 = 31622400 := by
  show (if (0 : Int) < 0 then _ else _) = _
  rw [if_neg (by omega)]
  decide
theorem exLong1 (A : Option Addr) : LongR (exP A) 0 350 7200 0 := by
  have h0 := long_0 (z := exP A) (f := 0) (cents := 350) (exPCheck A) (by omega) (by omega)
  refine LongR.pos (k := 7200) h0 ⟨by omega, by rw [exLim]; omega, fun _ => ?_, fun _ h => ?_⟩ (by omega)
  · have e : feeS (exP A) 0 7200 = 350 := by unfold feeS; rw [exA]; rfl
    exact (paid_iff (exPCheck A) (by decide) (by omega)).2 ⟨by show V exS (U [] 0 (0 + 7200)) ≤ _; rw [exU (by omega) (by omega)]; decide, by show feeS (exP A) 0 7200 ≤ _; omega⟩
  · have e : feeS (exP A) 0 7201 = 500 := by unfold feeS; rw [exA1]; rfl
    have := h.2
    have e2 : feeS (exP A) 0 (0 + 7200 + 1) = 500 := e
    omega
theorem exLong2 (A : Option Addr) : LongR (exP A) 0 99 0 27 := by
  have h0 := long_0 (z := exP A) (f := 0) (cents := 99) (exPCheck A) (by omega) (by omega)
  refine LongR.zero h0 ⟨by omega, by rw [exLim]; omega, fun q => absurd q (by omega), fun _ h => ?_⟩
  have e : feeS (exP A) 0 1 = 100 := by unfold feeS; rw [exA2]; rfl
  have := h.2
  have e2 : feeS (exP A) 0 (0 + 0 + 1) = 100 := e
  omega
end Go.Proofs.Ytfilfdkbchkpmaa
