/- Joined texts: StrEq, RelLn, DayMath, BillClock. -/
import Derived.Lib.Bytealg
import Derived.Laws.Strings
import Derived.Test.YtlnnbkpcnhlfcaaDoorRelMath
import Derived.Test.YtlnnbkpcnhlfcaaDoorJInts
import Derived.KernelRfl
import Derived.Test.YtlnnbkpcnhlfcaaDoorBase
import Derived.Test.YtlnnbkpcnhlfcaaDoorProg
import Derived.IntWalk
import Derived.BigRegion
import Derived.BigQuiet
/- Equality of strings, as the walk spells it. No program in sight. -/
namespace Go.Proofs.YtlnnbkpcnhlfcaaDoor

def eqS (a b : ByteArray) : Bool := a.toList == b.toList
theorem eqS_iff (a b : ByteArray) : eqS a b = true ↔ a = b := by
  unfold eqS
  rw [beq_iff_eq, ByteArray.toList_eq, ByteArray.toList_eq]
  constructor
  · intro h
    cases a; cases b
    simp only [ByteArray.mk.injEq]
    exact Array.ext' h
  · rintro rfl; rfl
theorem eqS_refl (a : ByteArray) : eqS a a = true := (eqS_iff a a).2 rfl
theorem eqS_comm (a b : ByteArray) : eqS a b = eqS b a := by
  rw [Bool.eq_iff_iff, eqS_iff, eqS_iff]; exact eq_comm
end Go.Proofs.YtlnnbkpcnhlfcaaDoor
/- Lines and charges as values. -/
namespace Go.Proofs.YtlnnbkpcnhlfcaaDoor
open Go.RowKit Go.Lib

abbrev Ln := ByteArray × Int
def encLn (l : Ln) : List Value := [.string l.1, .int .i64 l.2]
theorem encLn_ok : Enc encLn 2 := ⟨fun _ => rfl, fun x u hu => by simp [encLn] at hu; rcases hu with rfl | rfl <;> rfl⟩
theorem Rd.ln {w : World} {B : Nat} {A : Option Addr} {l : List Ln} (h : Rd encLn 2 w B A l) {i : Nat} (hi : i < l.length) :
    ∃ b off s n, A = some ⟨b, off, none⟩ ∧ b < B ∧ l[i]? = some (s, n) ∧ w.cell? ⟨b, off + i * 2, none⟩ = some (.string s) ∧ w.cell? ⟨b, off + i * 2 + 1, none⟩ = some (.int .i64 n) := by
  obtain ⟨b, off, x, hA, hb, hx, hc⟩ := h.at_ hi
  exact ⟨b, off, x.1, x.2, hA, hb, hx, hc 0 _ rfl, hc 1 _ rfl⟩
theorem tyLn : TyS Tryd.prog 80 99 2 24 := TyS.mk' (z := .agg #[.string ⟨#[]⟩, .int .i64 0]) Tryd.underlying80 (by kernel_rfl) rfl (by omega)
/-- a charge's values -/
structure CV where
  key : ByteArray
  veh : ByteArray
  sys : ByteArray
  cls : Int
  tm : Int
  lns : List Ln
  ct : Int
def zeroC : CV := ⟨⟨#[]⟩, ⟨#[]⟩, ⟨#[]⟩, 0, 0, [], 0⟩
def CHV (c : CV) (A : Option Addr) (cap : Nat) : Value := .agg #[.string c.key, .string c.veh, .string c.sys, .int .i64 c.cls, .int .i64 c.tm, .slice A c.lns.length cap, .int .i64 c.ct]
/-- the word "outage" -/
abbrev outS : ByteArray := ⟨#[111, 117, 116, 97, 103, 101]⟩
/-- the error, the reduction, the reduced charge -/
def apE (rls : List Iv) (ct : Int) : Int := if relsE rls ≠ 0 then relsE rls else if 0 ≤ ct ∧ ct ≤ 1125899906842624 then 0 else 13
def lessN (rls : List Iv) (ks : List Int) (ct : Int) : Int := upN ct (partN rls ks)
def cutC (c : CV) (n : Int) : CV := if n = 0 then c else { c with lns := c.lns ++ [(outS, -n)], ct := c.ct - n }
def apC (rls : List Iv) (ks : List Int) (c : CV) : CV := if apE rls c.ct ≠ 0 then zeroC else cutC c (lessN rls ks c.ct)
/-- whether a rule has reduced a charge to 0 -/
def wvB (c : CV) : Bool := (c.ct == 0) && c.lns.any (fun l => eqS l.1 outS)
/-- the post of both Applies -/
def ApR (c : CV) (E : Int) (w : World) (e : Ending) (w' : World) : Prop := ∃ A cap, e = .returned (.tuple #[CHV c A cap, .int .i64 E]) ∧ Own 99 encLn 2 w' w.heap.size A cap c.lns ∧ Below w.heap.size w w'

end Go.Proofs.YtlnnbkpcnhlfcaaDoor
/- Years, months and days of a calendar, in plain Lean. No program in sight. -/
namespace Go.Proofs.YtlnnbkpcnhlfcaaDoor

def leapB (y : Int) : Bool := (decide (y % 4 = 0) && !decide (y % 100 = 0)) || decide (y % 400 = 0)
def yearN (y : Int) : Int := if leapB y = true then 366 else 365
def lenM (y m : Int) : Int := if m = 2 then (if leapB y = true then 29 else 28) else if m = 4 ∨ m = 6 ∨ m = 9 ∨ m = 11 then 30 else 31
theorem yearN_pos (y : Int) : 365 ≤ yearN y ∧ yearN y ≤ 366 := by unfold yearN; split <;> omega
theorem lenM_pos (y m : Int) : 28 ≤ lenM y m ∧ lenM y m ≤ 31 := by
  unfold lenM
  split
  · split <;> omega
  · split <;> omega
/-- days of n years from 2001 on -/
def cumY : Nat → Int
  | 0 => 0
  | n + 1 => cumY n + yearN (2001 + n)
theorem cumY_lt (n k : Nat) : cumY n + 365 * k ≤ cumY (n + k) := by
  induction k with
  | zero => simp
  | succ k ih =>
    have := (yearN_pos (2001 + ((n + k : Nat) : Int))).1
    show cumY n + 365 * ((k + 1 : Nat) : Int) ≤ cumY (n + k) + yearN (2001 + ((n + k : Nat) : Int))
    omega
theorem leapB_400 (y : Int) : leapB (y + 400) = leapB y := by
  unfold leapB
  rw [show (y + 400) % 4 = y % 4 by omega, show (y + 400) % 100 = y % 100 by omega, show (y + 400) % 400 = y % 400 by omega]
theorem cumY_400 (n : Nat) : cumY (n + 400) = cumY n + 146097 := by
  induction n with
  | zero => kernel_rfl
  | succ n ih =>
    rw [show n + 1 + 400 = (n + 400) + 1 by omega]
    show cumY (n + 400) + yearN (2001 + ((n + 400 : Nat) : Int)) = cumY n + yearN (2001 + (n : Int)) + 146097
    rw [ih]
    have : yearN (2001 + ((n + 400 : Nat) : Int)) = yearN (2001 + (n : Int)) := by
      unfold yearN
      rw [show (2001 + ((n + 400 : Nat) : Int)) = 2001 + (n : Int) + 400 by omega, leapB_400]
    omega
theorem cumY_cycle (k : Nat) : cumY (400 * k) = 146097 * k := by
  induction k with
  | zero => rfl
  | succ k ih => rw [show 400 * (k + 1) = 400 * k + 400 by omega, cumY_400, ih]; omega
/-- days of m months -/
def cumM (y : Int) : Nat → Int
  | 0 => 0
  | m + 1 => cumM y m + lenM y ((m : Int) + 1)
theorem cumM_12 (y : Int) : cumM y 12 = yearN y := by
  have h : cumM y 12 = 0 + lenM y (0 + 1) + lenM y (1 + 1) + lenM y (2 + 1) + lenM y (3 + 1) + lenM y (4 + 1) + lenM y (5 + 1) + lenM y (6 + 1) + lenM y (7 + 1) + lenM y (8 + 1) + lenM y (9 + 1) + lenM y (10 + 1) + lenM y (11 + 1) := rfl
  rw [h]
  unfold lenM yearN
  cases leapB y <;> rfl
theorem cumM_lt (y : Int) (m k : Nat) : cumM y m + 28 * k ≤ cumM y (m + k) := by
  induction k with
  | zero => simp
  | succ k ih =>
    have := (lenM_pos y (((m + k : Nat) : Int) + 1)).1
    show cumM y m + 28 * ((k + 1 : Nat) : Int) ≤ cumM y (m + k) + lenM y (((m + k : Nat) : Int) + 1)
    omega
/-- the date of a day: year 2001 + n, month m + 1, r days of it gone -/
structure DR (d : Int) (n m : Nat) (r : Int) : Prop where
  day : cumY n + (cumM (2001 + n) m + r) = d
  m12 : m < 12
  r0 : 0 ≤ r
  r1 : r < lenM (2001 + n) (m + 1)
theorem cumM_bound {y : Int} {m : Nat} {r : Int} (hm : m < 12) (h0 : 0 ≤ r) (h1 : r < lenM y (m + 1)) : 0 ≤ cumM y m + r ∧ cumM y m + r < yearN y := by
  have a := cumM_lt y 0 m
  have b := cumM_lt y (m + 1) (11 - m)
  rw [show m + 1 + (11 - m) = 12 by omega, cumM_12] at b
  have c : cumM y (m + 1) = cumM y m + lenM y ((m : Int) + 1) := rfl
  have e : cumM y 0 = 0 := rfl
  rw [Nat.zero_add] at a
  omega
theorem DR.unique {d : Int} {n n' m m' : Nat} {r r' : Int} (h : DR d n m r) (k : DR d n' m' r') : n = n' ∧ m = m' ∧ r = r' := by
  have hb := cumM_bound h.m12 h.r0 h.r1
  have kb := cumM_bound k.m12 k.r0 k.r1
  have hd := h.day
  have kd := k.day
  have e : n = n' := by
    rcases Nat.lt_trichotomy n n' with q | q | q
    · have a := cumY_lt (n + 1) (n' - (n + 1))
      rw [show n + 1 + (n' - (n + 1)) = n' by omega] at a
      have c : cumY (n + 1) = cumY n + yearN (2001 + n) := rfl
      omega
    · exact q
    · have a := cumY_lt (n' + 1) (n - (n' + 1))
      rw [show n' + 1 + (n - (n' + 1)) = n by omega] at a
      have c : cumY (n' + 1) = cumY n' + yearN (2001 + n') := rfl
      omega
  subst e
  have hr1 := h.r1
  have kr1 := k.r1
  have hr0 := h.r0
  have kr0 := k.r0
  have e2 : m = m' := by
    rcases Nat.lt_trichotomy m m' with q | q | q
    · have a := cumM_lt (2001 + n) (m + 1) (m' - (m + 1))
      rw [show m + 1 + (m' - (m + 1)) = m' by omega] at a
      have c : cumM (2001 + n) (m + 1) = cumM (2001 + n) m + lenM (2001 + n) ((m : Int) + 1) := rfl
      omega
    · exact q
    · have a := cumM_lt (2001 + n) (m' + 1) (m - (m' + 1))
      rw [show m' + 1 + (m - (m' + 1)) = m by omega] at a
      have c : cumM (2001 + n) (m' + 1) = cumM (2001 + n) m' + lenM (2001 + n) ((m' : Int) + 1) := rfl
      omega
  subst e2
  exact ⟨rfl, rfl, by omega⟩
/-- the search for the year and for the month -/
def yl : Nat → Nat → Int → Nat × Int
  | 0, n, l => (n, l)
  | f + 1, n, l => if l < yearN (2001 + n) then (n, l) else yl f (n + 1) (l - yearN (2001 + n))
def ml (y : Int) : Nat → Nat → Int → Nat × Int
  | 0, m, l => (m, l)
  | f + 1, m, l => if l < lenM y (m + 1) then (m, l) else ml y f (m + 1) (l - lenM y (m + 1))
theorem yl_holds : ∀ (f n : Nat) (l : Int), 0 ≤ l → l < 365 * f → 0 ≤ (yl f n l).2 ∧ (yl f n l).2 < yearN (2001 + (yl f n l).1) ∧ cumY (yl f n l).1 + (yl f n l).2 = cumY n + l
  | 0, n, l, h0, h1 => by omega
  | f + 1, n, l, h0, h1 => by
    unfold yl
    split
    · rename_i h; exact ⟨h0, h, rfl⟩
    · rename_i h
      have p := yearN_pos (2001 + n)
      have := yl_holds f (n + 1) (l - yearN (2001 + n)) (by omega) (by omega)
      have c : cumY (n + 1) = cumY n + yearN (2001 + n) := rfl
      refine ⟨this.1, this.2.1, ?_⟩
      omega
theorem ml_holds (y : Int) : ∀ (f m : Nat) (l : Int), 0 ≤ l → m + f = 12 → cumM y m + l < yearN y → (ml y f m l).1 < 12 ∧ 0 ≤ (ml y f m l).2 ∧ (ml y f m l).2 < lenM y ((ml y f m l).1 + 1) ∧ cumM y (ml y f m l).1 + (ml y f m l).2 = cumM y m + l
  | 0, m, l, h0, h1, h2 => by
    obtain rfl : m = 12 := by omega
    rw [cumM_12] at h2; omega
  | f + 1, m, l, h0, h1, h2 => by
    unfold ml
    split
    · rename_i h; exact ⟨by omega, h0, h, rfl⟩
    · rename_i h
      have c : cumM y (m + 1) = cumM y m + lenM y ((m : Int) + 1) := rfl
      have := ml_holds y f (m + 1) (l - lenM y ((m : Int) + 1)) (by omega) (by omega) (by omega)
      refine ⟨this.1, this.2.1, this.2.2.1, ?_⟩
      omega
def ymd (d : Int) : Nat × Nat × Int :=
  let a := yl 2200 0 d
  let b := ml (2001 + a.1) 12 0 a.2
  (a.1, b.1, b.2)
theorem ymd_holds {d : Int} (h0 : 0 ≤ d) (h1 : d < 795364) : DR d (ymd d).1 (ymd d).2.1 (ymd d).2.2 := by
  have a := yl_holds 2200 0 d h0 (by omega)
  have b := ml_holds (2001 + (yl 2200 0 d).1) 12 0 (yl 2200 0 d).2 a.1 (by omega) (by rw [show cumM (2001 + ((yl 2200 0 d).1 : Int)) 0 = 0 from rfl]; omega)
  have z : cumM (2001 + ((yl 2200 0 d).1 : Int)) 0 = 0 := rfl
  have z2 : cumY 0 = 0 := rfl
  exact ⟨by show cumY (yl 2200 0 d).1 + (cumM _ _ + _) = d; have e := b.2.2.2; unfold ymd; simp only; omega, b.1, b.2.1, b.2.2.1⟩
/-- the day of a time, the number of its month; -1: none -/
def dayN (t : Int) : Int := if 0 ≤ t ∧ t < 68719476736 then t / 86400 else -1
def monD (d : Int) : Int := if 0 ≤ d ∧ d < 795364 then 12 * ((ymd d).1 : Int) + (ymd d).2.1 else -1
def monN (t : Int) : Int := monD (dayN t)
theorem DR.n_le {d : Int} {n m : Nat} {r : Int} (h : DR d n m r) (h1 : d < 795364) : n ≤ 2200 := by
  have hb := cumM_bound h.m12 h.r0 h.r1
  have a := cumY_lt 0 n
  have hd := h.day
  have z : cumY 0 = 0 := rfl
  rw [Nat.zero_add] at a
  omega
end Go.Proofs.YtlnnbkpcnhlfcaaDoor
/- Days, years and months, walked: the clock's and the reference's. -/
set_option linter.unusedSimpArgs false
namespace Go.Proofs.YtlnnbkpcnhlfcaaDoor
open Go.RowKit Go.Lib

/-- the table of the months, as it was laid -/
def monL : List Int := [31, 28, 31, 30, 31, 30, 31, 31, 30, 31, 30, 31]
def Mon (w : World) : Prop := 0 < w.heap.size ∧ ∀ k : Nat, ∀ v : Int, monL[k]? = some v → w.cell? ⟨0, k, none⟩ = some (.int .i64 v)
theorem Mon.st {w w' : World} (h : Mon w) {B : Nat} (hb : Below B w w') (hB : 0 < B) : Mon w' := ⟨Nat.lt_of_lt_of_le h.1 hb.size, fun k v hv => (World.cell?_of_block (hb.block 0 hB)).trans (h.2 k v hv)⟩
theorem Mon.at {w : World} (h : Mon w) (y m : Int) (h1 : 1 ≤ m) (h2 : m ≤ 12) (hn : ¬ (m = 2 ∧ leapB y = true)) : w.cell? ⟨0, (m - 1).toNat, none⟩ = some (.int .i64 (lenM y m)) := by
  rcases (by omega : m = 1 ∨ m = 2 ∨ m = 3 ∨ m = 4 ∨ m = 5 ∨ m = 6 ∨ m = 7 ∨ m = 8 ∨ m = 9 ∨ m = 10 ∨ m = 11 ∨ m = 12) with rfl | rfl | rfl | rfl | rfl | rfl | rfl | rfl | rfl | rfl | rfl | rfl
  case inr.inl =>
    have e : leapB y = false := by cases q : leapB y; rfl; exact absurd ⟨rfl, q⟩ hn
    have : lenM y 2 = 28 := by unfold lenM; rw [e]; rfl
    rw [this]; exact h.2 1 28 rfl
  all_goals (first | exact h.2 0 _ rfl | exact h.2 2 _ rfl | exact h.2 3 _ rfl | exact h.2 4 _ rfl | exact h.2 5 _ rfl | exact h.2 6 _ rfl | exact h.2 7 _ rfl | exact h.2 8 _ rfl | exact h.2 9 _ rfl | exact h.2 10 _ rfl | exact h.2 11 _ rfl)

theorem ret_b {a b : Bool} (h : a = b) : (Ending.returned (.bool a)) = .returned (.bool b) := by rw [h]
theorem cisTime_any (t : Int) (w : World) : Calls Tryd.prog 55 #[.int .i64 t] w fun e w' => e = .returned (.bool (decide (0 ≤ t ∧ t < 68719476736))) ∧ w' = w := by
  go_enter Tryd.func55, Tryd.ntmps55
  go_wp2
  all_goals (go_ret; exact ⟨ret_b (by rw [Bool.eq_iff_iff]; simp <;> omega), rfl⟩)
theorem cisDay_any (d : Int) (w : World) : Calls Tryd.prog 56 #[.int .i64 d] w fun e w' => e = .returned (.bool (decide (0 ≤ d ∧ d < 795364))) ∧ w' = w := by
  go_enter Tryd.func56, Tryd.ntmps56
  go_wp2
  all_goals (go_ret; exact ⟨ret_b (by rw [Bool.eq_iff_iff]; simp <;> omega), rfl⟩)
theorem risTime_any (t : Int) (w : World) : Calls Tryd.prog 62 #[.int .i64 t] w fun e w' => e = .returned (.bool (decide (0 ≤ t ∧ t < 68719476736))) ∧ w' = w := by
  go_enter Tryd.func62, Tryd.ntmps62
  go_wp2
  all_goals (go_ret; exact ⟨ret_b (by rw [Bool.eq_iff_iff]; simp <;> omega), rfl⟩)
theorem risDay_any (d : Int) (w : World) : Calls Tryd.prog 59 #[.int .i64 d] w fun e w' => e = .returned (.bool (decide (0 ≤ d ∧ d < 795364))) ∧ w' = w := by
  go_enter Tryd.func59, Tryd.ntmps59
  go_wp2
  all_goals (go_ret; exact ⟨ret_b (by rw [Bool.eq_iff_iff]; simp <;> omega), rfl⟩)
theorem cday_any (t : Int) (w : World) : Calls Tryd.prog 33 #[.int .i64 t] w fun e w' => e = .returned (.int .i64 (dayN t)) ∧ w' = w := by
  unfold dayN
  by_cases h : 0 ≤ t ∧ t < 68719476736
  · rw [if_pos h]
    have e : t.tdiv 86400 = t / 86400 := Int.tdiv_eq_ediv_of_nonneg h.1
    go_enter Tryd.func33, Tryd.ntmps33
    go_wp2_with (go_at_call 55; refine (cisTime_any _ _).mono ?_; rw [decide_eq_true h]; rintro e w' ⟨rfl, rfl⟩)
    go_ret
    exact ⟨rfl, rfl⟩
  · rw [if_neg h]
    go_enter Tryd.func33, Tryd.ntmps33
    go_wp2_with (go_at_call 55; refine (cisTime_any _ _).mono ?_; rw [decide_eq_false h]; rintro e w' ⟨rfl, rfl⟩)
    go_ret
    exact ⟨rfl, rfl⟩
theorem rday_any (t : Int) (w : World) : Calls Tryd.prog 36 #[.int .i64 t] w fun e w' => e = .returned (.int .i64 (dayN t)) ∧ w' = w := by
  unfold dayN
  by_cases h : 0 ≤ t ∧ t < 68719476736
  · rw [if_pos h]
    have e : t.tdiv 86400 = t / 86400 := Int.tdiv_eq_ediv_of_nonneg h.1
    go_enter Tryd.func36, Tryd.ntmps36
    go_wp2_with (go_at_call 62; refine (risTime_any _ _).mono ?_; rw [decide_eq_true h]; rintro e w' ⟨rfl, rfl⟩)
    go_ret
    exact ⟨rfl, rfl⟩
  · rw [if_neg h]
    go_enter Tryd.func36, Tryd.ntmps36
    go_wp2_with (go_at_call 62; refine (risTime_any _ _).mono ?_; rw [decide_eq_false h]; rintro e w' ⟨rfl, rfl⟩)
    go_ret
    exact ⟨rfl, rfl⟩
theorem cleap_any (y : Int) (hy : 0 ≤ y) (w : World) : Calls Tryd.prog 57 #[.int .i64 y] w fun e w' => e = .returned (.bool (leapB y)) ∧ w' = w := by
  have e1 : y.tmod 4 = y % 4 := Int.tmod_eq_emod_of_nonneg hy
  have e2 : y.tmod 100 = y % 100 := Int.tmod_eq_emod_of_nonneg hy
  have e3 : y.tmod 400 = y % 400 := Int.tmod_eq_emod_of_nonneg hy
  unfold leapB
  go_enter Tryd.func57, Tryd.ntmps57
  go_wp2
  all_goals (go_ret; exact ⟨ret_b (by rw [Bool.eq_iff_iff]; simp <;> omega), rfl⟩)
theorem rleap_any (y : Int) (hy : 0 ≤ y) (w : World) : Calls Tryd.prog 85 #[.int .i64 y] w fun e w' => e = .returned (.bool (leapB y)) ∧ w' = w := by
  have e1 : y.tmod 4 = y % 4 := Int.tmod_eq_emod_of_nonneg hy
  have e2 : y.tmod 100 = y % 100 := Int.tmod_eq_emod_of_nonneg hy
  have e3 : y.tmod 400 = y % 400 := Int.tmod_eq_emod_of_nonneg hy
  unfold leapB
  go_enter Tryd.func85, Tryd.ntmps85
  go_wp2
  all_goals (go_ret; exact ⟨ret_b (by rw [Bool.eq_iff_iff]; simp <;> omega), rfl⟩)
theorem ryear_any (y : Int) (hy : 0 ≤ y) (w : World) : Calls Tryd.prog 60 #[.int .i64 y] w fun e w' => e = .returned (.int .i64 (yearN y)) ∧ w' = w := by
  unfold yearN
  have CL := Lib.hid (rleap_any y hy w)
  cases h : leapB y
  all_goals
    rw [h] at CL
    clear h
    go_enter Tryd.func60, Tryd.ntmps60
    go_wp2_with fail
    refine CL.out.mono ?_
    rintro e w' ⟨rfl, rfl⟩
    go_wp2_with fail
    go_ret
    exact ⟨rfl, rfl⟩
theorem rlen_any (y m : Int) (hy : 0 ≤ y) (w : World) : Calls Tryd.prog 61 #[.int .i64 y, .int .i64 m] w fun e w' => e = .returned (.int .i64 (lenM y m)) ∧ w' = w := by
  unfold lenM
  have CL := Lib.hid (rleap_any y hy w)
  by_cases hm : m = 2
  · subst hm
    rw [if_pos rfl]
    cases h : leapB y
    all_goals
      rw [h] at CL
      clear h
      go_enter Tryd.func61, Tryd.ntmps61
      go_wp2_with fail
      refine CL.out.mono ?_
      rintro e w' ⟨rfl, rfl⟩
      go_wp2_with fail
      go_ret
      exact ⟨rfl, rfl⟩
  · rw [if_neg hm]
    by_cases h4 : m = 4 ∨ m = 6 ∨ m = 9 ∨ m = 11
    · rw [if_pos h4]
      rcases h4 with rfl | rfl | rfl | rfl
      all_goals
        go_enter Tryd.func61, Tryd.ntmps61
        go_wp2_with fail
        go_ret
        exact ⟨rfl, rfl⟩
    · rw [if_neg h4]
      have k2 : (m == 2) = false := by simp; omega
      have k4 : (m == 4) = false := by simp; omega
      have k6 : (m == 6) = false := by simp; omega
      have k9 : (m == 9) = false := by simp; omega
      have k11 : (m == 11) = false := by simp; omega
      go_enter Tryd.func61, Tryd.ntmps61
      go_wp2_with fail
      go_ret
      exact ⟨rfl, rfl⟩
theorem clen_any (y m : Int) (hy : 0 ≤ y) (h1 : 1 ≤ m) (h2 : m ≤ 12) (w : World) (hw : Mon w) : Calls Tryd.prog 58 #[.int .i64 y, .int .i64 m] w fun e w' => e = .returned (.int .i64 (lenM y m)) ∧ w' = w := by
  have CL := Lib.hid (cleap_any y hy w)
  by_cases hm : m = 2
  · subst hm
    cases h : leapB y
    · have R : Hid (lenM y 2 = 28) := Lib.hid (by unfold lenM; rw [h]; rfl)
      have c : w.cell? ⟨0, 1, none⟩ = some (.int .i64 28) := hw.2 1 28 rfl
      rw [h] at CL
      clear h
      go_enter Tryd.func58, Tryd.ntmps58
      go_wp2_with fail
      refine CL.out.mono ?_
      rintro e w' ⟨rfl, rfl⟩
      go_wp2_with fail
      go_ret
      rw [R.out]; exact ⟨rfl, rfl⟩
    · have R : Hid (lenM y 2 = 29) := Lib.hid (by unfold lenM; rw [h]; rfl)
      rw [h] at CL
      clear h
      go_enter Tryd.func58, Tryd.ntmps58
      go_wp2_with fail
      refine CL.out.mono ?_
      rintro e w' ⟨rfl, rfl⟩
      go_wp2_with fail
      go_ret
      rw [R.out]; exact ⟨rfl, rfl⟩
  · have c := hw.at y m h1 h2 (fun q => hm q.1)
    have k2 : (m == 2) = false := by simp; omega
    have hwr : IntKind.i64.wrap (m - 1) = m - 1 := IntWalk.i64_in _ (by omega)
    generalize lenM y m = r at *
    obtain ⟨j, hj⟩ : ∃ j : Nat, m = (j : Int) + 1 := ⟨(m - 1).toNat, by omega⟩
    subst hj
    rw [show ((j : Int) + 1 - 1).toNat = j by omega] at c
    have hj0 : (j : Int) + 1 - 1 = (j : Int) := by omega
    have hj1 : (j : Int) < 12 := by omega
    rw [hj0] at hwr
    go_enter Tryd.func58, Tryd.ntmps58
    go_wp2_with fail
    go_ret
    exact ⟨rfl, rfl⟩
end Go.Proofs.YtlnnbkpcnhlfcaaDoor
