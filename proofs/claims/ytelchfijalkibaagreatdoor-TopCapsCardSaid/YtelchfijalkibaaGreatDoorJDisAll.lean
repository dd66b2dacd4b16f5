/- Joined texts: DisAll, DayMath, BillClock. -/
import Derived.Test.YtelchfijalkibaaGreatDoorJZoneLeaf
import Derived.KernelRfl
import Derived.Test.YtelchfijalkibaaGreatDoorBase
import Derived.Test.YtelchfijalkibaaGreatDoorProg
import Derived.Test.YtelchfijalkibaaGreatDoorJFirst
import Derived.IntWalk
import Derived.BigRegion
import Derived.BigQuiet
/- Lists of discounts that are valid: the reference's CheckAll tells it; walked. -/
set_option linter.unusedSimpArgs false
namespace Go.Proofs.YtelchfijalkibaaGreatDoor
open Go.RowKit Go.Lib

structure LOkTo (l : List Dc) (k : Nat) : Prop where
  ok : ∀ (i : Nat) (x : Dc), i < k → l[i]? = some x → DcOk x
  nd : ∀ (i j : Nat) (x y : Dc), j < i → i < k → l[i]? = some x → l[j]? = some y → eqS y.nm x.nm = false
structure LOk (l : List Dc) : Prop where
  few : l.length ≤ 12
  all : LOkTo l l.length
theorem LOkTo.zero (l : List Dc) : LOkTo l 0 := ⟨fun _ _ h => absurd h (Nat.not_lt_zero _), fun _ _ _ _ _ h => absurd h (Nat.not_lt_zero _)⟩
theorem LOkTo.next {l : List Dc} {k : Nat} {x : Dc} (h : LOkTo l k) (hx : l[k]? = some x) (h1 : DcOk x) (h2 : ∀ (j : Nat) (y : Dc), j < k → l[j]? = some y → eqS y.nm x.nm = false) : LOkTo l (k + 1) := by
  constructor
  · intro i y hi hy
    by_cases e : i = k
    · subst e; rw [hx] at hy; cases hy; exact h1
    · exact h.ok i y (by omega) hy
  · intro i j y z hj hi hy hz
    by_cases e : i = k
    · subst e; rw [hx] at hy; cases hy; exact h2 j z hj hz
    · exact h.nd i j y z hj (by omega) hy hz
theorem LOk.mem {l : List Dc} (h : LOk l) {x : Dc} (hx : x ∈ l) : DcOk x := by
  obtain ⟨i, hi, rfl⟩ := List.mem_iff_getElem.1 hx
  exact h.all.ok i _ hi (List.getElem?_eq_getElem hi)
def ndR (a b : Dc) : Prop := eqS a.nm b.nm = false
theorem LOk.pw {l : List Dc} (h : LOk l) : l.Pairwise ndR := by
  rw [List.pairwise_iff_getElem]
  intro i j hi hj hij
  exact h.all.nd j i _ _ hij hj (List.getElem?_eq_getElem hj) (List.getElem?_eq_getElem hi)
theorem lok_of {l : List Dc} (h0 : l.length ≤ 12) (h1 : ∀ x ∈ l, DcOk x) (h2 : l.Pairwise ndR) : LOk l := by
  refine ⟨h0, ⟨fun i _ _ hx => h1 _ (List.mem_of_getElem? hx), fun i j x y hj hi hx hy => ?_⟩⟩
  obtain ⟨hi1, rfl⟩ := List.getElem?_eq_some_iff.1 hx
  obtain ⟨hj1, rfl⟩ := List.getElem?_eq_some_iff.1 hy
  exact List.pairwise_iff_getElem.1 h2 j i hj1 hi1 hj
/-- a part of a valid list is valid -/
theorem LOk.sub {l s : List Dc} (h : LOk l) (hs : List.Sublist s l) : LOk s :=
  lok_of (Nat.le_trans hs.length_le h.few) (fun x hx => h.mem (hs.subset hx)) (h.pw.sublist hs)

set_option maxRecDepth 100000 in
set_option maxHeartbeats 16000000 in
theorem dall2_any {A : Option Addr} (c : Nat) {l : List Dc} {w : World} (hr : Rd encDc 10 w w.heap.size A l) :
    Calls Tryz.prog 14 #[.slice A l.length c] w fun e w' => ZR (LOk l) e ∧ Below w.heap.size w w' := by
  have HR := Lib.hid hr
  clear hr
  by_cases q1 : 12 < l.length
  · have q2 : (12 : Int) < (l.length : Int) := by omega
    have HQ := Lib.hid q1
    clear q1
    go_enter Tryz.func14, Tryz.ntmps14
    go_wp2_with fail
    go_ret
    exact ⟨ZR.no (by simp) (fun h => by have := h.few; have := HQ.out; omega), Below.refl _ _⟩
  have q2 : ¬ (12 : Int) < (l.length : Int) := by omega
  go_enter Tryz.func14, Tryz.ntmps14
  go_wp2_with fail
  go_loopw [3] (fun j wr => ∃ k : Nat, k ≤ l.length ∧ j = .int .i64 k ∧ Below w.heap.size w wr ∧ LOkTo l k) (fun j _ => l.length - (RowKit.intOf j).toNat)
  case atStart => exact ⟨0, Nat.zero_le _, rfl, Below.refl _ _, LOkTo.zero l⟩
  case round =>
    obtain ⟨k, hk, rfl, bW, hL⟩ := hrel
    have HL := Lib.hid hL
    clear hL
    have k1 : (0 : Int) ≤ (k : Int) := by omega
    by_cases hi : k < l.length
    · have k2 : (k : Int) < (l.length : Int) := by omega
      obtain ⟨b, off, x, rfl, hb, hx, hc⟩ := (HR.out.st bW).at_ hi
      have HX := Lib.hid hx
      have d0 := hc 0 _ rfl
      have d1 := hc 1 _ rfl
      have d2 := hc 2 _ rfl
      have d3 := hc 3 _ rfl
      have d4 := hc 4 _ rfl
      have d5 := hc 5 _ rfl
      have d6 := hc 6 _ rfl
      have d7 := hc 7 _ rfl
      have d8 := hc 8 _ rfl
      have d9 := hc 9 _ rfl
      simp only [Nat.add_zero] at d0
      have CX := Lib.hid (fun (X : World) => dcheck2_any x X)
      have HI := Lib.hid hi
      have HB := Lib.hid hb
      have HD0 := Lib.hid d0
      clear hx hi hc hb
      go_wp2_with fail
      refine (CX.out _).mono ?_
      rintro e W3 ⟨⟨n, rfl, hn⟩, hbn⟩
      have HZ := Lib.hid hn
      clear hn
      have bW3 := bW.st hbn
      have e0 : W3.cell? ⟨b, off + k * 10, none⟩ = some (.string x.nm) := (World.cell?_of_block (hbn.block b HB.out)).trans HD0.out
      clear hbn d0 d1 d2 d3 d4 d5 d6 d7 d8 d9
      by_cases hn : n = 0
      case' neg =>
        have hn2 : (n != 0) = true := by simp [hn]
        have HN := Lib.hid hn
        clear hn
        go_wp2_with fail
        go_ret
        exact ⟨ZR.no HN.out (fun h => HN.out (HZ.out.2 (h.all.ok k x HI.out HX.out))), bW3⟩
      subst hn
      have HK := Lib.hid (HZ.out.1 rfl)
      clear HZ
      go_wp2_with fail
      go_loopw [5] (fun j wr => ∃ m : Nat, m ≤ k ∧ j = .int .i64 m ∧ (∃ n, wr = W3.drewN n) ∧ ∀ (j : Nat) (y : Dc), j < m → l[j]? = some y → eqS y.nm x.nm = false) (fun j _ => k - (RowKit.intOf j).toNat)
      case atStart => exact ⟨0, Nat.zero_le _, rfl, ⟨0, rfl⟩, fun _ _ h => absurd h (Nat.not_lt_zero _)⟩
      case round =>
        obtain ⟨m, hm, rfl, ⟨n, rfl⟩, hD⟩ := hrel
        have HD := Lib.hid hD
        clear hD
        have m1 : (0 : Int) ≤ (m : Int) := by omega
        by_cases hmk : m < k
        · have m2 : (m : Int) < (k : Int) := by omega
          have m3 : (m : Int) < (l.length : Int) := by have := HI.out; omega
          obtain ⟨b', off', y, hA, hb', hy, hc'⟩ := (HR.out.st bW3).at_ (i := m) (by have := HI.out; omega)
          have HY := Lib.hid hy
          have f0 := hc' 0 _ rfl
          simp only [Nat.add_zero] at f0
          injection hA with hA
          injection hA with u1 u2
          subst u1 u2
          have HM := Lib.hid hmk
          clear hb' hy hmk hc'
          have t0 : (y.nm.toList == x.nm.toList) = eqS y.nm x.nm := rfl
          cases u0 : eqS y.nm x.nm
          · have HU := Lib.hid u0
            rw [u0] at t0
            clear u0
            go_wp2_with fail
            go_quiet (fail)
            go_wp2_with fail
            go_roundw
            case rel => exact ⟨m + 1, HM.out, by go_num, ⟨_, rfl⟩, fun j z hj hz => by by_cases e : j = m; (subst e; have h := HY.out; rw [hz] at h; cases h; exact HU.out); (exact HD.out j z (by omega) hz)⟩
            case measure => have := HM.out; simp [RowKit.intOf]; omega
          · have HU := Lib.hid u0
            rw [u0] at t0
            clear u0
            go_wp2_with fail
            go_quiet (fail)
            go_wp2_with fail
            go_ret
            exact ⟨ZR.no (by simp) (fun h => by have h1 := h.all.nd k m x y HM.out HI.out HX.out HY.out; rw [HU.out] at h1; cases h1), below_drewN (below_drewN bW3 _) _⟩
        · obtain rfl : m = k := by omega
          have bYn := below_drewN bW3 n
          go_wp2_with fail
          go_roundw
          case rel => exact ⟨m + 1, HI.out, by go_num, bYn, HL.out.next HX.out HK.out HD.out⟩
          case measure => have := HI.out; simp [RowKit.intOf]; omega
    · obtain rfl : k = l.length := by omega
      have HQ : Hid (¬ 12 < l.length) := Lib.hid q1
      clear q1
      go_wp2_with fail
      go_ret
      exact ⟨ZR.yes ⟨by have := HQ.out; omega, HL.out⟩, bW⟩
end Go.Proofs.YtelchfijalkibaaGreatDoor
/- Years, months and days of a calendar, in plain Lean. No program in sight. -/
namespace Go.Proofs.YtelchfijalkibaaGreatDoor

def leapB (y : Int) : Bool := (decide (y % 4 = 0) && !decide (y % 100 = 0)) || decide (y % 400 = 0)
def yearN (y : Int) : Int := if leapB y = true then 366 else 365
def lenM (y m : Int) : Int := if m = 2 then (if leapB y = true then 29 else 28) else if m = 4 ∨ m = 6 ∨ m = 9 ∨ m = 11 then 30 else 31
theorem yearN_pos (y : Int) : 365 ≤ yearN y ∧ yearN y ≤ 366 := by unfold yearN; split <;> omega
theorem lenM_pos (y m : Int) : 28 ≤ lenM y m ∧ lenM y m ≤ 31 := by
  unfold lenM
  split
  · split <;> omega
  · split <;> omega
/-- days of n years from 2001 on -/
def cumY : Nat → Int
  | 0 => 0
  | n + 1 => cumY n + yearN (2001 + n)
theorem cumY_lt (n k : Nat) : cumY n + 365 * k ≤ cumY (n + k) := by
  induction k with
  | zero => simp
  | succ k ih =>
    have := (yearN_pos (2001 + ((n + k : Nat) : Int))).1
    show cumY n + 365 * ((k + 1 : Nat) : Int) ≤ cumY (n + k) + yearN (2001 + ((n + k : Nat) : Int))
    omega
theorem leapB_400 (y : Int) : leapB (y + 400) = leapB y := by
  unfold leapB
  rw [show (y + 400) % 4 = y % 4 by omega, show (y + 400) % 100 = y % 100 by omega, show (y + 400) % 400 = y % 400 by omega]
theorem cumY_400 (n : Nat) : cumY (n + 400) = cumY n + 146097 := by
  induction n with
  | zero => kernel_rfl
  | succ n ih =>
    rw [show n + 1 + 400 = (n + 400) + 1 by omega]
    show cumY (n + 400) + yearN (2001 + ((n + 400 : Nat) : Int)) = cumY n + yearN (2001 + (n : Int)) + 146097
    rw [ih]
    have : yearN (2001 + ((n + 400 : Nat) : Int)) = yearN (2001 + (n : Int)) := by
      unfold yearN
      rw [show (2001 + ((n + 400 : Nat) : Int)) = 2001 + (n : Int) + 400 by omega, leapB_400]
    omega
theorem cumY_cycle (k : Nat) : cumY (400 * k) = 146097 * k := by
  induction k with
  | zero => rfl
  | succ k ih => rw [show 400 * (k + 1) = 400 * k + 400 by omega, cumY_400, ih]; omega
/-- days of m months -/
def cumM (y : Int) : Nat → Int
  | 0 => 0
  | m + 1 => cumM y m + lenM y ((m : Int) + 1)
theorem cumM_12 (y : Int) : cumM y 12 = yearN y := by
  have h : cumM y 12 = 0 + lenM y (0 + 1) + lenM y (1 + 1) + lenM y (2 + 1) + lenM y (3 + 1) + lenM y (4 + 1) + lenM y (5 + 1) + lenM y (6 + 1) + lenM y (7 + 1) + lenM y (8 + 1) + lenM y (9 + 1) + lenM y (10 + 1) + lenM y (11 + 1) := rfl
  rw [h]
  unfold lenM yearN
  cases leapB y <;> rfl
theorem cumM_lt (y : Int) (m k : Nat) : cumM y m + 28 * k ≤ cumM y (m + k) := by
  induction k with
  | zero => simp
  | succ k ih =>
    have := (lenM_pos y (((m + k : Nat) : Int) + 1)).1
    show cumM y m + 28 * ((k + 1 : Nat) : Int) ≤ cumM y (m + k) + lenM y (((m + k : Nat) : Int) + 1)
    omega
/-- the date of a day: year 2001 + n, month m + 1, r days of it gone -/
structure DR (d : Int) (n m : Nat) (r : Int) : Prop where
  day : cumY n + (cumM (2001 + n) m + r) = d
  m12 : m < 12
  r0 : 0 ≤ r
  r1 : r < lenM (2001 + n) (m + 1)
theorem cumM_bound {y : Int} {m : Nat} {r : Int} (hm : m < 12) (h0 : 0 ≤ r) (h1 : r < lenM y (m + 1)) : 0 ≤ cumM y m + r ∧ cumM y m + r < yearN y := by
  have a := cumM_lt y 0 m
  have b := cumM_lt y (m + 1) (11 - m)
  rw [show m + 1 + (11 - m) = 12 by omega, cumM_12] at b
  have c : cumM y (m + 1) = cumM y m + lenM y ((m : Int) + 1) := rfl
  have e : cumM y 0 = 0 := rfl
  rw [Nat.zero_add] at a
  omega
theorem DR.unique {d : Int} {n n' m m' : Nat} {r r' : Int} (h : DR d n m r) (k : DR d n' m' r') : n = n' ∧ m = m' ∧ r = r' := by
  have hb := cumM_bound h.m12 h.r0 h.r1
  have kb := cumM_bound k.m12 k.r0 k.r1
  have hd := h.day
  have kd := k.day
  have e : n = n' := by
    rcases Nat.lt_trichotomy n n' with q | q | q
    · have a := cumY_lt (n + 1) (n' - (n + 1))
      rw [show n + 1 + (n' - (n + 1)) = n' by omega] at a
      have c : cumY (n + 1) = cumY n + yearN (2001 + n) := rfl
      omega
    · exact q
    · have a := cumY_lt (n' + 1) (n - (n' + 1))
      rw [show n' + 1 + (n - (n' + 1)) = n by omega] at a
      have c : cumY (n' + 1) = cumY n' + yearN (2001 + n') := rfl
      omega
  subst e
  have hr1 := h.r1
  have kr1 := k.r1
  have hr0 := h.r0
  have kr0 := k.r0
  have e2 : m = m' := by
    rcases Nat.lt_trichotomy m m' with q | q | q
    · have a := cumM_lt (2001 + n) (m + 1) (m' - (m + 1))
      rw [show m + 1 + (m' - (m + 1)) = m' by omega] at a
      have c : cumM (2001 + n) (m + 1) = cumM (2001 + n) m + lenM (2001 + n) ((m : Int) + 1) := rfl
      omega
    · exact q
    · have a := cumM_lt (2001 + n) (m' + 1) (m - (m' + 1))
      rw [show m' + 1 + (m - (m' + 1)) = m by omega] at a
      have c : cumM (2001 + n) (m' + 1) = cumM (2001 + n) m' + lenM (2001 + n) ((m' : Int) + 1) := rfl
      omega
  subst e2
  exact ⟨rfl, rfl, by omega⟩
/-- the search for the year and for the month -/
def yl : Nat → Nat → Int → Nat × Int
  | 0, n, l => (n, l)
  | f + 1, n, l => if l < yearN (2001 + n) then (n, l) else yl f (n + 1) (l - yearN (2001 + n))
def ml (y : Int) : Nat → Nat → Int → Nat × Int
  | 0, m, l => (m, l)
  | f + 1, m, l => if l < lenM y (m + 1) then (m, l) else ml y f (m + 1) (l - lenM y (m + 1))
theorem yl_holds : ∀ (f n : Nat) (l : Int), 0 ≤ l → l < 365 * f → 0 ≤ (yl f n l).2 ∧ (yl f n l).2 < yearN (2001 + (yl f n l).1) ∧ cumY (yl f n l).1 + (yl f n l).2 = cumY n + l
  | 0, n, l, h0, h1 => by omega
  | f + 1, n, l, h0, h1 => by
    unfold yl
    split
    · rename_i h; exact ⟨h0, h, rfl⟩
    · rename_i h
      have p := yearN_pos (2001 + n)
      have := yl_holds f (n + 1) (l - yearN (2001 + n)) (by omega) (by omega)
      have c : cumY (n + 1) = cumY n + yearN (2001 + n) := rfl
      refine ⟨this.1, this.2.1, ?_⟩
      omega
theorem ml_holds (y : Int) : ∀ (f m : Nat) (l : Int), 0 ≤ l → m + f = 12 → cumM y m + l < yearN y → (ml y f m l).1 < 12 ∧ 0 ≤ (ml y f m l).2 ∧ (ml y f m l).2 < lenM y ((ml y f m l).1 + 1) ∧ cumM y (ml y f m l).1 + (ml y f m l).2 = cumM y m + l
  | 0, m, l, h0, h1, h2 => by
    obtain rfl : m = 12 := by omega
    rw [cumM_12] at h2; omega
  | f + 1, m, l, h0, h1, h2 => by
    unfold ml
    split
    · rename_i h; exact ⟨by omega, h0, h, rfl⟩
    · rename_i h
      have c : cumM y (m + 1) = cumM y m + lenM y ((m : Int) + 1) := rfl
      have := ml_holds y f (m + 1) (l - lenM y ((m : Int) + 1)) (by omega) (by omega) (by omega)
      refine ⟨this.1, this.2.1, this.2.2.1, ?_⟩
      omega
def ymd (d : Int) : Nat × Nat × Int :=
  let a := yl 2200 0 d
  let b := ml (2001 + a.1) 12 0 a.2
  (a.1, b.1, b.2)
theorem ymd_holds {d : Int} (h0 : 0 ≤ d) (h1 : d < 795364) : DR d (ymd d).1 (ymd d).2.1 (ymd d).2.2 := by
  have a := yl_holds 2200 0 d h0 (by omega)
  have b := ml_holds (2001 + (yl 2200 0 d).1) 12 0 (yl 2200 0 d).2 a.1 (by omega) (by rw [show cumM (2001 + ((yl 2200 0 d).1 : Int)) 0 = 0 from rfl]; omega)
  have z : cumM (2001 + ((yl 2200 0 d).1 : Int)) 0 = 0 := rfl
  have z2 : cumY 0 = 0 := rfl
  exact ⟨by show cumY (yl 2200 0 d).1 + (cumM _ _ + _) = d; have e := b.2.2.2; unfold ymd; simp only; omega, b.1, b.2.1, b.2.2.1⟩
/-- the day of a time, the number of its month; -1: none -/
def dayN (t : Int) : Int := if 0 ≤ t ∧ t < 68719476736 then t / 86400 else -1
def monD (d : Int) : Int := if 0 ≤ d ∧ d < 795364 then 12 * ((ymd d).1 : Int) + (ymd d).2.1 else -1
def monN (t : Int) : Int := monD (dayN t)
theorem DR.n_le {d : Int} {n m : Nat} {r : Int} (h : DR d n m r) (h1 : d < 795364) : n ≤ 2200 := by
  have hb := cumM_bound h.m12 h.r0 h.r1
  have a := cumY_lt 0 n
  have hd := h.day
  have z : cumY 0 = 0 := rfl
  rw [Nat.zero_add] at a
  omega
end Go.Proofs.YtelchfijalkibaaGreatDoor
/- Days, years and months, walked: the clock's and the reference's. -/
set_option linter.unusedSimpArgs false
namespace Go.Proofs.YtelchfijalkibaaGreatDoor
open Go.RowKit Go.Lib

/-- the table of the months, as it was laid -/
def monL : List Int := [31, 28, 31, 30, 31, 30, 31, 31, 30, 31, 30, 31]
def Mon (w : World) : Prop := 2 < w.heap.size ∧ ∀ k : Nat, ∀ v : Int, monL[k]? = some v → w.cell? ⟨2, k, none⟩ = some (.int .i64 v)
theorem Mon.st {w w' : World} (h : Mon w) {B : Nat} (hb : Below B w w') (hB : 2 < B) : Mon w' := ⟨Nat.lt_of_lt_of_le h.1 hb.size, fun k v hv => (World.cell?_of_block (hb.block 2 hB)).trans (h.2 k v hv)⟩
theorem Mon.at {w : World} (h : Mon w) (y m : Int) (h1 : 1 ≤ m) (h2 : m ≤ 12) (hn : ¬ (m = 2 ∧ leapB y = true)) : w.cell? ⟨2, (m - 1).toNat, none⟩ = some (.int .i64 (lenM y m)) := by
  rcases (by omega : m = 1 ∨ m = 2 ∨ m = 3 ∨ m = 4 ∨ m = 5 ∨ m = 6 ∨ m = 7 ∨ m = 8 ∨ m = 9 ∨ m = 10 ∨ m = 11 ∨ m = 12) with rfl | rfl | rfl | rfl | rfl | rfl | rfl | rfl | rfl | rfl | rfl | rfl
  case inr.inl =>
    have e : leapB y = false := by cases q : leapB y; rfl; exact absurd ⟨rfl, q⟩ hn
    have : lenM y 2 = 28 := by unfold lenM; rw [e]; rfl
    rw [this]; exact h.2 1 28 rfl
  all_goals (first | exact h.2 0 _ rfl | exact h.2 2 _ rfl | exact h.2 3 _ rfl | exact h.2 4 _ rfl | exact h.2 5 _ rfl | exact h.2 6 _ rfl | exact h.2 7 _ rfl | exact h.2 8 _ rfl | exact h.2 9 _ rfl | exact h.2 10 _ rfl | exact h.2 11 _ rfl)

theorem ret_b {a b : Bool} (h : a = b) : (Ending.returned (.bool a)) = .returned (.bool b) := by rw [h]
theorem cisTime_any (t : Int) (w : World) : Calls Tryz.prog 63 #[.int .i64 t] w fun e w' => e = .returned (.bool (decide (0 ≤ t ∧ t < 68719476736))) ∧ w' = w := by
  go_enter Tryz.func63, Tryz.ntmps63
  go_wp2
  all_goals (go_ret; exact ⟨ret_b (by rw [Bool.eq_iff_iff]; simp <;> omega), rfl⟩)
theorem cisDay_any (d : Int) (w : World) : Calls Tryz.prog 64 #[.int .i64 d] w fun e w' => e = .returned (.bool (decide (0 ≤ d ∧ d < 795364))) ∧ w' = w := by
  go_enter Tryz.func64, Tryz.ntmps64
  go_wp2
  all_goals (go_ret; exact ⟨ret_b (by rw [Bool.eq_iff_iff]; simp <;> omega), rfl⟩)
theorem cday_any (t : Int) (w : World) : Calls Tryz.prog 35 #[.int .i64 t] w fun e w' => e = .returned (.int .i64 (dayN t)) ∧ w' = w := by
  unfold dayN
  by_cases h : 0 ≤ t ∧ t < 68719476736
  · rw [if_pos h]
    have e : t.tdiv 86400 = t / 86400 := Int.tdiv_eq_ediv_of_nonneg h.1
    go_enter Tryz.func35, Tryz.ntmps35
    go_wp2_with (go_at_call 63; refine (cisTime_any _ _).mono ?_; rw [decide_eq_true h]; rintro e w' ⟨rfl, rfl⟩)
    go_ret
    exact ⟨rfl, rfl⟩
  · rw [if_neg h]
    go_enter Tryz.func35, Tryz.ntmps35
    go_wp2_with (go_at_call 63; refine (cisTime_any _ _).mono ?_; rw [decide_eq_false h]; rintro e w' ⟨rfl, rfl⟩)
    go_ret
    exact ⟨rfl, rfl⟩
theorem cleap_any (y : Int) (hy : 0 ≤ y) (w : World) : Calls Tryz.prog 65 #[.int .i64 y] w fun e w' => e = .returned (.bool (leapB y)) ∧ w' = w := by
  have e1 : y.tmod 4 = y % 4 := Int.tmod_eq_emod_of_nonneg hy
  have e2 : y.tmod 100 = y % 100 := Int.tmod_eq_emod_of_nonneg hy
  have e3 : y.tmod 400 = y % 400 := Int.tmod_eq_emod_of_nonneg hy
  unfold leapB
  go_enter Tryz.func65, Tryz.ntmps65
  go_wp2
  all_goals (go_ret; exact ⟨ret_b (by rw [Bool.eq_iff_iff]; simp <;> omega), rfl⟩)
theorem clen_any (y m : Int) (hy : 0 ≤ y) (h1 : 1 ≤ m) (h2 : m ≤ 12) (w : World) (hw : Mon w) : Calls Tryz.prog 66 #[.int .i64 y, .int .i64 m] w fun e w' => e = .returned (.int .i64 (lenM y m)) ∧ w' = w := by
  have CL := Lib.hid (cleap_any y hy w)
  by_cases hm : m = 2
  · subst hm
    cases h : leapB y
    · have R : Hid (lenM y 2 = 28) := Lib.hid (by unfold lenM; rw [h]; rfl)
      have c : w.cell? ⟨2, 1, none⟩ = some (.int .i64 28) := hw.2 1 28 rfl
      rw [h] at CL
      clear h
      go_enter Tryz.func66, Tryz.ntmps66
      go_wp2_with fail
      refine CL.out.mono ?_
      rintro e w' ⟨rfl, rfl⟩
      go_wp2_with fail
      go_ret
      rw [R.out]; exact ⟨rfl, rfl⟩
    · have R : Hid (lenM y 2 = 29) := Lib.hid (by unfold lenM; rw [h]; rfl)
      rw [h] at CL
      clear h
      go_enter Tryz.func66, Tryz.ntmps66
      go_wp2_with fail
      refine CL.out.mono ?_
      rintro e w' ⟨rfl, rfl⟩
      go_wp2_with fail
      go_ret
      rw [R.out]; exact ⟨rfl, rfl⟩
  · have c := hw.at y m h1 h2 (fun q => hm q.1)
    have k2 : (m == 2) = false := by simp; omega
    have hwr : IntKind.i64.wrap (m - 1) = m - 1 := IntWalk.i64_in _ (by omega)
    generalize lenM y m = r at *
    obtain ⟨j, hj⟩ : ∃ j : Nat, m = (j : Int) + 1 := ⟨(m - 1).toNat, by omega⟩
    subst hj
    rw [show ((j : Int) + 1 - 1).toNat = j by omega] at c
    have hj0 : (j : Int) + 1 - 1 = (j : Int) := by omega
    have hj1 : (j : Int) < 12 := by omega
    rw [hj0] at hwr
    go_enter Tryz.func66, Tryz.ntmps66
    go_wp2_with fail
    go_ret
    exact ⟨rfl, rfl⟩
end Go.Proofs.YtelchfijalkibaaGreatDoor
