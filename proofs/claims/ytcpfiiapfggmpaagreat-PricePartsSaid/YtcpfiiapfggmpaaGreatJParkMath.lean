/- Joined texts: ParkMath, ZoneHours. -/
import Derived.Test.YtcpfiiapfggmpaaGreatJZoneLeaf
import Derived.RangeFuncNested
import Derived.RangeFuncBound
import Derived.RangeFuncCalls
import Derived.RangeFuncLeaves
import Derived.RangeFuncFrom
import Derived.RangeFuncBox
import Derived.Shelf.Abstract
import Derived.Shelf.RegionOpen
import Derived.OwnWalkIn
import Derived.TacticsInMore
import Derived.LoopNIn
import Derived.LoopIn
/- Prices of seconds, seconds of days, fees: the plain mathematics of chapter 28. No program in sight. -/
namespace Go.Proofs.YtcpfiiapfggmpaaGreat

/-! ### the price of seconds -/
def piece (x : Wn) (p : Int) : Int := if p ≤ 0 then 0 else ((p - 1) / x.2.1 + 1) * x.2.2
def val : List Wn → Int → Int → Int
  | [], _, _ => 0
  | [x], f, s => piece x (s - f)
  | x :: y :: r, f, s => piece x (min s x.1 - f) + val (y :: r) x.1 s
/-- a step within its bounds -/
def SOk (x : Wn) : Prop := 1 ≤ x.2.1 ∧ x.2.1 ≤ 68719476736 ∧ 0 ≤ x.2.2 ∧ x.2.2 ≤ 2147483648
theorem piece_zero {x : Wn} {p : Int} (h : p ≤ 0) : piece x p = 0 := if_pos h
theorem piece_pos {x : Wn} {p : Int} (h : 0 < p) : piece x p = ((p - 1) / x.2.1 + 1) * x.2.2 := if_neg (by omega)
theorem units_pos {x : Wn} {p : Int} (h : 0 < p) (hx : SOk x) : 1 ≤ (p - 1) / x.2.1 + 1 ∧ (p - 1) / x.2.1 + 1 ≤ p := by
  obtain ⟨h1, h2, h3, h4⟩ := hx
  have a : 0 ≤ (p - 1) / x.2.1 := Int.ediv_nonneg (by omega) (by omega)
  have b : (p - 1) / x.2.1 ≤ p - 1 := Int.ediv_le_self _ (by omega)
  omega
theorem piece_nonneg {x : Wn} (p : Int) (hx : SOk x) : 0 ≤ piece x p := by
  by_cases h : p ≤ 0
  · rw [piece_zero h]; omega
  · rw [piece_pos (by omega)]
    have := units_pos (by omega : 0 < p) hx
    exact Int.mul_nonneg (by omega) hx.2.2.1
theorem piece_mono {x : Wn} {p q : Int} (hx : SOk x) (h : p ≤ q) : piece x p ≤ piece x q := by
  by_cases hp : p ≤ 0
  · rw [piece_zero hp]; exact piece_nonneg q hx
  · rw [piece_pos (by omega), piece_pos (by omega)]
    refine Int.mul_le_mul_of_nonneg_right ?_ hx.2.2.1
    have := Int.ediv_le_ediv (show 0 < x.2.1 by have := hx.1; omega) (show p - 1 ≤ q - 1 by omega)
    omega
theorem val_nonneg : ∀ (l : List Wn) (f s : Int), (∀ x ∈ l, SOk x) → 0 ≤ val l f s
  | [], _, _, _ => by simp [val]
  | [x], f, s, h => by rw [val]; exact piece_nonneg _ (h x (by simp))
  | x :: y :: r, f, s, h => by
    rw [val]
    have a := piece_nonneg (min s x.1 - f) (h x (by simp))
    have b := val_nonneg (y :: r) x.1 s fun z hz => h z (by simp only [List.mem_cons] at hz ⊢; exact .inr hz)
    omega
theorem val_mono : ∀ (l : List Wn) (f s s' : Int), (∀ x ∈ l, SOk x) → s ≤ s' → val l f s ≤ val l f s'
  | [], _, _, _, _, _ => by simp [val]
  | [x], f, s, s', h, hs => by rw [val, val]; exact piece_mono (h x (by simp)) (by omega)
  | x :: y :: r, f, s, s', h, hs => by
    rw [val, val]
    have a := piece_mono (p := min s x.1 - f) (q := min s' x.1 - f) (h x (by simp)) (by omega)
    have b := val_mono (y :: r) x.1 s s' (fun z hz => h z (by simp only [List.mem_cons] at hz ⊢; exact .inr hz)) hs
    omega
/-- the limits rise from f on -/
def Inc : List Wn → Int → Prop
  | [], _ => True
  | [_], _ => True
  | x :: y :: r, f => f < x.1 ∧ Inc (y :: r) x.1
theorem val_low : ∀ (l : List Wn) (f s : Int), Inc l f → s ≤ f → val l f s = 0
  | [], _, _, _, _ => rfl
  | [x], f, s, _, h => by rw [val, piece_zero (by omega)]
  | x :: y :: r, f, s, hi, h => by
    have hi' : f < x.1 ∧ Inc (y :: r) x.1 := hi
    rw [val, piece_zero (by omega), val_low (y :: r) x.1 s hi'.2 (by omega)]
    rfl
/-- what lies before the i-th step -/
def lim (ss : List Wn) (i : Nat) : Int := if i = 0 then 0 else prevU ss i
theorem lim_zero (ss : List Wn) : lim ss 0 = 0 := rfl
theorem lim_succ {ss : List Wn} {i : Nat} {x : Wn} (h : ss[i]? = some x) : lim ss (i + 1) = x.1 := by
  unfold lim prevU
  rw [if_neg (by omega)]
  simp [h]
theorem val_step {ss : List Wn} {i : Nat} {x : Wn} {f s : Int} (h : ss[i]? = some x) : val (ss.drop i) f s = if i + 1 < ss.length then piece x (min s x.1 - f) + val (ss.drop (i + 1)) x.1 s else piece x (s - f) := by
  rw [drop_get h]
  split
  · rename_i hl
    obtain ⟨y, hy⟩ : ∃ y, ss[i + 1]? = some y := ⟨_, List.getElem?_eq_getElem hl⟩
    rw [drop_get hy, val]
  · rename_i hl
    rw [List.drop_eq_nil_of_le (by omega), val]
theorem firstE_zero {f : Nat → Int} {n : Nat} (h : firstE f n = 0) : ∀ j, j < n → f j = 0 := by
  intro j hj
  unfold firstE at h
  cases hf : ((List.range n).map f).find? fun e => decide (e ≠ 0) with
  | none =>
    rw [List.find?_eq_none] at hf
    have := hf (f j) (by simp only [List.mem_map, List.mem_range]; exact ⟨j, hj, rfl⟩)
    simpa using this
  | some e =>
    rw [hf] at h
    have := List.find?_some hf
    simp at this h
    exact absurd h this
/-- valid steps -/
structure StOk (ss : List Wn) : Prop where
  pos : 0 < ss.length
  len : ss.length ≤ 16
  ok : ∀ x ∈ ss, SOk x
  up : ∀ i x, ss[i]? = some x → i + 1 < ss.length → 1 ≤ x.1 ∧ x.1 ≤ 68719476736 ∧ lim ss i < x.1
theorem StOk.of {ss : List Wn} (h : stepsE ss = 0) : StOk ss := by
  unfold stepsE at h
  split at h
  · cases h
  rename_i h16
  split at h
  · cases h
  rename_i h0
  have key : ∀ i x, ss[i]? = some x → SOk x ∧ (i + 1 < ss.length → 1 ≤ x.1 ∧ x.1 ≤ 68719476736 ∧ lim ss i < x.1) := by
    intro i x hx
    have hi : i < ss.length := (List.getElem?_eq_some_iff.1 hx).1
    have e := firstE_zero h i hi
    unfold stepE at e
    rw [hx] at e
    simp only [Option.map_some, Option.getD_some] at e
    unfold stepX at e
    split at e
    · cases e
    rename_i h1
    refine ⟨by unfold SOk; omega, fun hl => ?_⟩
    rw [if_neg (by omega)] at e
    split at e
    · cases e
    rename_i h2
    split at e
    · cases e
    rename_i h3
    refine ⟨by omega, by omega, ?_⟩
    unfold lim
    by_cases hz : i = 0
    · rw [if_pos hz]; omega
    · rw [if_neg hz]; omega
  refine ⟨by omega, by omega, fun x hx => ?_, fun i x hx hl => (key i x hx).2 hl⟩
  obtain ⟨i, hi, rfl⟩ := List.getElem_of_mem hx
  exact (key i _ (List.getElem?_eq_getElem hi)).1
theorem StOk.inc {ss : List Wn} (h : StOk ss) : ∀ (n i : Nat), ss.length - i = n → Inc (ss.drop i) (lim ss i) := by
  intro n
  induction n with
  | zero => intro i hi; rw [List.drop_eq_nil_of_le (by omega)]; trivial
  | succ n ih =>
    intro i hi
    obtain ⟨x, hx⟩ : ∃ x, ss[i]? = some x := ⟨_, List.getElem?_eq_getElem (by omega)⟩
    have e := ih (i + 1) (by omega)
    rw [lim_succ hx] at e
    rw [drop_get hx]
    by_cases hl : i + 1 < ss.length
    · obtain ⟨y, hy⟩ : ∃ y, ss[i + 1]? = some y := ⟨_, List.getElem?_eq_getElem hl⟩
      rw [drop_get hy] at e ⊢
      exact ⟨(h.up i x hx hl).2.2, e⟩
    · rw [List.drop_eq_nil_of_le (by omega)]; trivial
def V (ss : List Wn) (s : Int) : Int := val ss 0 s
theorem StOk.low {ss : List Wn} (h : StOk ss) {i : Nat} {s : Int} (hs : s ≤ lim ss i) : val (ss.drop i) (lim ss i) s = 0 := val_low _ _ _ (h.inc _ i rfl) hs
theorem V_zero {ss : List Wn} (h : StOk ss) : V ss 0 = 0 := by
  have := h.low (i := 0) (s := 0) (by rw [lim_zero]; omega)
  rwa [lim_zero] at this
theorem V_nonneg {ss : List Wn} (h : StOk ss) (s : Int) : 0 ≤ V ss s := val_nonneg _ _ _ h.ok
theorem V_mono {ss : List Wn} (h : StOk ss) {s t : Int} (hst : s ≤ t) : V ss s ≤ V ss t := val_mono _ _ _ _ h.ok hst
theorem drop_ok {ss : List Wn} (h : StOk ss) (i : Nat) (f s : Int) : 0 ≤ val (ss.drop i) f s := val_nonneg _ _ _ fun x hx => h.ok x (List.mem_of_mem_drop hx)
/-- a step that is not the last -/
theorem V_on {ss : List Wn} {i : Nat} {x : Wn} {p s : Int} (hx : ss[i]? = some x) (hl : i + 1 < ss.length) (e : p + val (ss.drop i) (lim ss i) s = V ss s) :
    p + piece x (min s x.1 - lim ss i) + val (ss.drop (i + 1)) (lim ss (i + 1)) s = V ss s := by
  rw [val_step hx, if_pos hl] at e
  rw [lim_succ hx]
  omega
theorem V_last {ss : List Wn} {i : Nat} {x : Wn} {p s : Int} (hx : ss[i]? = some x) (hl : ¬ i + 1 < ss.length) (e : p + val (ss.drop i) (lim ss i) s = V ss s) :
    p + piece x (s - lim ss i) = V ss s := by
  rw [val_step hx, if_neg hl] at e
  omega

/-! ### open seconds before a time -/
def U (hs : List Wn) (a b : Int) : Int := (cnt b.toNat fun t => decide (a ≤ t) && hoursB hs t : Nat)
theorem cnt_mono (p : Int → Bool) {m n : Nat} (h : m ≤ n) : cnt m p ≤ cnt n p := by
  induction n with
  | zero => rw [show m = 0 by omega]; exact Nat.le_refl _
  | succ n ih =>
    rcases (by omega : m ≤ n ∨ m = n + 1) with k | rfl
    · rw [cnt_succ]; have := ih k; omega
    · exact Nat.le_refl _
theorem U_mono (hs : List Wn) (a : Int) {b c : Int} (h : b ≤ c) : U hs a b ≤ U hs a c := by
  unfold U
  have := cnt_mono (fun t => decide (a ≤ t) && hoursB hs t) (show b.toNat ≤ c.toNat by omega)
  omega
theorem U_nonneg (hs : List Wn) (a b : Int) : 0 ≤ U hs a b := by unfold U; omega
theorem U_le (hs : List Wn) (a : Int) {b : Int} (h : 0 ≤ b) : U hs a b ≤ b := by
  unfold U
  have := cnt_le b.toNat fun t => decide (a ≤ t) && hoursB hs t
  omega
theorem cnt_none {p : Int → Bool} : ∀ {m : Nat}, (∀ n : Nat, n < m → p n = false) → cnt m p = 0
  | 0, _ => rfl
  | m + 1, h => by rw [cnt_succ, cnt_none (fun n hn => h n (by omega)), h m (by omega)]; rfl
theorem U_zero (hs : List Wn) {a b : Int} (h : b ≤ a) : U hs a b = 0 := by
  unfold U
  rw [cnt_none]
  · rfl
  · intro n hn
    rw [show decide (a ≤ (n : Int)) = false by rw [decide_eq_false_iff_not]; omega]
    rfl
theorem U_all {a b : Int} (ha : 0 ≤ a) (hab : a ≤ b) : U [] a b = b - a := by
  unfold U
  have e := cnt_iv a b ha hab b.toNat
  have e2 : cnt b.toNat (fun t => decide (a ≤ t) && hoursB [] t) = cnt b.toNat (fun t => decide (a ≤ t ∧ t < b)) := by
    have : ∀ m : Nat, (m : Int) ≤ b → cnt m (fun t => decide (a ≤ t) && hoursB [] t) = cnt m (fun t => decide (a ≤ t ∧ t < b)) := by
      intro m
      induction m with
      | zero => intro _; rfl
      | succ m ih =>
        intro hm
        rw [cnt_succ, cnt_succ, ih (by omega)]
        congr 2
        rw [Bool.eq_iff_iff]
        simp [hoursB]
        omega
    exact this b.toNat (by omega)
  rw [e2, e]
  split
  · omega
  · split <;> omega
/-- the part of a list before a time -/
def lenB (l : List Iv) (t : Int) : Int := (l.map fun x => if t ≤ x.1 then 0 else min x.2 t - x.1).sum
theorem lenB_nil (t : Int) : lenB [] t = 0 := rfl
theorem lenB_cons (x : Iv) (l : List Iv) (t : Int) : lenB (x :: l) t = (if t ≤ x.1 then 0 else min x.2 t - x.1) + lenB l t := by simp [lenB]
theorem lenB_append (a b : List Iv) (t : Int) : lenB (a ++ b) t = lenB a t + lenB b t := by simp [lenB]
theorem lenB_cnt (T : Nat) : ∀ {l : List Iv}, NF l → lenB l T = cnt T (memB l)
  | [], _ => by
    rw [show memB [] = fun _ => false from by funext t; rw [Bool.eq_false_iff]; intro h; exact Mem.nil t ((memB_iff _ _).1 h), cnt_false]
    rfl
  | x :: l, h => by
    have ih := lenB_cnt T ((NF.cons_iff x l).1 h).2.2
    have vx := ((NF.cons_iff x l).1 h).1
    have e := cnt_or_and T (fun t => decide (x.1 ≤ t ∧ t < x.2)) (memB l)
    have e1 : cnt T (fun t => decide (x.1 ≤ t ∧ t < x.2) || memB l t) = cnt T (memB (x :: l)) := cnt_congr _ _ _ fun t => by
      rw [Bool.eq_iff_iff, memB_iff, Mem.cons]
      simp [memB_iff, vx]
    have e2 : cnt T (fun t => decide (x.1 ≤ t ∧ t < x.2) && memB l t) = 0 := by
      rw [← cnt_false T]
      refine cnt_congr _ _ _ fun t => ?_
      rw [Bool.eq_false_iff]
      intro hh
      simp [memB_iff] at hh
      have := h.tail_lt hh.2
      omega
    have e3 := cnt_iv x.1 x.2 (by unfold vld at vx; omega) (by unfold vld at vx; omega) T
    have e4 : (cnt T (fun t => decide (x.1 ≤ t ∧ t < x.2)) : Int) = if (T : Int) ≤ x.1 then 0 else min x.2 T - x.1 := by
      rw [e3]
      unfold vld at vx
      split
      · rfl
      · split <;> omega
    rw [lenB_cons, ih, ← e4, ← e1]
    omega
theorem lenB_all {l : List Iv} {t : Int} (h : NF l) (ht : ∀ x ∈ l, x.2 ≤ t) : lenB l t = len l := by
  unfold lenB len
  congr 1
  refine List.map_congr_left fun x hx => ?_
  have a := h.1 x hx
  have b := ht x hx
  unfold vld at a
  rw [if_neg (by omega)]
  omega
/-- a list that holds the open seconds of an interval -/
def EnfL (hs : List Wn) (a b : Int) (l : List Iv) : Prop := NF l ∧ ∀ t, Mem l t ↔ a ≤ t ∧ t < b ∧ hoursP hs t
theorem EnfL.ends {hs : List Wn} {a b : Int} {l : List Iv} (h : EnfL hs a b l) {x : Iv} (hx : x ∈ l) : a ≤ x.1 ∧ x.1 < x.2 ∧ x.2 ≤ b ∧ 0 ≤ x.1 ∧ x.2 ≤ 68719476736 := by
  have v := h.1.1 x hx
  have v' := v
  unfold vld at v'
  have p := (h.2 x.1).1 ⟨x, hx, v, by omega, by omega⟩
  have q := (h.2 (x.2 - 1)).1 ⟨x, hx, v, by omega, by omega⟩
  omega
theorem EnfL.lenB {hs : List Wn} {a b t : Int} {l : List Iv} (h : EnfL hs a b l) (ht : 0 ≤ t) : lenB l t = U hs a (min t b) := by
  have e := lenB_cnt t.toNat h.1
  rw [show ((t.toNat : Nat) : Int) = t by omega] at e
  rw [e]
  unfold U
  have key : ∀ m : Nat, cnt m (memB l) = cnt (min (m : Int) b).toNat (fun t => decide (a ≤ t) && hoursB hs t) := by
    intro m
    induction m with
    | zero => rw [show (min ((0 : Nat) : Int) b).toNat = 0 by omega]; rfl
    | succ m ih =>
      rw [cnt_succ, ih]
      by_cases hm : (m : Int) < b
      · rw [show (min ((m : Nat) : Int) b).toNat = m by omega, show (min ((m + 1 : Nat) : Int) b).toNat = m + 1 by omega, cnt_succ]
        congr 2
        rw [Bool.eq_iff_iff, memB_iff, h.2]
        simp [hoursB_iff, hm]
      · rw [show (min ((m + 1 : Nat) : Int) b).toNat = (min ((m : Nat) : Int) b).toNat by omega]
        have : memB l m = false := by
          rw [Bool.eq_false_iff]
          intro hh
          have := (h.2 m).1 ((memB_iff _ _).1 hh)
          omega
        rw [this]; simp
  have k := key t.toNat
  rw [show ((t.toNat : Nat) : Int) = t by omega] at k
  rw [k]
theorem EnfL.len {hs : List Wn} {a b : Int} {l : List Iv} (h : EnfL hs a b l) (hb : 0 ≤ b) : len l = U hs a b := by
  rw [← lenB_all h.1 fun x hx => (h.ends hx).2.2.1, h.lenB hb, show min b b = b by omega]
/-- the part before a time, as a list -/
theorem EnfL.meet {hs : List Wn} {a b t : Int} {l n : List Iv} (h : EnfL hs a b l) (ht : 0 ≤ t ∧ t ≤ 68719476736) (hn : NF n) (hm : ∀ x, Mem n x ↔ Mem l x ∧ Mem [((0, t) : Iv)] x) : EnfL hs a (min t b) n := by
  refine ⟨hn, fun x => ?_⟩
  rw [hm, h.2, Mem.cons]
  simp only [Mem.nil, or_false]
  unfold vld
  constructor
  · rintro ⟨⟨p, q, r⟩, s, u, v⟩; exact ⟨p, by omega, r⟩
  · rintro ⟨p, q, r⟩
    have : 0 ≤ x := by
      have := (h.2 x).2 ⟨p, by omega, r⟩
      exact this.range.1
    exact ⟨⟨p, by omega, r⟩, ⟨by omega, by omega, by omega⟩, this, by omega⟩
theorem EnfL.until {hs : List Wn} {a b t : Int} {l n : List Iv} (h : EnfL hs a b l) (ht : 0 ≤ t ∧ t ≤ 68719476736) (hb : 0 ≤ b) (hn : NF n) (hm : ∀ x, Mem n x ↔ Mem l x ∧ Mem [((0, t) : Iv)] x) : Go.Proofs.YtcpfiiapfggmpaaGreat.len n = U hs a (min t b) :=
  (h.meet ht hn hm).len (by omega)
/-- the reference's cut -/
def cutL (l : List Iv) (t : Int) : List Iv := (l.filter fun x => decide (x.1 < t)).map fun x => (x.1, min x.2 t)
theorem cutL_cons (x : Iv) (l : List Iv) (t : Int) : cutL (x :: l) t = if x.1 < t then (x.1, min x.2 t) :: cutL l t else cutL l t := by
  unfold cutL
  by_cases h : x.1 < t <;> simp [h]
theorem cutL_NF {t : Int} (ht : t ≤ 68719476736) : ∀ {l : List Iv}, NF l → NF (cutL l t) ∧ (∀ y ∈ cutL l t, ∃ x ∈ l, y.1 = x.1) ∧ ∀ u, Mem (cutL l t) u ↔ Mem l u ∧ u < t
  | [], _ => by refine ⟨NF.nil, by simp [cutL], fun u => ?_⟩; simp [cutL, Mem.nil]
  | x :: l, h => by
    have h' := (NF.cons_iff x l).1 h
    obtain ⟨i1, i2, i3⟩ := cutL_NF ht h'.2.2
    have vx := h'.1
    have vx' := vx
    unfold vld at vx'
    rw [cutL_cons]
    split
    · rename_i hlt
      have vy : vld ((x.1, min x.2 t) : Iv) := by unfold vld; simp only; omega
      refine ⟨(NF.cons_iff _ _).2 ⟨vy, fun y hy => ?_, i1⟩, fun y hy => ?_, fun u => ?_⟩
      · obtain ⟨z, hz, e⟩ := i2 y hy
        have := h'.2.1 z hz
        simp only
        omega
      · rw [List.mem_cons] at hy
        rcases hy with rfl | hy
        · exact ⟨x, by simp, rfl⟩
        · obtain ⟨z, hz, e⟩ := i2 y hy
          exact ⟨z, by simp [hz], e⟩
      · rw [Mem.cons, Mem.cons, i3]
        constructor
        · rintro (⟨p, q, r⟩ | ⟨p, q⟩)
          · simp only at q r
            exact ⟨.inl ⟨vx, q, by omega⟩, by omega⟩
          · exact ⟨.inr p, q⟩
        · rintro ⟨⟨p, q, r⟩ | p, s⟩
          · exact .inl ⟨vy, q, by simp only; omega⟩
          · exact .inr ⟨p, s⟩
    · rename_i hlt
      refine ⟨i1, fun y hy => ?_, fun u => ?_⟩
      · obtain ⟨z, hz, e⟩ := i2 y hy
        exact ⟨z, by simp [hz], e⟩
      · rw [i3, Mem.cons]
        constructor
        · rintro ⟨p, q⟩; exact ⟨.inr p, q⟩
        · rintro ⟨⟨p, q, r⟩ | p, s⟩
          · omega
          · exact ⟨p, s⟩
theorem EnfL.cut {hs : List Wn} {a b t : Int} {l : List Iv} (h : EnfL hs a b l) (ht : t ≤ b) (hb : b ≤ 68719476736) : EnfL hs a t (cutL l t) := by
  obtain ⟨h1, _, h3⟩ := cutL_NF (t := t) (by omega) h.1
  refine ⟨h1, fun u => ?_⟩
  rw [h3, h.2]
  constructor
  · rintro ⟨⟨p, q, r⟩, s⟩; exact ⟨p, s, r⟩
  · rintro ⟨p, q, r⟩; exact ⟨⟨p, by omega, r⟩, q⟩
/-- the list is sorted: the reference's cut stops at the first one that is late -/
theorem cut_take {l : List Iv} (h : NF l) {t : Int} : ∀ k : Nat, (∀ j x, j < k → l[j]? = some x → x.1 < t) → (∀ x, l[k]? = some x → t ≤ x.1) → (l.take k).map (fun x => ((x.1, min x.2 t) : Iv)) = cutL l t := by
  induction l with
  | nil => intro k _ _; simp [cutL]
  | cons y r ih =>
    have h' := (NF.cons_iff y r).1 h
    intro k h1 h2
    cases k with
    | zero =>
      have a := h2 y rfl
      have : cutL (y :: r) t = [] := by
        unfold cutL
        rw [List.map_eq_nil_iff, List.filter_eq_nil_iff]
        intro z hz
        simp only [List.mem_cons] at hz
        rcases hz with rfl | hz
        · simp; omega
        · have := h'.2.1 z hz
          have v := h'.1
          unfold vld at v
          simp; omega
      rw [this]; rfl
    | succ k =>
      have a := h1 0 y (by omega) rfl
      rw [cutL_cons, if_pos a, List.take_succ_cons, List.map_cons]
      congr 1
      exact ih h'.2.2 k (fun j x hj hx => h1 (j + 1) x (by omega) (by simpa using hx)) (fun x hx => h2 x (by simpa using hx))
end Go.Proofs.YtcpfiiapfggmpaaGreat
/- zone.hours: the iterator's contract. -/
namespace Go.Proofs.YtcpfiiapfggmpaaGreat
open Go.RowKit Go.Lib Go.Shelf
attribute [local go_sem] Oper.semAt_some

/-- a valid window -/
abbrev VW := { x : Wn // vw x = true }
def toV (x : Wn) : Option VW := if h : vw x = true then some ⟨x, h⟩ else none
def vws (hs : List Wn) : List VW := hs.filterMap toV
theorem vws_yes {hs : List Wn} {k : Nat} {x : Wn} (hx : hs[k]? = some x) (h : vw x = true) : vws (hs.take (k + 1)) = vws (hs.take k) ++ [⟨x, h⟩] := by
  unfold vws
  rw [take_snoc hx, List.filterMap_append]
  simp [toV, h]
theorem vws_no {hs : List Wn} {k : Nat} {x : Wn} (hx : hs[k]? = some x) (h : vw x = false) : vws (hs.take (k + 1)) = vws (hs.take k) := by
  unfold vws
  rw [take_snoc hx, List.filterMap_append]
  simp [toV, h]
theorem vws_mem {hs : List Wn} {p : VW} (h : p ∈ vws hs) : p.1 ∈ hs := by
  unfold vws at h
  rw [List.mem_filterMap] at h
  obtain ⟨x, hx, hp⟩ := h
  unfold toV at hp
  split at hp
  · injection hp with hp; subst hp; exact hx
  · cases hp
theorem vws_of {hs : List Wn} {x : Wn} (hx : x ∈ hs) (h : vw x = true) : (⟨x, h⟩ : VW) ∈ vws hs := by
  unfold vws
  rw [List.mem_filterMap]
  exact ⟨x, hx, by simp [toV, h]⟩
theorem vws_map (hs : List Wn) : (vws hs).map (·.1) = hs.filter vw := by
  unfold vws
  induction hs with
  | nil => rfl
  | cons x l ih =>
    rw [List.filterMap_cons, List.filter_cons]
    cases h : vw x
    · simp [toV, h, ih]
    · simp [toV, h, ih]
theorem vws_length (hs : List Wn) (k : Nat) : (vws (hs.take k)).length ≤ k := by
  have h1 : (vws (hs.take k)).length = ((hs.take k).filter vw).length := by rw [← vws_map, List.length_map]
  have h2 := List.length_filter_le vw (hs.take k)
  have h3 : (hs.take k).length ≤ k := List.length_take_le _ _
  omega
def encV (x : VW) : Array Value := #[.agg #[.int .i64 x.1.1, .int .i64 x.1.2.1, .int .i64 x.1.2.2]]
theorem abides_alloc {α : Type} {J : List α → World → Prop} {B : Nat} (h : AbidesFrom B J) {pre : List α} {W : World} (hj : J pre W) (o : Obj) : J pre (W.alloc o) :=
  h pre W _ none hj (World.grownBy_alloc W o none) (fun r e => by cases e)

set_option maxRecDepth 100000 in
set_option maxHeartbeats 2000000 in
theorem hours1_in (n : Nat) (hn : 1 ≤ n) (l Bs n₀ c : Nat) {A : Option Addr} (hs : List Wn) (hlen : hs.length ≤ 9000000000000000000) (J Jx : List VW → World → Prop) (W : World) (hJ : AbidesFrom W.heap.size J)
    (hY : ∀ pre x W, J pre W → pre.length < hs.length → YieldAt Fence.wide (n - 1) Tryz.prog l (encV x) W fun e W' =>
      (e = .returned (.bool true) ∧ J (pre ++ [x]) W' ∧ Below n₀ W W') ∨ (e = .returned (.bool false) ∧ Jx (pre ++ [x]) W'))
    (hBs : W.cell? ⟨Bs, 1, none⟩ = some (.slice A hs.length c)) (hr : Rd encW 3 W n₀ A hs) (hn₀ : n₀ ≤ W.heap.size) (h0 : J [] W) :
    CallsIn Fence.wide n Tryz.prog 166 #[.func (.yield l) #[] #[], .pointer (some ⟨Bs, 0, none⟩)] W fun e W' => (∃ v, e = .returned v) ∧
      ((∃ ys, ys = vws hs ∧ J ys W') ∨ (∃ pre, (∀ p ∈ pre, p.1 ∈ hs) ∧ Jx pre W')) := by
  refine callsIn_of_wp Tryz.func166 rfl trivial ?_ rfl
  simp only [Tryz.ntmps166, List.size_toArray, List.length_cons, List.length_nil, Nat.reduceAdd, Nat.reduceSub, Array.replicate_succ, Array.replicate_zero, List.push_toArray, List.append_toArray, List.nil_append, List.cons_append]
  gi_wp2
  gi_loopw [8] (fun i wr => ∃ k : Nat, k ≤ hs.length ∧ i = .int .i64 k ∧ J (vws (hs.take k)) wr ∧ Below n₀ W wr)
    (fun i _ => hs.length - (RowKit.intOf i).toNat)
  case atStart => exact ⟨0, Nat.zero_le _, rfl, h0, Below.refl _ _⟩
  case round =>
    obtain ⟨k, hk, rfl, hJs, hnx⟩ := hrel
    by_cases hlt : k < hs.length
    · obtain ⟨b, off, x, y, z, rfl, hb, hx, d0, d1, d2⟩ := (hr.keep hnx).w3 hlt
      have hJ2 := abides_alloc hJ (abides_alloc hJ hJs (.cells #[.int .i64 x, .int .i64 y, .int .i64 z] 91)) (.cells #[.int .i64 x, .int .i64 y, .int .i64 z] 91)
      have hn2 := Nat.le_trans hn₀ hnx.size
      have hnx2 := (hnx.alloc hn2 (.cells #[.int .i64 x, .int .i64 y, .int .i64 z] 91)).alloc (by simp; omega) (.cells #[.int .i64 x, .int .i64 y, .int .i64 z] 91)
      cases hv : vw (x, y, z)
      · have e := vws_no hx hv
        rw [← e] at hJ2
        have HJ := Lib.hid hJ2
        have HV := Lib.hid hv
        clear e hx hv hJ2 hJs
        gi_wp2_with (refine ⟨trivial, ?_⟩; gi_at_call 151; refine (callsIn_wide.2 (zvalid_any (x, y, z) _)).mono ?_; rw [HV.out]; rintro e w' ⟨rfl, rfl⟩)
        refine ⟨fun _ h => (by cases h), ?_⟩
        gi_wp2
        go_roundw
        case rel => exact ⟨k + 1, by omega, by simp, HJ.out, hnx2⟩
        case measure => simp [RowKit.intOf]; omega
      · have e := vws_yes hx hv
        have hmem : ∀ p ∈ vws (hs.take k) ++ [(⟨(x, y, z), hv⟩ : VW)], p.1 ∈ hs := by
          rw [← e]; intro p hp; exact List.mem_of_mem_take (vws_mem hp)
        have HM := Lib.hid hmem
        have HE := Lib.hid e
        have HV := Lib.hid hv
        obtain ⟨fn, tmps, assign, body, hy, hR⟩ := hY (vws (hs.take k)) ⟨(x, y, z), hv⟩ _ hJ2 (Nat.lt_of_le_of_lt (vws_length hs k) hlt)
        dsimp only [encV] at hy
        clear e hx hJ2 hJs hmem
        gi_wp2_with (refine ⟨trivial, ?_⟩; gi_at_call 151; refine (callsIn_wide.2 (zvalid_any (x, y, z) _)).mono ?_; rw [HV.out]; rintro e w' ⟨rfl, rfl⟩)
        refine hR.mono ?_
        rintro e W3 (⟨rfl, hJ3, hk3⟩ | ⟨rfl, hJx3⟩)
        · rw [← HE.out] at hJ3
          have HJ3 := Lib.hid hJ3
          clear hJ3
          gi_wp2
          go_roundw
          case rel => exact ⟨k + 1, by omega, by simp, HJ3.out, hnx2.trans hk3⟩
          case measure => simp [RowKit.intOf]; omega
        · have HJx := Lib.hid hJx3
          clear hJx3
          gi_wp2
          refine bodyPost_ret (results_none rfl _ _ _) rfl ?_
          exact ⟨⟨_, rfl⟩, .inr ⟨_, HM.out, HJx.out⟩⟩
    · obtain rfl : k = hs.length := by omega
      rw [List.take_length] at hJs
      gi_wp2
      go_end0
      exact ⟨⟨_, rfl⟩, .inl ⟨_, rfl, hJs⟩⟩
theorem hours_stops (n : Nat) (hn : 1 ≤ n) (Bs n₀ c : Nat) {A : Option Addr} (hs : List Wn) (hlen : hs.length ≤ 9000000000000000000) (w : World) (hBl : Bs < w.heap.size) (hn₀ : n₀ ≤ w.heap.size)
    (hBs : w.cell? ⟨Bs, 1, none⟩ = some (.slice A hs.length c)) (hr : Rd encW 3 w n₀ A hs) :
    SeqStopsK Fence.wide n Tryz.prog 166 #[.pointer (some ⟨Bs, 0, none⟩)] encV (Below n₀) (fun ys => ys = vws hs) (fun pre => ∀ p ∈ pre, p.1 ∈ hs) hs.length w := fun l J Jx W hW hJ _ hY h0 =>
  hours1_in n hn l Bs n₀ c hs hlen J Jx W hJ hY ((hW.cell (p := ⟨Bs, 1, none⟩) hBl).trans hBs) (hr.keep (hW.mono hn₀)) (Nat.le_trans hn₀ hW.size) h0
set_option maxHeartbeats 1000000 in
theorem hours_in (n : Nat) (z : Zn) (w : World) :
    CallsIn Fence.wide n Tryz.prog 154 #[ZV z] w fun e w' => e = .returned (.func (.func 166) #[] #[.pointer (some ⟨w.heap.size, 0, none⟩)]) ∧ w' = w.alloc (.cells #[.string z.name, .slice z.hA z.hs.length z.hc, .slice z.sA z.ss.length z.sc, .int .i64 z.grace, .int .i64 z.free, .int .i64 z.dayMax, .int .i64 z.maxStay] 76) := by
  refine callsIn_of_wp Tryz.func154 rfl trivial ?_ rfl
  simp only [Tryz.ntmps154, List.size_toArray, List.length_cons, List.length_nil, Nat.reduceAdd, Nat.reduceSub, Array.replicate_succ, Array.replicate_zero, List.push_toArray, List.append_toArray, List.nil_append, List.cons_append]
  gi_wp2
  go_ret
  exact ⟨rfl, rfl⟩
end Go.Proofs.YtcpfiiapfggmpaaGreat
