/- Joined texts: SpanMath, First, Iv, More, Blk, StrEq, Emp. -/
import Derived.WalkKit
import Derived.Test.YtcpfiiapfggmpaaGreatProg
import Derived.Test.YtcpfiiapfggmpaaGreatBase
import Derived.Outline
import Derived.RangeFuncNested
import Derived.Laws.Rows
import Derived.RangeFuncBound
import Derived.RangeFuncCalls
import Derived.RangeFuncLeaves
import Derived.RangeFuncFrom
import Derived.RangeFuncBox
import Derived.Lib.Bytealg
import Derived.Laws.Strings
/- Sets of seconds as lists of intervals: the plain mathematics of chapter 05. No program in sight. -/
namespace Go.Proofs.YtcpfiiapfggmpaaGreat

abbrev Iv := Int × Int
def vld (x : Iv) : Prop := 0 ≤ x.1 ∧ x.1 < x.2 ∧ x.2 ≤ 68719476736
instance (x : Iv) : Decidable (vld x) := by unfold vld; infer_instance
def validB (f t : Int) : Bool := decide (0 ≤ f ∧ f < t ∧ t ≤ 68719476736)
theorem validB_iff (f t : Int) : validB f t = true ↔ vld (f, t) := by simp [validB, vld]
def Mem (l : List Iv) (t : Int) : Prop := ∃ x ∈ l, vld x ∧ x.1 ≤ t ∧ t < x.2
def NF (l : List Iv) : Prop := (∀ x ∈ l, vld x) ∧ l.Pairwise fun x y => x.2 < y.1
def len (l : List Iv) : Int := (l.map fun x => x.2 - x.1).sum

theorem Mem.nil (t : Int) : ¬ Mem [] t := by rintro ⟨x, hx, _⟩; simp at hx
theorem Mem.cons (x : Iv) (l : List Iv) (t : Int) : Mem (x :: l) t ↔ (vld x ∧ x.1 ≤ t ∧ t < x.2) ∨ Mem l t := by
  simp [Mem]
theorem Mem.append (a b : List Iv) (t : Int) : Mem (a ++ b) t ↔ Mem a t ∨ Mem b t := by
  simp [Mem, or_and_right, exists_or]
theorem Mem.perm {a b : List Iv} (h : a.Perm b) (t : Int) : Mem a t ↔ Mem b t := by
  simp [Mem, h.mem_iff]
theorem Mem.range {l : List Iv} {t : Int} (h : Mem l t) : 0 ≤ t ∧ t < 68719476736 := by
  obtain ⟨x, _, hv, h1, h2⟩ := h
  unfold vld at hv
  omega
theorem Mem.filter (l : List Iv) (t : Int) : Mem (l.filter fun x => validB x.1 x.2) t ↔ Mem l t := by
  constructor
  · rintro ⟨x, hx, h⟩
    rw [List.mem_filter] at hx
    exact ⟨x, hx.1, h⟩
  · rintro ⟨x, hx, hv, h⟩
    exact ⟨x, List.mem_filter.2 ⟨hx, (validB_iff _ _).2 hv⟩, hv, h⟩

theorem NF.nil : NF [] := ⟨by simp, List.Pairwise.nil⟩
theorem NF.cons_iff (x : Iv) (l : List Iv) : NF (x :: l) ↔ vld x ∧ (∀ y ∈ l, x.2 < y.1) ∧ NF l := by
  unfold NF
  simp only [List.mem_cons, List.pairwise_cons, forall_eq_or_imp]
  constructor
  · rintro ⟨⟨a, b⟩, c, d⟩; exact ⟨a, c, b, d⟩
  · rintro ⟨a, c, b, d⟩; exact ⟨⟨a, b⟩, c, d⟩
theorem NF.tail_lt {x : Iv} {l : List Iv} (h : NF (x :: l)) {t : Int} (ht : Mem l t) : x.2 < t := by
  obtain ⟨y, hy, _, h1, _⟩ := ht
  have := ((NF.cons_iff x l).1 h).2.1 y hy
  omega
theorem Mem.head {x : Iv} {l : List Iv} (h : vld x) : Mem (x :: l) x.1 := by
  rw [Mem.cons]; left; unfold vld at *; omega

/-- Two lists in normal form of one set are one list. -/
theorem NF.unique : ∀ {a b : List Iv}, NF a → NF b → (∀ t, Mem a t ↔ Mem b t) → a = b
  | [], [], _, _, _ => rfl
  | [], y :: b, _, hb, h => absurd ((h y.1).2 (Mem.head ((NF.cons_iff y b).1 hb).1)) (Mem.nil _)
  | x :: a, [], ha, _, h => absurd ((h x.1).1 (Mem.head ((NF.cons_iff x a).1 ha).1)) (Mem.nil _)
  | x :: a, y :: b, ha, hb, h => by
    have vx := ((NF.cons_iff x a).1 ha).1
    have vy := ((NF.cons_iff y b).1 hb).1
    have e1 : x.1 = y.1 := by
      have p1 := (h x.1).1 (Mem.head vx)
      have p2 := (h y.1).2 (Mem.head vy)
      rw [Mem.cons] at p1 p2
      have q1 : y.1 ≤ x.1 := by
        rcases p1 with p1 | p1
        · exact p1.2.1
        · have := hb.tail_lt p1; unfold vld at vy; omega
      have q2 : x.1 ≤ y.1 := by
        rcases p2 with p2 | p2
        · exact p2.2.1
        · have := ha.tail_lt p2; unfold vld at vx; omega
      omega
    have e2 : x.2 = y.2 := by
      rcases Int.lt_trichotomy x.2 y.2 with hlt | heq | hgt
      · have p : Mem (y :: b) x.2 := by rw [Mem.cons]; left; unfold vld at *; omega
        have p := (h x.2).2 p
        rw [Mem.cons] at p
        rcases p with p | p
        · omega
        · have := ha.tail_lt p; omega
      · exact heq
      · have p : Mem (x :: a) y.2 := by rw [Mem.cons]; left; unfold vld at *; omega
        have p := (h y.2).1 p
        rw [Mem.cons] at p
        rcases p with p | p
        · omega
        · have := hb.tail_lt p; omega
    have e : x = y := Prod.ext e1 e2
    subst e
    have : a = b := by
      refine NF.unique ((NF.cons_iff x a).1 ha).2.2 ((NF.cons_iff x b).1 hb).2.2 fun t => ?_
      have ht := h t
      rw [Mem.cons, Mem.cons] at ht
      constructor
      · intro p
        have g := ha.tail_lt p
        rcases ht.1 (.inr p) with q | q
        · omega
        · exact q
      · intro p
        have g := hb.tail_lt p
        rcases ht.2 (.inr p) with q | q
        · omega
        · exact q
    rw [this]

/-! ### counting -/
def cnt (M : Nat) (p : Int → Bool) : Nat := ((List.range M).filter fun n : Nat => p (n : Int)).length
open Classical in
/-- Is the second in the set? -/
noncomputable def memB (l : List Iv) (t : Int) : Bool := decide (Mem l t)
/-- How many seconds a set has; M is 2^36, behind a name. -/
noncomputable def secs (M : Nat) (l : List Iv) : Int := cnt M (memB l)
theorem NF.length_le : ∀ {l : List Iv}, NF l → ∀ b : Int, (∀ x ∈ l, b ≤ x.1) → b + (l.length : Int) ≤ 68719476736 ∨ l = []
  | [], _, _, _ => .inr rfl
  | x :: l, h, b, hb => by
    have h' := (NF.cons_iff x l).1 h
    have vx := h'.1
    have hbx := hb x (by simp)
    rcases NF.length_le h'.2.2 (b + 1) (fun y hy => by have := h'.2.1 y hy; unfold vld at vx; omega) with k | k
    · left; simp only [List.length_cons]; omega
    · left; subst k; unfold vld at vx; simp only [List.length_cons, List.length_nil]; omega
theorem NF.append_one {l : List Iv} {x : Iv} (h : NF l) (hx : vld x) (hl : ∀ y ∈ l, y.2 < x.1) : NF (l ++ [x]) := by
  refine ⟨?_, ?_⟩
  · intro y hy
    rw [List.mem_append] at hy
    rcases hy with hy | hy
    · exact h.1 y hy
    · simp at hy; subst hy; exact hx
  · rw [List.pairwise_append]
    exact ⟨h.2, by simp, fun a ha b hb => by simp at hb; subst hb; exact hl a ha⟩

theorem NF.take {l : List Iv} (h : NF l) (k : Nat) : NF (l.take k) :=
  ⟨fun x hx => h.1 x (List.mem_of_mem_take hx), h.2.sublist (List.take_sublist k l)⟩
theorem NF.drop {l : List Iv} (h : NF l) (k : Nat) : NF (l.drop k) :=
  ⟨fun x hx => h.1 x (List.mem_of_mem_drop hx), h.2.sublist (List.drop_sublist k l)⟩
/-! ### join: sorted valid intervals, merged from the left -/
def jstep (out : List Iv) (i : Iv) : List Iv :=
  match out.getLast? with
  | some l => if i.1 ≤ l.2 then out.dropLast ++ [(l.1, max l.2 i.2)] else out ++ [i]
  | none => out ++ [i]
theorem jstep_nil (i : Iv) : jstep [] i = [i] := rfl
theorem jstep_snoc (o : List Iv) (l i : Iv) : jstep (o ++ [l]) i = if i.1 ≤ l.2 then o ++ [(l.1, max l.2 i.2)] else o ++ [l] ++ [i] := by
  simp [jstep]
theorem snoc_cases (l : List Iv) : l = [] ∨ ∃ o x, l = o ++ [x] := by
  rcases List.eq_nil_or_concat l with h | ⟨o, x, h⟩
  · exact .inl h
  · exact .inr ⟨o, x, by simpa using h⟩
/-- the invariant of the merging loop -/
def JInv (out : List Iv) (b : Int) : Prop := NF out ∧ ∀ x ∈ out, x.1 ≤ b
theorem JInv.step {out : List Iv} {b : Int} {i : Iv} (h : JInv out b) (hb : b ≤ i.1) (hi : vld i) : JInv (jstep out i) i.1 ∧ ∀ t, Mem (jstep out i) t ↔ Mem out t ∨ Mem [i] t := by
  rcases snoc_cases out with rfl | ⟨o, l, rfl⟩
  · rw [jstep_nil]
    refine ⟨⟨(NF.cons_iff _ _).2 ⟨hi, by simp, NF.nil⟩, by simp⟩, fun t => by simp [Mem.nil]⟩
  · rw [jstep_snoc]
    obtain ⟨hn, hle⟩ := h
    have hl : vld l := hn.1 l (by simp)
    have hl1 : l.1 ≤ b := hle l (by simp)
    have hpw := (List.pairwise_append.1 hn.2)
    have hno : NF o := ⟨fun x hx => hn.1 x (by simp [hx]), hpw.1⟩
    have hol : ∀ y ∈ o, y.2 < l.1 := fun y hy => hpw.2.2 y hy l (by simp)
    by_cases hc : i.1 ≤ l.2
    · rw [if_pos hc]
      have hv : vld (l.1, max l.2 i.2) := by unfold vld at *; simp only; omega
      refine ⟨⟨hno.append_one hv (fun y hy => hol y hy), ?_⟩, ?_⟩
      · intro x hx
        rw [List.mem_append] at hx
        rcases hx with hx | hx
        · have := hle x (by simp [hx]); omega
        · simp at hx; subst hx; simp only; omega
      · intro t
        rw [Mem.append, Mem.append, Mem.cons, Mem.cons, Mem.cons]
        simp only [hv, hl, hi, true_and, Mem.nil, or_false]
        constructor
        · rintro (p | p)
          · exact .inl (.inl p)
          · by_cases q : t < l.2
            · exact .inl (.inr ⟨p.1, q⟩)
            · right; omega
        · rintro ((p | p) | p)
          · exact .inl p
          · right; omega
          · right; omega
    · rw [if_neg hc]
      refine ⟨⟨hn.append_one hi ?_, ?_⟩, ?_⟩
      · intro y hy
        rw [List.mem_append] at hy
        rcases hy with hy | hy
        · have := hol y hy; unfold vld at hl; omega
        · simp at hy; subst hy; omega
      · intro x hx
        rw [List.mem_append] at hx
        rcases hx with hx | hx
        · have := hle x hx; omega
        · simp at hx; subst hx; omega
      · intro t; rw [Mem.append]
def jfold (l : List Iv) : List Iv := l.foldl jstep []
/-! ### meet: two lists in normal form, by two places -/
def isect (a b : Iv) : Iv := (max a.1 b.1, min a.2 b.2)
def one? (m : Iv) : List Iv := if m.1 < m.2 then [m] else []
def meetL : List Iv → List Iv → List Iv
  | [], _ => []
  | _ :: _, [] => []
  | a :: x, b :: y => one? (isect a b) ++ if a.2 < b.2 then meetL x (b :: y) else meetL (a :: x) y
termination_by x y => x.length + y.length
/-! ### the complement -/
def compl (from_ : Int) : List Iv → List Iv
  | [] => [(from_, 68719476736)]
  | x :: l => (from_, x.1) :: compl x.2 l
/-- the accumulated form: what the loop has appended so far, and the next 'from' -/
def cpre : Int → List Iv → List Iv
  | _, [] => []
  | f, x :: l => (f, x.1) :: cpre x.2 l
def cfrom : Int → List Iv → Int
  | f, [] => f
  | _, x :: l => cfrom x.2 l
/-! ### the reference: ends and segments -/
def putStep (n : Int) (s : List Int × Bool) (x : Int) : List Int × Bool :=
  let s1 := if !s.2 && decide (n < x) then (s.1 ++ [n], true) else s
  (s1.1 ++ [x], s1.2 || decide (n = x))
def putS (n : Int) (l : List Int) : List Int × Bool := l.foldl (putStep n) ([], false)
def putL (l : List Int) (n : Int) : List Int := if (putS n l).2 then (putS n l).1 else (putS n l).1 ++ [n]
abbrev Asc (l : List Int) : Prop := l.Pairwise fun x y => x < y
def endStep (out : List Int) (x : Iv) : List Int := if validB x.1 x.2 then putL (putL out x.1) x.2 else out
def endsL (l : List Iv) (o : List Int) : List Int := l.foldl endStep o
/-- one segment of the reference's loop: from p to q, in the combination or not -/
def segStep (c : Int → Bool) (out : List Iv) (s : Iv) : List Iv :=
  if c s.1 then
    match out.getLast? with
    | some l => if l.2 = s.1 then out.dropLast ++ [(l.1, s.2)] else out ++ [s]
    | none => out ++ [s]
  else out
def segs : List Int → List Iv
  | [] => []
  | [_] => []
  | p :: q :: l => (p, q) :: segs (q :: l)
def segL (c : Int → Bool) (p : List Int) : List Iv := (segs p).foldl (segStep c) []
theorem segStep_snoc (c : Int → Bool) (o : List Iv) (l s : Iv) (h : c s.1 = true) : segStep c (o ++ [l]) s = if l.2 = s.1 then o ++ [(l.1, s.2)] else o ++ [l] ++ [s] := by
  simp [segStep, h]
theorem segStep_no (c : Int → Bool) (o : List Iv) (s : Iv) (h : c s.1 = false) : segStep c o s = o := by
  simp [segStep, h]
/-- S is constant on each segment of p, and nothing of it lies outside p's range -/
def SInv (S : Int → Prop) (out : List Iv) (b : Int) : Prop := NF out ∧ (∀ x ∈ out, x.2 ≤ b) ∧ ∀ t, Mem out t ↔ S t ∧ t < b
theorem SInv.step {S : Int → Prop} {c : Int → Bool} {out : List Iv} {a b : Int} (h : SInv S out a) (hab : a < b) (hc : c a = true ↔ S a) (h0 : 0 ≤ a) (hM : b ≤ 68719476736)
    (hconst : ∀ t, a ≤ t → t < b → (S t ↔ S a)) : SInv S (segStep c out (a, b)) b := by
  obtain ⟨hn, hle, hm⟩ := h
  by_cases hca : c a = true
  · have hS := hc.1 hca
    have hv : vld (a, b) := by unfold vld; simp only; omega
    have hmem : ∀ t, (S t ∧ t < b) ↔ (Mem out t ∨ (a ≤ t ∧ t < b)) := by
      intro t
      rw [hm]
      constructor
      · rintro ⟨p, q⟩
        by_cases k : t < a
        · exact .inl ⟨p, k⟩
        · right; omega
      · rintro (⟨p, q⟩ | ⟨p, q⟩)
        · exact ⟨p, by omega⟩
        · exact ⟨(hconst t p q).2 hS, q⟩
    rcases snoc_cases out with rfl | ⟨o, l, rfl⟩
    · have e : segStep c [] (a, b) = [(a, b)] := by simp [segStep, hca]
      rw [e]
      refine ⟨(NF.cons_iff _ _).2 ⟨hv, by simp, NF.nil⟩, by simp, fun t => ?_⟩
      rw [hmem, Mem.cons]
      simp [hv, Mem.nil]
    · rw [segStep_snoc _ _ _ _ hca]
      have hl : vld l := hn.1 l (by simp)
      have hpw := (List.pairwise_append.1 hn.2)
      have hno : NF o := ⟨fun x hx => hn.1 x (by simp [hx]), hpw.1⟩
      have hol : ∀ y ∈ o, y.2 < l.1 := fun y hy => hpw.2.2 y hy l (by simp)
      have hla := hle l (by simp)
      by_cases he : l.2 = a
      · rw [if_pos he]
        have hv2 : vld (l.1, b) := by unfold vld at *; simp only at *; omega
        refine ⟨hno.append_one hv2 hol, ?_, fun t => ?_⟩
        · intro x hx
          rw [List.mem_append] at hx
          rcases hx with hx | hx
          · have := hle x (by simp [hx]); omega
          · simp at hx; subst hx; simp
        · rw [hmem, Mem.append, Mem.append, Mem.cons, Mem.cons]
          simp only [hv2, hl, true_and, Mem.nil, or_false]
          unfold vld at hl
          constructor
          · rintro (p | p)
            · exact .inl (.inl p)
            · by_cases q : t < l.2
              · exact .inl (.inr ⟨p.1, q⟩)
              · right; omega
          · rintro ((p | p) | p)
            · exact .inl p
            · right; omega
            · right; omega
      · rw [if_neg he]
        refine ⟨hn.append_one hv ?_, ?_, fun t => ?_⟩
        · intro y hy
          simp only
          rw [List.mem_append] at hy
          rcases hy with hy | hy
          · have := hol y hy; unfold vld at hl; omega
          · simp at hy; subst hy; omega
        · intro x hx
          rw [List.mem_append] at hx
          rcases hx with hx | hx
          · have := hle x hx; omega
          · simp at hx; subst hx; simp
        · rw [hmem, Mem.append, Mem.cons (a, b)]
          simp only [hv, true_and, Mem.nil, or_false]
  · have hca' : c a = false := by simpa using hca
    rw [segStep_no _ _ _ hca']
    refine ⟨hn, fun x hx => by have := hle x hx; omega, fun t => ?_⟩
    rw [hm]
    constructor
    · rintro ⟨p, q⟩; exact ⟨p, by omega⟩
    · rintro ⟨p, q⟩
      refine ⟨p, ?_⟩
      rcases (by omega : t < a ∨ a ≤ t) with k | k
      · exact k
      · exact absurd (hc.2 ((hconst t k q).1 p)) hca
def hasB (l : List Iv) (t : Int) : Bool := l.any fun x => validB x.1 x.2 && decide (x.1 ≤ t) && decide (t < x.2)
/-- the reference's combination: 1 either, 2 both, else the first without the second -/
def inB (a b : List Iv) (way : Int) (t : Int) : Bool := if way = 1 then hasB a t || hasB b t else if way = 2 then hasB a t && hasB b t else hasB a t && !hasB b t
def In (a b : List Iv) (way : Int) (t : Int) : Prop := if way = 1 then Mem a t ∨ Mem b t else if way = 2 then Mem a t ∧ Mem b t else Mem a t ∧ ¬ Mem b t
def combL (a b : List Iv) (way : Int) : List Iv := segL (inB a b way) (endsL b (endsL a []))
end Go.Proofs.YtcpfiiapfggmpaaGreat
/- Lists, element by element; the first error. No program in sight. -/
namespace Go.Proofs.YtcpfiiapfggmpaaGreat

theorem take_snoc {α : Type} {l : List α} {k : Nat} {x : α} (h : l[k]? = some x) : l.take (k + 1) = l.take k ++ [x] := by
  rw [List.take_add_one, h]; rfl
theorem all_succ' {α : Type} {p : α → Bool} {l : List α} {k : Nat} {x : α} (hx : l[k]? = some x) (h : ∀ y ∈ l.take k, p y = false) (hp : p x = false) : ∀ y ∈ l.take (k + 1), p y = false := by
  intro y hy
  rw [take_snoc hx, List.mem_append] at hy
  rcases hy with hy | hy
  · exact h y hy
  · simp at hy; subst hy; exact hp
theorem all_succ {α : Type} {p : α → Bool} {l : List α} {k : Nat} {x : α} (hx : l[k]? = some x) (h : ∀ y ∈ l.take k, p y = true) (hp : p x = true) : ∀ y ∈ l.take (k + 1), p y = true := by
  intro y hy
  rw [take_snoc hx, List.mem_append] at hy
  rcases hy with hy | hy
  · exact h y hy
  · simp at hy; subst hy; exact hp
theorem all_yes {α : Type} {p : α → Bool} {l : List α} (h : ∀ y ∈ l.take l.length, p y = true) : l.all p = true := by
  rw [List.take_length] at h
  exact List.all_eq_true.2 h
theorem all_no {α : Type} {p : α → Bool} {l : List α} {k : Nat} {x : α} (hx : l[k]? = some x) (hp : p x = false) : l.all p = false := by
  cases h : l.all p
  · rfl
  · have := List.all_eq_true.1 h x (List.mem_of_getElem? hx)
    rw [hp] at this; cases this

def firstE (f : Nat → Int) (n : Nat) : Int := (((List.range n).map f).find? fun e => decide (e ≠ 0)).getD 0
theorem firstE_none {f : Nat → Int} {n : Nat} (h : ∀ j, j < n → f j = 0) : firstE f n = 0 := by
  unfold firstE
  rw [List.find?_eq_none.2]
  · rfl
  · intro e he
    simp only [List.mem_map, List.mem_range] at he
    obtain ⟨j, hj, rfl⟩ := he
    simp [h j hj]
theorem firstE_some {f : Nat → Int} {n k : Nat} (h : ∀ j, j < k → f j = 0) (hk : k < n) (hne : f k ≠ 0) : firstE f n = f k := by
  have key : ∀ (m : Nat), k < m → (((List.range m).map f).find? fun e => decide (e ≠ 0)) = some (f k) := by
    intro m
    induction m with
    | zero => intro hm; omega
    | succ m ih =>
      intro hm
      rw [List.range_succ, List.map_append, List.find?_append]
      rcases (by omega : k < m ∨ k = m) with e | rfl
      · rw [ih e]; rfl
      · rw [List.find?_eq_none.2]
        · simp [hne]
        · intro e he
          simp only [List.mem_map, List.mem_range] at he
          obtain ⟨j, hj, rfl⟩ := he
          simp [h j hj]
  unfold firstE
  rw [key n hk]
  rfl
theorem firstE_up {f : Nat → Int} {k : Nat} (h : ∀ j, j < k → f j = 0) (hk : f k = 0) : ∀ j, j < k + 1 → f j = 0 := fun j hj => by
  rcases (by omega : j < k ∨ j = k) with q | rfl
  · exact h j q
  · exact hk
theorem take_get {α : Type} {l : List α} {i k : Nat} {x : α} (h : l[k]? = some x) (hk : k < i) : (l.take i)[k]? = some x := by
  rw [List.getElem?_take_of_lt hk]; exact h
end Go.Proofs.YtcpfiiapfggmpaaGreat
/- Intervals as elements of slices. -/
namespace Go.Proofs.YtcpfiiapfggmpaaGreat
open Go.RowKit Go.Lib

def encIv (x : Iv) : List Value := [.int .i64 x.1, .int .i64 x.2]
theorem encIv_ok : Enc encIv 2 := ⟨fun _ => rfl, fun x u hu => by simp [encIv] at hu; rcases hu with rfl | rfl <;> rfl⟩
theorem Rd.iv {w : World} {B : Nat} {A : Option Addr} {l : List Iv} (h : Rd encIv 2 w B A l) {i : Nat} (hi : i < l.length) :
    ∃ b off f t, A = some ⟨b, off, none⟩ ∧ b < B ∧ l[i]? = some (f, t) ∧ w.cell? ⟨b, off + i * 2, none⟩ = some (.int .i64 f) ∧ w.cell? ⟨b, off + i * 2 + 1, none⟩ = some (.int .i64 t) := by
  obtain ⟨b, off, ⟨f, t⟩, hA, hb, hx, hc⟩ := h.at_ hi
  exact ⟨b, off, f, t, hA, hb, hx, hc 0 _ rfl, hc 1 _ rfl⟩
end Go.Proofs.YtcpfiiapfggmpaaGreat
/- More words on own slices and on what lies below. -/
namespace Go.Proofs.YtcpfiiapfggmpaaGreat
open Go.RowKit Go.Lib

theorem Own.st {α : Type} {e : Nat} {enc : α → List Value} {k : Nat} {w w' : World} {base : Nat} {A : Option Addr} {c : Nat} {l : List α} (h : Own e enc k w base A c l) (hb : Below w.heap.size w w') : Own e enc k w' base A c l := h.keep hb (Nat.le_refl _)
theorem _root_.Go.RowKit.Below.st {a b c : World} (h : Below a.heap.size a b) (k : Below b.heap.size b c) : Below a.heap.size a c := h.trans (k.mono h.size)
theorem Own.cap {α : Type} {e : Nat} {enc : α → List Value} {k : Nat} {w : World} {base : Nat} {A : Option Addr} {c : Nat} {l : List α} (h : Own e enc k w base A c l) : l.length ≤ c := by
  rcases h.2 with ⟨h1, h2⟩ | ⟨g, cap, cur, hv, _, _, hn, _⟩
  · rw [h2]; exact Nat.zero_le _
  · injection hv with p q r
    rw [r]; exact hn

end Go.Proofs.YtcpfiiapfggmpaaGreat
/- Blocks of cells, whole; own slices across stores elsewhere and across the book-keeping of a range over a function. -/
namespace Go.Proofs.YtcpfiiapfggmpaaGreat
open Go.RowKit Go.Lib

theorem Own.same {α : Type} {e : Nat} {enc : α → List Value} {k : Nat} {w w' : World} {base : Nat} {A : Option Addr} {c : Nat} {l : List α} (h : Own e enc k w base A c l) (hk : ∀ g, base ≤ g → w'.heap[g]? = w.heap[g]?) : Own e enc k w' base A c l := by
  refine ⟨h.1, ?_⟩
  rcases h.2 with h2 | ⟨g, cap, cur, hv, hg, hh, r⟩
  · exact .inl h2
  · exact .inr ⟨g, cap, cur, hv, hg, by rw [hk g hg]; exact hh, r⟩
theorem Own.other {α : Type} {e : Nat} {enc : α → List Value} {k : Nat} {w : World} {base : Nat} {A : Option Addr} {c : Nat} {l : List α} (h : Own e enc k w base A c l) {p : Addr} (hp : p.block < base) (v : Value) : Own e enc k (w.setCell p v) base A c l :=
  h.same fun g hg => Below.heap_setCell w p v g (by omega)

/-- a block of cells, whole -/
def Blk (W : World) (B : Nat) (cs : Array Value) (t : TypeId) : Prop := W.heap[B]? = some (.cells cs t (0, 0))
theorem Blk.lt {W : World} {B : Nat} {cs : Array Value} {t : TypeId} (h : Blk W B cs t) : B < W.heap.size := (Array.getElem?_eq_some_iff.1 h).1
theorem Blk.cell {W : World} {B : Nat} {cs : Array Value} {t : TypeId} (h : Blk W B cs t) (j : Nat) {v : Value} (hv : cs[j]? = some v) : W.cell? ⟨B, j, none⟩ = some v := by
  rw [cell_of_row _ _ _ cs t (0, 0) h]; exact hv
theorem Blk.frozen {W : World} {B : Nat} {cs : Array Value} {t : TypeId} (h : Blk W B cs t) (j : Nat) : W.frozen? ⟨B, j, none⟩ = false := frozen_of_row W B j cs t h
theorem Blk.set {W : World} {B : Nat} {cs : Array Value} {t : TypeId} (h : Blk W B cs t) (j : Nat) (v : Value) : Blk (W.setCell ⟨B, j, none⟩ v) B (cs.setIfInBounds j v) t := heap_setCell_same W B j cs t v h
theorem Blk.new (W : World) (cs : Array Value) (t : TypeId) : Blk (W.alloc (.cells cs t)) W.heap.size cs t := World.alloc_heap_new W _
theorem Blk.below {W W' : World} {B B' : Nat} {cs : Array Value} {t : TypeId} (h : Blk W B cs t) (hb : Below B' W W') (hB : B < B') : Blk W' B cs t := (hb.block B hB).trans h
theorem Blk.alloc {W : World} {B : Nat} {cs : Array Value} {t : TypeId} (h : Blk W B cs t) (o : Obj) : Blk (W.alloc o) B cs t := (World.grownBy_alloc W o none).block B h.lt (by simp) |>.trans h
theorem Blk.drew {W : World} {B : Nat} {cs : Array Value} {t : TypeId} (h : Blk W B cs t) : Blk W.drew B cs t := h
theorem Blk.other {W : World} {B : Nat} {cs : Array Value} {t : TypeId} (h : Blk W B cs t) {p : Addr} (hp : B ≠ p.block) (v : Value) : Blk (W.setCell p v) B cs t := (Below.heap_setCell W p v B hp).trans h

theorem _root_.Go.Boxed.below {W W' : World} {B B' : Nat} {t : TypeId} {v : Value} (h : Boxed W B t v) (hb : Below B' W W') (hB : B < B') : Boxed W' B t v := (hb.block B hB).trans h

section
variable {α : Type} {enc : α → List Value} {k : Nat} {A : Option Addr} {c : Nat} {l : List α} {P : Program} {t e bytes : Nat}
/-- append of ONE element, just boxed: whole blocks elsewhere lie as they lay -/
theorem wpList_app1b {w0 : World} {ops : Array Oper} {rest : List Oper} {o : Oper} {a : Act} {Q : Exit → Act → World → Prop} (hgd : o.guard = none) (s y : Operand)
    (T : TyS P t e k bytes) (hE : Enc enc k)
    (ho : o.op = .call { callee := .builtin .append, args := #[s, y], argTypes := #[t, t] })
    {cs : Array Value} (x : α) (hcs : cs.toList = enc x)
    (base : Nat) {n : Nat} (hs : a.eval s = .slice A n c) (hn : n = l.length) (hown : Own e enc k w0 base A c l)
    {g0 : Nat} (hx : a.eval y = .slice (some ⟨g0, 0, none⟩) 1 1) (hg0 : w0.heap.size = g0)
    (hbytes : (l.length + 1) * bytes ≤ 140737488355328) (hmax : l.length ≤ 8000000000000000000) (hbase : base ≤ w0.heap.size)
    (h : ∀ A' c' w', Own e enc k w' base A' c' (l ++ [x]) → Below base w0 w' → w0.heap.size < w'.heap.size → (∀ b, b < w0.heap.size → (∀ g, A = some ⟨g, 0, none⟩ → b ≠ g) → w'.heap[b]? = w0.heap[b]?) → wpList P ops Q rest (a.put o.dst (.slice A' (n + 1) c')) w') : wpList P ops Q (o :: rest) a (w0.alloc (.cells cs e)) := by
  subst hn
  subst hg0
  refine wpList_app (w0.alloc (.cells cs e)) hgd s y T hE ho base hs (hown.alloc _) ⟨w0.heap.size, 0, none⟩ 1 1 [x] hx rfl ?_ hbytes (by omega) (by simp; omega) ?_
  · intro j u hu
    have hadd : (⟨w0.heap.size, 0, none⟩ : Addr).add j = ⟨w0.heap.size, j, none⟩ := by unfold Addr.add; split <;> simp_all
    rw [hadd, cell_of_row _ _ _ cs e (0, 0) (heap_alloc_new w0 _)]
    simp only [List.flatMap_cons, List.flatMap_nil, List.append_nil] at hu
    rw [← hcs] at hu
    simpa using hu
  · intro A' c' w' h1 h2 h3 h4
    rw [show (l ++ [x]).length = l.length + 1 by simp]
    refine h A' c' w' h1 (((Below.refl base w0).alloc hbase _).trans h2) ?_ fun b hb hne => ?_
    · simp at h3
      omega
    · refine (h4 b (by simp; omega) fun hh => ?_).trans ((World.grownBy_alloc w0 _ none).block b hb (by simp))
      cases A with
      | none => simp [Value.ownBlock] at hh
      | some q =>
        rcases hown.form with ⟨hA, _⟩ | ⟨g, hA, _⟩
        · cases hA
        · injection hA with hA
          subst hA
          simp [Value.ownBlock] at hh
          exact hne g rfl hh
theorem Own.keepB {w w' : World} {base : Nat} (h : Own e enc k w base A c l) (hk : ∀ g, A = some ⟨g, 0, none⟩ → g < w.heap.size → w'.heap[g]? = w.heap[g]?) : Own e enc k w' base A c l := by
  refine ⟨h.1, ?_⟩
  rcases h.2 with h2 | ⟨g, cap, cur, hv, hg, hh, r⟩
  · exact .inl h2
  · refine .inr ⟨g, cap, cur, hv, hg, ?_, r⟩
    injection hv with hA _ _
    rw [hk g hA (Array.getElem?_eq_some_iff.1 hh).1]
    exact hh
/-- own slices of different element types lie in different blocks -/
theorem Own.apart {β : Type} {enc2 : β → List Value} {k2 e2 base base2 c2 : Nat} {A2 : Option Addr} {l2 : List β} {w : World} (h : Own e enc k w base A c l) (h2 : Own e2 enc2 k2 w base2 A2 c2 l2) (hne : e ≠ e2) {g g2 : Nat} (hA : A = some ⟨g, 0, none⟩) (hA2 : A2 = some ⟨g2, 0, none⟩) : g ≠ g2 := by
  subst hA hA2
  rintro rfl
  rcases h.2 with ⟨q, _⟩ | ⟨g1, cap, cur, hv, _, hh, _⟩
  · injection q with q; cases q
  · injection hv with q; injection q with q; injection q with q
    subst q
    rcases h2.2 with ⟨q, _⟩ | ⟨g1, cap, cur2, hv, _, hh2, _⟩
    · injection q with q; cases q
    · injection hv with q; injection q with q; injection q with q
      subst q
      rw [hh] at hh2
      injection hh2 with q
      injection q with _ q _
      exact hne q
end
end Go.Proofs.YtcpfiiapfggmpaaGreat
/- Equality of strings, as the walk spells it. No program in sight. -/
namespace Go.Proofs.YtcpfiiapfggmpaaGreat

def eqS (a b : ByteArray) : Bool := a.toList == b.toList
theorem eqS_iff (a b : ByteArray) : eqS a b = true ↔ a = b := by
  unfold eqS
  rw [beq_iff_eq, ByteArray.toList_eq, ByteArray.toList_eq]
  constructor
  · intro h
    cases a; cases b
    simp only [ByteArray.mk.injEq]
    exact Array.ext' h
  · rintro rfl; rfl
end Go.Proofs.YtcpfiiapfggmpaaGreat
/- The empty string, as the walk spells it. No program in sight. -/
namespace Go.Proofs.YtcpfiiapfggmpaaGreat

def emp (s : ByteArray) : Bool := eqS s ⟨#[]⟩
theorem emp_iff (s : ByteArray) : emp s = true ↔ s = ⟨#[]⟩ := eqS_iff s _
theorem toList_neE {a : ByteArray} (h : emp a = false) : ¬ a.toList = [] ∧ a.toList.isEmpty = false ∧ (a.toList == []) = false := by
  have h0 : ¬ a = ⟨#[]⟩ := fun q => by rw [(emp_iff a).2 q] at h; cases h
  have h1 : ¬ a.toList = [] := by
    intro q
    apply h0
    rw [ByteArray.toList_eq] at q
    cases a; simp only [ByteArray.mk.injEq]
    exact Array.toList_eq_nil_iff.1 q
  cases q : a.toList with
  | nil => exact absurd q h1
  | cons _ _ => exact ⟨by simp, rfl, rfl⟩
theorem toList_eE {a : ByteArray} (h : emp a = true) : a.toList = [] ∧ a.toList.isEmpty = true ∧ (a.toList == []) = true := by
  obtain rfl := (emp_iff a).1 h
  have : (⟨#[]⟩ : ByteArray).toList = [] := by rw [ByteArray.toList_eq]
  rw [this]
  exact ⟨rfl, rfl, rfl⟩
end Go.Proofs.YtcpfiiapfggmpaaGreat
