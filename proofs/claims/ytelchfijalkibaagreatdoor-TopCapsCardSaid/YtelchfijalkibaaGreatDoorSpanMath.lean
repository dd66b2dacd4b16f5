/- Sets of seconds as lists of intervals: the plain mathematics of chapter 05. No program in sight. -/
namespace Go.Proofs.YtelchfijalkibaaGreatDoor

abbrev Iv := Int × Int
def vld (x : Iv) : Prop := 0 ≤ x.1 ∧ x.1 < x.2 ∧ x.2 ≤ 68719476736
instance (x : Iv) : Decidable (vld x) := by unfold vld; infer_instance
def validB (f t : Int) : Bool := decide (0 ≤ f ∧ f < t ∧ t ≤ 68719476736)
theorem validB_iff (f t : Int) : validB f t = true ↔ vld (f, t) := by simp [validB, vld]
def Mem (l : List Iv) (t : Int) : Prop := ∃ x ∈ l, vld x ∧ x.1 ≤ t ∧ t < x.2
def NF (l : List Iv) : Prop := (∀ x ∈ l, vld x) ∧ l.Pairwise fun x y => x.2 < y.1
def len (l : List Iv) : Int := (l.map fun x => x.2 - x.1).sum

theorem Mem.nil (t : Int) : ¬ Mem [] t := by rintro ⟨x, hx, _⟩; simp at hx
theorem Mem.cons (x : Iv) (l : List Iv) (t : Int) : Mem (x :: l) t ↔ (vld x ∧ x.1 ≤ t ∧ t < x.2) ∨ Mem l t := by
  simp [Mem]
theorem Mem.append (a b : List Iv) (t : Int) : Mem (a ++ b) t ↔ Mem a t ∨ Mem b t := by
  simp [Mem, or_and_right, exists_or]
theorem Mem.perm {a b : List Iv} (h : a.Perm b) (t : Int) : Mem a t ↔ Mem b t := by
  simp [Mem, h.mem_iff]
theorem Mem.range {l : List Iv} {t : Int} (h : Mem l t) : 0 ≤ t ∧ t < 68719476736 := by
  obtain ⟨x, _, hv, h1, h2⟩ := h
  unfold vld at hv
  omega
theorem Mem.filter (l : List Iv) (t : Int) : Mem (l.filter fun x => validB x.1 x.2) t ↔ Mem l t := by
  constructor
  · rintro ⟨x, hx, h⟩
    rw [List.mem_filter] at hx
    exact ⟨x, hx.1, h⟩
  · rintro ⟨x, hx, hv, h⟩
    exact ⟨x, List.mem_filter.2 ⟨hx, (validB_iff _ _).2 hv⟩, hv, h⟩

theorem NF.nil : NF [] := ⟨by simp, List.Pairwise.nil⟩
theorem NF.cons_iff (x : Iv) (l : List Iv) : NF (x :: l) ↔ vld x ∧ (∀ y ∈ l, x.2 < y.1) ∧ NF l := by
  unfold NF
  simp only [List.mem_cons, List.pairwise_cons, forall_eq_or_imp]
  constructor
  · rintro ⟨⟨a, b⟩, c, d⟩; exact ⟨a, c, b, d⟩
  · rintro ⟨a, c, b, d⟩; exact ⟨⟨a, b⟩, c, d⟩
theorem NF.tail_lt {x : Iv} {l : List Iv} (h : NF (x :: l)) {t : Int} (ht : Mem l t) : x.2 < t := by
  obtain ⟨y, hy, _, h1, _⟩ := ht
  have := ((NF.cons_iff x l).1 h).2.1 y hy
  omega
theorem Mem.head {x : Iv} {l : List Iv} (h : vld x) : Mem (x :: l) x.1 := by
  rw [Mem.cons]; left; unfold vld at *; omega

/-- Two lists in normal form of one set are one list. -/
theorem NF.unique : ∀ {a b : List Iv}, NF a → NF b → (∀ t, Mem a t ↔ Mem b t) → a = b
  | [], [], _, _, _ => rfl
  | [], y :: b, _, hb, h => absurd ((h y.1).2 (Mem.head ((NF.cons_iff y b).1 hb).1)) (Mem.nil _)
  | x :: a, [], ha, _, h => absurd ((h x.1).1 (Mem.head ((NF.cons_iff x a).1 ha).1)) (Mem.nil _)
  | x :: a, y :: b, ha, hb, h => by
    have vx := ((NF.cons_iff x a).1 ha).1
    have vy := ((NF.cons_iff y b).1 hb).1
    have e1 : x.1 = y.1 := by
      have p1 := (h x.1).1 (Mem.head vx)
      have p2 := (h y.1).2 (Mem.head vy)
      rw [Mem.cons] at p1 p2
      have q1 : y.1 ≤ x.1 := by
        rcases p1 with p1 | p1
        · exact p1.2.1
        · have := hb.tail_lt p1; unfold vld at vy; omega
      have q2 : x.1 ≤ y.1 := by
        rcases p2 with p2 | p2
        · exact p2.2.1
        · have := ha.tail_lt p2; unfold vld at vx; omega
      omega
    have e2 : x.2 = y.2 := by
      rcases Int.lt_trichotomy x.2 y.2 with hlt | heq | hgt
      · have p : Mem (y :: b) x.2 := by rw [Mem.cons]; left; unfold vld at *; omega
        have p := (h x.2).2 p
        rw [Mem.cons] at p
        rcases p with p | p
        · omega
        · have := ha.tail_lt p; omega
      · exact heq
      · have p : Mem (x :: a) y.2 := by rw [Mem.cons]; left; unfold vld at *; omega
        have p := (h y.2).1 p
        rw [Mem.cons] at p
        rcases p with p | p
        · omega
        · have := hb.tail_lt p; omega
    have e : x = y := Prod.ext e1 e2
    subst e
    have : a = b := by
      refine NF.unique ((NF.cons_iff x a).1 ha).2.2 ((NF.cons_iff x b).1 hb).2.2 fun t => ?_
      have ht := h t
      rw [Mem.cons, Mem.cons] at ht
      constructor
      · intro p
        have g := ha.tail_lt p
        rcases ht.1 (.inr p) with q | q
        · omega
        · exact q
      · intro p
        have g := hb.tail_lt p
        rcases ht.2 (.inr p) with q | q
        · omega
        · exact q
    rw [this]

/-! ### counting -/
def cnt (M : Nat) (p : Int → Bool) : Nat := ((List.range M).filter fun n : Nat => p (n : Int)).length
open Classical in
/-- Is the second in the set? -/
noncomputable def memB (l : List Iv) (t : Int) : Bool := decide (Mem l t)
/-- How many seconds a set has; M is 2^36, behind a name. -/
noncomputable def secs (M : Nat) (l : List Iv) : Int := cnt M (memB l)
theorem NF.length_le : ∀ {l : List Iv}, NF l → ∀ b : Int, (∀ x ∈ l, b ≤ x.1) → b + (l.length : Int) ≤ 68719476736 ∨ l = []
  | [], _, _, _ => .inr rfl
  | x :: l, h, b, hb => by
    have h' := (NF.cons_iff x l).1 h
    have vx := h'.1
    have hbx := hb x (by simp)
    rcases NF.length_le h'.2.2 (b + 1) (fun y hy => by have := h'.2.1 y hy; unfold vld at vx; omega) with k | k
    · left; simp only [List.length_cons]; omega
    · left; subst k; unfold vld at vx; simp only [List.length_cons, List.length_nil]; omega
theorem NF.append_one {l : List Iv} {x : Iv} (h : NF l) (hx : vld x) (hl : ∀ y ∈ l, y.2 < x.1) : NF (l ++ [x]) := by
  refine ⟨?_, ?_⟩
  · intro y hy
    rw [List.mem_append] at hy
    rcases hy with hy | hy
    · exact h.1 y hy
    · simp at hy; subst hy; exact hx
  · rw [List.pairwise_append]
    exact ⟨h.2, by simp, fun a ha b hb => by simp at hb; subst hb; exact hl a ha⟩

theorem NF.take {l : List Iv} (h : NF l) (k : Nat) : NF (l.take k) :=
  ⟨fun x hx => h.1 x (List.mem_of_mem_take hx), h.2.sublist (List.take_sublist k l)⟩
theorem NF.drop {l : List Iv} (h : NF l) (k : Nat) : NF (l.drop k) :=
  ⟨fun x hx => h.1 x (List.mem_of_mem_drop hx), h.2.sublist (List.drop_sublist k l)⟩
/-! ### join: sorted valid intervals, merged from the left -/
def jstep (out : List Iv) (i : Iv) : List Iv :=
  match out.getLast? with
  | some l => if i.1 ≤ l.2 then out.dropLast ++ [(l.1, max l.2 i.2)] else out ++ [i]
  | none => out ++ [i]
theorem jstep_nil (i : Iv) : jstep [] i = [i] := rfl
theorem jstep_snoc (o : List Iv) (l i : Iv) : jstep (o ++ [l]) i = if i.1 ≤ l.2 then o ++ [(l.1, max l.2 i.2)] else o ++ [l] ++ [i] := by
  simp [jstep]
theorem snoc_cases (l : List Iv) : l = [] ∨ ∃ o x, l = o ++ [x] := by
  rcases List.eq_nil_or_concat l with h | ⟨o, x, h⟩
  · exact .inl h
  · exact .inr ⟨o, x, by simpa using h⟩
/-- the invariant of the merging loop -/
def JInv (out : List Iv) (b : Int) : Prop := NF out ∧ ∀ x ∈ out, x.1 ≤ b
theorem JInv.step {out : List Iv} {b : Int} {i : Iv} (h : JInv out b) (hb : b ≤ i.1) (hi : vld i) : JInv (jstep out i) i.1 ∧ ∀ t, Mem (jstep out i) t ↔ Mem out t ∨ Mem [i] t := by
  rcases snoc_cases out with rfl | ⟨o, l, rfl⟩
  · rw [jstep_nil]
    refine ⟨⟨(NF.cons_iff _ _).2 ⟨hi, by simp, NF.nil⟩, by simp⟩, fun t => by simp [Mem.nil]⟩
  · rw [jstep_snoc]
    obtain ⟨hn, hle⟩ := h
    have hl : vld l := hn.1 l (by simp)
    have hl1 : l.1 ≤ b := hle l (by simp)
    have hpw := (List.pairwise_append.1 hn.2)
    have hno : NF o := ⟨fun x hx => hn.1 x (by simp [hx]), hpw.1⟩
    have hol : ∀ y ∈ o, y.2 < l.1 := fun y hy => hpw.2.2 y hy l (by simp)
    by_cases hc : i.1 ≤ l.2
    · rw [if_pos hc]
      have hv : vld (l.1, max l.2 i.2) := by unfold vld at *; simp only; omega
      refine ⟨⟨hno.append_one hv (fun y hy => hol y hy), ?_⟩, ?_⟩
      · intro x hx
        rw [List.mem_append] at hx
        rcases hx with hx | hx
        · have := hle x (by simp [hx]); omega
        · simp at hx; subst hx; simp only; omega
      · intro t
        rw [Mem.append, Mem.append, Mem.cons, Mem.cons, Mem.cons]
        simp only [hv, hl, hi, true_and, Mem.nil, or_false]
        constructor
        · rintro (p | p)
          · exact .inl (.inl p)
          · by_cases q : t < l.2
            · exact .inl (.inr ⟨p.1, q⟩)
            · right; omega
        · rintro ((p | p) | p)
          · exact .inl p
          · right; omega
          · right; omega
    · rw [if_neg hc]
      refine ⟨⟨hn.append_one hi ?_, ?_⟩, ?_⟩
      · intro y hy
        rw [List.mem_append] at hy
        rcases hy with hy | hy
        · have := hol y hy; unfold vld at hl; omega
        · simp at hy; subst hy; omega
      · intro x hx
        rw [List.mem_append] at hx
        rcases hx with hx | hx
        · have := hle x hx; omega
        · simp at hx; subst hx; omega
      · intro t; rw [Mem.append]
def jfold (l : List Iv) : List Iv := l.foldl jstep []
/-! ### meet: two lists in normal form, by two places -/
def isect (a b : Iv) : Iv := (max a.1 b.1, min a.2 b.2)
def one? (m : Iv) : List Iv := if m.1 < m.2 then [m] else []
def meetL : List Iv → List Iv → List Iv
  | [], _ => []
  | _ :: _, [] => []
  | a :: x, b :: y => one? (isect a b) ++ if a.2 < b.2 then meetL x (b :: y) else meetL (a :: x) y
termination_by x y => x.length + y.length
/-! ### the complement -/
def compl (from_ : Int) : List Iv → List Iv
  | [] => [(from_, 68719476736)]
  | x :: l => (from_, x.1) :: compl x.2 l
/-- the accumulated form: what the loop has appended so far, and the next 'from' -/
def cpre : Int → List Iv → List Iv
  | _, [] => []
  | f, x :: l => (f, x.1) :: cpre x.2 l
def cfrom : Int → List Iv → Int
  | f, [] => f
  | _, x :: l => cfrom x.2 l
/-! ### the reference: ends and segments -/
def putStep (n : Int) (s : List Int × Bool) (x : Int) : List Int × Bool :=
  let s1 := if !s.2 && decide (n < x) then (s.1 ++ [n], true) else s
  (s1.1 ++ [x], s1.2 || decide (n = x))
def putS (n : Int) (l : List Int) : List Int × Bool := l.foldl (putStep n) ([], false)
def putL (l : List Int) (n : Int) : List Int := if (putS n l).2 then (putS n l).1 else (putS n l).1 ++ [n]
abbrev Asc (l : List Int) : Prop := l.Pairwise fun x y => x < y
def endStep (out : List Int) (x : Iv) : List Int := if validB x.1 x.2 then putL (putL out x.1) x.2 else out
def endsL (l : List Iv) (o : List Int) : List Int := l.foldl endStep o
/-- one segment of the reference's loop: from p to q, in the combination or not -/
def segStep (c : Int → Bool) (out : List Iv) (s : Iv) : List Iv :=
  if c s.1 then
    match out.getLast? with
    | some l => if l.2 = s.1 then out.dropLast ++ [(l.1, s.2)] else out ++ [s]
    | none => out ++ [s]
  else out
def segs : List Int → List Iv
  | [] => []
  | [_] => []
  | p :: q :: l => (p, q) :: segs (q :: l)
def segL (c : Int → Bool) (p : List Int) : List Iv := (segs p).foldl (segStep c) []
theorem segStep_snoc (c : Int → Bool) (o : List Iv) (l s : Iv) (h : c s.1 = true) : segStep c (o ++ [l]) s = if l.2 = s.1 then o ++ [(l.1, s.2)] else o ++ [l] ++ [s] := by
  simp [segStep, h]
theorem segStep_no (c : Int → Bool) (o : List Iv) (s : Iv) (h : c s.1 = false) : segStep c o s = o := by
  simp [segStep, h]
/-- S is constant on each segment of p, and nothing of it lies outside p's range -/
def SInv (S : Int → Prop) (out : List Iv) (b : Int) : Prop := NF out ∧ (∀ x ∈ out, x.2 ≤ b) ∧ ∀ t, Mem out t ↔ S t ∧ t < b
theorem SInv.step {S : Int → Prop} {c : Int → Bool} {out : List Iv} {a b : Int} (h : SInv S out a) (hab : a < b) (hc : c a = true ↔ S a) (h0 : 0 ≤ a) (hM : b ≤ 68719476736)
    (hconst : ∀ t, a ≤ t → t < b → (S t ↔ S a)) : SInv S (segStep c out (a, b)) b := by
  obtain ⟨hn, hle, hm⟩ := h
  by_cases hca : c a = true
  · have hS := hc.1 hca
    have hv : vld (a, b) := by unfold vld; simp only; omega
    have hmem : ∀ t, (S t ∧ t < b) ↔ (Mem out t ∨ (a ≤ t ∧ t < b)) := by
      intro t
      rw [hm]
      constructor
      · rintro ⟨p, q⟩
        by_cases k : t < a
        · exact .inl ⟨p, k⟩
        · right; omega
      · rintro (⟨p, q⟩ | ⟨p, q⟩)
        · exact ⟨p, by omega⟩
        · exact ⟨(hconst t p q).2 hS, q⟩
    rcases snoc_cases out with rfl | ⟨o, l, rfl⟩
    · have e : segStep c [] (a, b) = [(a, b)] := by simp [segStep, hca]
      rw [e]
      refine ⟨(NF.cons_iff _ _).2 ⟨hv, by simp, NF.nil⟩, by simp, fun t => ?_⟩
      rw [hmem, Mem.cons]
      simp [hv, Mem.nil]
    · rw [segStep_snoc _ _ _ _ hca]
      have hl : vld l := hn.1 l (by simp)
      have hpw := (List.pairwise_append.1 hn.2)
      have hno : NF o := ⟨fun x hx => hn.1 x (by simp [hx]), hpw.1⟩
      have hol : ∀ y ∈ o, y.2 < l.1 := fun y hy => hpw.2.2 y hy l (by simp)
      have hla := hle l (by simp)
      by_cases he : l.2 = a
      · rw [if_pos he]
        have hv2 : vld (l.1, b) := by unfold vld at *; simp only at *; omega
        refine ⟨hno.append_one hv2 hol, ?_, fun t => ?_⟩
        · intro x hx
          rw [List.mem_append] at hx
          rcases hx with hx | hx
          · have := hle x (by simp [hx]); omega
          · simp at hx; subst hx; simp
        · rw [hmem, Mem.append, Mem.append, Mem.cons, Mem.cons]
          simp only [hv2, hl, true_and, Mem.nil, or_false]
          unfold vld at hl
          constructor
          · rintro (p | p)
            · exact .inl (.inl p)
            · by_cases q : t < l.2
              · exact .inl (.inr ⟨p.1, q⟩)
              · right; omega
          · rintro ((p | p) | p)
            · exact .inl p
            · right; omega
            · right; omega
      · rw [if_neg he]
        refine ⟨hn.append_one hv ?_, ?_, fun t => ?_⟩
        · intro y hy
          simp only
          rw [List.mem_append] at hy
          rcases hy with hy | hy
          · have := hol y hy; unfold vld at hl; omega
          · simp at hy; subst hy; omega
        · intro x hx
          rw [List.mem_append] at hx
          rcases hx with hx | hx
          · have := hle x hx; omega
          · simp at hx; subst hx; simp
        · rw [hmem, Mem.append, Mem.cons (a, b)]
          simp only [hv, true_and, Mem.nil, or_false]
  · have hca' : c a = false := by simpa using hca
    rw [segStep_no _ _ _ hca']
    refine ⟨hn, fun x hx => by have := hle x hx; omega, fun t => ?_⟩
    rw [hm]
    constructor
    · rintro ⟨p, q⟩; exact ⟨p, by omega⟩
    · rintro ⟨p, q⟩
      refine ⟨p, ?_⟩
      rcases (by omega : t < a ∨ a ≤ t) with k | k
      · exact k
      · exact absurd (hc.2 ((hconst t k q).1 p)) hca
def hasB (l : List Iv) (t : Int) : Bool := l.any fun x => validB x.1 x.2 && decide (x.1 ≤ t) && decide (t < x.2)
/-- the reference's combination: 1 either, 2 both, else the first without the second -/
def inB (a b : List Iv) (way : Int) (t : Int) : Bool := if way = 1 then hasB a t || hasB b t else if way = 2 then hasB a t && hasB b t else hasB a t && !hasB b t
def In (a b : List Iv) (way : Int) (t : Int) : Prop := if way = 1 then Mem a t ∨ Mem b t else if way = 2 then Mem a t ∧ Mem b t else Mem a t ∧ ¬ Mem b t
def combL (a b : List Iv) (way : Int) : List Iv := segL (inB a b way) (endsL b (endsL a []))
end Go.Proofs.YtelchfijalkibaaGreatDoor
