/- Sets of seconds as lists of intervals: the plain mathematics of chapter 05. No program in sight. -/
namespace Go.Proofs.YtcpfiiapfggmpaaGreat

abbrev Iv := Int × Int
def vld (x : Iv) : Prop := 0 ≤ x.1 ∧ x.1 < x.2 ∧ x.2 ≤ 68719476736
instance (x : Iv) : Decidable (vld x) := by unfold vld; infer_instance
def validB (f t : Int) : Bool := decide (0 ≤ f ∧ f < t ∧ t ≤ 68719476736)
theorem validB_iff (f t : Int) : validB f t = true ↔ vld (f, t) := by simp [validB, vld]
def Mem (l : List Iv) (t : Int) : Prop := ∃ x ∈ l, vld x ∧ x.1 ≤ t ∧ t < x.2
def NF (l : List Iv) : Prop := (∀ x ∈ l, vld x) ∧ l.Pairwise fun x y => x.2 < y.1
def len (l : List Iv) : Int := (l.map fun x => x.2 - x.1).sum

theorem Mem.nil (t : Int) : ¬ Mem [] t := by rintro ⟨x, hx, _⟩; simp at hx
theorem Mem.cons (x : Iv) (l : List Iv) (t : Int) : Mem (x :: l) t ↔ (vld x ∧ x.1 ≤ t ∧ t < x.2) ∨ Mem l t := by
  simp [Mem]
theorem Mem.append (a b : List Iv) (t : Int) : Mem (a ++ b) t ↔ Mem a t ∨ Mem b t := by
  simp [Mem, or_and_right, exists_or]
theorem Mem.perm {a b : List Iv} (h : a.Perm b) (t : Int) : Mem a t ↔ Mem b t := by
  simp [Mem, h.mem_iff]
theorem Mem.range {l : List Iv} {t : Int} (h : Mem l t) : 0 ≤ t ∧ t < 68719476736 := by
  obtain ⟨x, _, hv, h1, h2⟩ := h
  unfold vld at hv
  omega
theorem Mem.filter (l : List Iv) (t : Int) : Mem (l.filter fun x => validB x.1 x.2) t ↔ Mem l t := by
  constructor
  · rintro ⟨x, hx, h⟩
    rw [List.mem_filter] at hx
    exact ⟨x, hx.1, h⟩
  · rintro ⟨x, hx, hv, h⟩
    exact ⟨x, List.mem_filter.2 ⟨hx, (validB_iff _ _).2 hv⟩, hv, h⟩

theorem NF.nil : NF [] := ⟨by simp, List.Pairwise.nil⟩
theorem NF.cons_iff (x : Iv) (l : List Iv) : NF (x :: l) ↔ vld x ∧ (∀ y ∈ l, x.2 < y.1) ∧ NF l := by
  unfold NF
  simp only [List.mem_cons, List.pairwise_cons, forall_eq_or_imp]
  constructor
  · rintro ⟨⟨a, b⟩, c, d⟩; exact ⟨a, c, b, d⟩
  · rintro ⟨a, c, b, d⟩; exact ⟨⟨a, b⟩, c, d⟩
theorem NF.tail_lt {x : Iv} {l : List Iv} (h : NF (x :: l)) {t : Int} (ht : Mem l t) : x.2 < t := by
  obtain ⟨y, hy, _, h1, _⟩ := ht
  have := ((NF.cons_iff x l).1 h).2.1 y hy
  omega
theorem Mem.head {x : Iv} {l : List Iv} (h : vld x) : Mem (x :: l) x.1 := by
  rw [Mem.cons]; left; unfold vld at *; omega

/-- Two lists in normal form of one set are one list. -/
theorem NF.unique : ∀ {a b : List Iv}, NF a → NF b → (∀ t, Mem a t ↔ Mem b t) → a = b
  | [], [], _, _, _ => rfl
  | [], y :: b, _, hb, h => absurd ((h y.1).2 (Mem.head ((NF.cons_iff y b).1 hb).1)) (Mem.nil _)
  | x :: a, [], ha, _, h => absurd ((h x.1).1 (Mem.head ((NF.cons_iff x a).1 ha).1)) (Mem.nil _)
  | x :: a, y :: b, ha, hb, h => by
    have vx := ((NF.cons_iff x a).1 ha).1
    have vy := ((NF.cons_iff y b).1 hb).1
    have e1 : x.1 = y.1 := by
      have p1 := (h x.1).1 (Mem.head vx)
      have p2 := (h y.1).2 (Mem.head vy)
      rw [Mem.cons] at p1 p2
      have q1 : y.1 ≤ x.1 := by
        rcases p1 with p1 | p1
        · exact p1.2.1
        · have := hb.tail_lt p1; unfold vld at vy; omega
      have q2 : x.1 ≤ y.1 := by
        rcases p2 with p2 | p2
        · exact p2.2.1
        · have := ha.tail_lt p2; unfold vld at vx; omega
      omega
    have e2 : x.2 = y.2 := by
      rcases Int.lt_trichotomy x.2 y.2 with hlt | heq | hgt
      · have p : Mem (y :: b) x.2 := by rw [Mem.cons]; left; unfold vld at *; omega
        have p := (h x.2).2 p
        rw [Mem.cons] at p
        rcases p with p | p
        · omega
        · have := ha.tail_lt p; omega
      · exact heq
      · have p : Mem (x :: a) y.2 := by rw [Mem.cons]; left; unfold vld at *; omega
        have p := (h y.2).1 p
        rw [Mem.cons] at p
        rcases p with p | p
        · omega
        · have := hb.tail_lt p; omega
    have e : x = y := Prod.ext e1 e2
    subst e
    have : a = b := by
      refine NF.unique ((NF.cons_iff x a).1 ha).2.2 ((NF.cons_iff x b).1 hb).2.2 fun t => ?_
      have ht := h t
      rw [Mem.cons, Mem.cons] at ht
      constructor
      · intro p
        have g := ha.tail_lt p
        rcases ht.1 (.inr p) with q | q
        · omega
        · exact q
      · intro p
        have g := hb.tail_lt p
        rcases ht.2 (.inr p) with q | q
        · omega
        · exact q
    rw [this]

/-! ### counting -/
def cnt (M : Nat) (p : Int → Bool) : Nat := ((List.range M).filter fun n : Nat => p (n : Int)).length
theorem cnt_succ (M : Nat) (p : Int → Bool) : cnt (M + 1) p = cnt M p + if p (M : Int) then 1 else 0 := by
  unfold cnt
  rw [List.range_succ, List.filter_append, List.length_append]
  by_cases h : p (M : Int) = true <;> simp [h]
theorem cnt_zero (p : Int → Bool) : cnt 0 p = 0 := rfl
theorem cnt_or_and (M : Nat) (p q : Int → Bool) : cnt M p + cnt M q = cnt M (fun t => p t || q t) + cnt M (fun t => p t && q t) := by
  induction M with
  | zero => rfl
  | succ M ih =>
    simp only [cnt_succ]
    cases p (M : Int) <;> cases q (M : Int) <;> simp <;> omega
theorem cnt_congr (M : Nat) (p q : Int → Bool) (h : ∀ t, p t = q t) : cnt M p = cnt M q := by
  rw [show p = q from funext h]
theorem cnt_iv (a b : Int) (ha : 0 ≤ a) (hab : a ≤ b) (M : Nat) : (cnt M (fun t => decide (a ≤ t ∧ t < b)) : Int) = (if (M : Int) ≤ a then 0 else if (M : Int) ≤ b then M - a else b - a) := by
  induction M with
  | zero => rw [cnt_zero, if_pos (by omega)]; rfl
  | succ M ih =>
    rw [cnt_succ, Int.natCast_add, ih]
    have e : (((if decide (a ≤ (M : Int) ∧ (M : Int) < b) = true then 1 else 0 : Nat)) : Int) = if a ≤ (M : Int) ∧ (M : Int) < b then 1 else 0 := by
      by_cases h1 : a ≤ (M : Int) ∧ (M : Int) < b
      · rw [if_pos h1, if_pos (by simpa using h1)]; rfl
      · rw [if_neg h1, if_neg (by simpa using h1)]; rfl
    rw [e]
    by_cases c1 : (M : Int) < a
    · rw [if_pos (by omega), if_neg (by omega), if_pos (by omega)]; omega
    · by_cases c2 : (M : Int) < b
      · rw [if_pos (show a ≤ (M : Int) ∧ (M : Int) < b by omega), if_neg (by omega : ¬ ((M + 1 : Nat) : Int) ≤ a), if_pos (by omega : ((M + 1 : Nat) : Int) ≤ b)]
        by_cases c3 : (M : Int) ≤ a
        · rw [if_pos c3]; omega
        · rw [if_neg c3, if_pos (by omega)]; omega
      · rw [if_neg (show ¬ (a ≤ (M : Int) ∧ (M : Int) < b) by omega), if_neg (by omega : ¬ ((M + 1 : Nat) : Int) ≤ a), if_neg (by omega : ¬ ((M + 1 : Nat) : Int) ≤ b)]
        by_cases c3 : (M : Int) ≤ a
        · rw [if_pos c3]; omega
        · rw [if_neg c3]
          by_cases c4 : (M : Int) ≤ b
          · rw [if_pos c4]; omega
          · rw [if_neg c4]; omega
theorem cnt_le (M : Nat) (p : Int → Bool) : cnt M p ≤ M := by
  unfold cnt
  exact Nat.le_trans (List.length_filter_le _ _) (by simp)
theorem cnt_false (M : Nat) : cnt M (fun _ => false) = 0 := by
  unfold cnt
  simp

open Classical in
/-- Is the second in the set? -/
noncomputable def memB (l : List Iv) (t : Int) : Bool := decide (Mem l t)
theorem memB_iff (l : List Iv) (t : Int) : memB l t = true ↔ Mem l t := by simp [memB]
theorem memB_congr {a b : List Iv} (h : ∀ t, Mem a t ↔ Mem b t) : memB a = memB b := by
  funext t
  rw [Bool.eq_iff_iff, memB_iff, memB_iff, h]
/-- How many seconds a set has; M is 2^36, behind a name. -/
noncomputable def secs (M : Nat) (l : List Iv) : Int := cnt M (memB l)
theorem len_secs (M : Nat) (hM : (M : Int) = 68719476736) : ∀ {l : List Iv}, NF l → len l = secs M l
  | [], _ => by
    unfold secs
    rw [show memB [] = fun _ => false from by funext t; rw [Bool.eq_false_iff]; intro h; exact Mem.nil t ((memB_iff _ _).1 h), cnt_false]
    rfl
  | x :: l, h => by
    have ih := len_secs M hM ((NF.cons_iff x l).1 h).2.2
    have vx := ((NF.cons_iff x l).1 h).1
    have e := cnt_or_and M (fun t => decide (x.1 ≤ t ∧ t < x.2)) (memB l)
    have e1 : cnt M (fun t => decide (x.1 ≤ t ∧ t < x.2) || memB l t) = cnt M (memB (x :: l)) := cnt_congr _ _ _ fun t => by
      rw [Bool.eq_iff_iff, memB_iff, Mem.cons]
      simp [memB_iff, vx]
    have e2 : cnt M (fun t => decide (x.1 ≤ t ∧ t < x.2) && memB l t) = 0 := by
      rw [← cnt_false M]
      refine cnt_congr _ _ _ fun t => ?_
      rw [Bool.eq_false_iff]
      intro hh
      simp [memB_iff] at hh
      have := h.tail_lt hh.2
      omega
    have e3 := cnt_iv x.1 x.2 (by unfold vld at vx; omega) (by unfold vld at vx; omega) M
    have e4 : (cnt M (fun t => decide (x.1 ≤ t ∧ t < x.2)) : Int) = x.2 - x.1 := by
      rw [e3]
      unfold vld at vx
      split <;> (try split) <;> omega
    have e5 : len (x :: l) = (x.2 - x.1) + len l := by simp [len]
    rw [e5, ih]
    unfold secs
    rw [← e1]
    omega
theorem secs_range (M : Nat) (l : List Iv) : 0 ≤ secs M l ∧ secs M l ≤ M := by
  unfold secs
  have := cnt_le M (memB l)
  omega
theorem secs_congr (M : Nat) {a b : List Iv} (h : ∀ t, Mem a t ↔ Mem b t) : secs M a = secs M b := by
  unfold secs
  rw [memB_congr h]
theorem secs_add (M : Nat) {a b u m : List Iv} (hu : ∀ t, Mem u t ↔ Mem a t ∨ Mem b t) (hm : ∀ t, Mem m t ↔ Mem a t ∧ Mem b t) : secs M a + secs M b = secs M u + secs M m := by
  unfold secs
  have e := cnt_or_and M (memB a) (memB b)
  have e1 : cnt M (fun t => memB a t || memB b t) = cnt M (memB u) := cnt_congr _ _ _ fun t => by
    rw [Bool.eq_iff_iff]; simp [memB_iff, hu]
  have e2 : cnt M (fun t => memB a t && memB b t) = cnt M (memB m) := cnt_congr _ _ _ fun t => by
    rw [Bool.eq_iff_iff]; simp [memB_iff, hm]
  omega
theorem secs_empty (M : Nat) {a : List Iv} (h : ∀ t, ¬ Mem a t) : secs M a = 0 := by
  unfold secs
  rw [show memB a = fun _ => false from by funext t; rw [Bool.eq_false_iff]; intro hh; exact h t ((memB_iff _ _).1 hh), cnt_false]
  rfl
theorem NF.length_le : ∀ {l : List Iv}, NF l → ∀ b : Int, (∀ x ∈ l, b ≤ x.1) → b + (l.length : Int) ≤ 68719476736 ∨ l = []
  | [], _, _, _ => .inr rfl
  | x :: l, h, b, hb => by
    have h' := (NF.cons_iff x l).1 h
    have vx := h'.1
    have hbx := hb x (by simp)
    rcases NF.length_le h'.2.2 (b + 1) (fun y hy => by have := h'.2.1 y hy; unfold vld at vx; omega) with k | k
    · left; simp only [List.length_cons]; omega
    · left; subst k; unfold vld at vx; simp only [List.length_cons, List.length_nil]; omega
theorem NF.length_max {l : List Iv} (h : NF l) : l.length ≤ 68719476736 := by
  rcases h.length_le 0 (fun x hx => by have := h.1 x hx; unfold vld at this; omega) with k | k
  · omega
  · subst k; simp
theorem NF.empty_iff {l : List Iv} (h : NF l) : l = [] ↔ ∀ t, ¬ Mem l t := by
  constructor
  · rintro rfl; exact Mem.nil
  · intro hh
    cases l with
    | nil => rfl
    | cons x l => exact absurd (Mem.head ((NF.cons_iff x l).1 h).1) (hh x.1)
theorem NF.append_one {l : List Iv} {x : Iv} (h : NF l) (hx : vld x) (hl : ∀ y ∈ l, y.2 < x.1) : NF (l ++ [x]) := by
  refine ⟨?_, ?_⟩
  · intro y hy
    rw [List.mem_append] at hy
    rcases hy with hy | hy
    · exact h.1 y hy
    · simp at hy; subst hy; exact hx
  · rw [List.pairwise_append]
    exact ⟨h.2, by simp, fun a ha b hb => by simp at hb; subst hb; exact hl a ha⟩

theorem NF.take {l : List Iv} (h : NF l) (k : Nat) : NF (l.take k) :=
  ⟨fun x hx => h.1 x (List.mem_of_mem_take hx), h.2.sublist (List.take_sublist k l)⟩
theorem NF.drop {l : List Iv} (h : NF l) (k : Nat) : NF (l.drop k) :=
  ⟨fun x hx => h.1 x (List.mem_of_mem_drop hx), h.2.sublist (List.drop_sublist k l)⟩
theorem len_bounds {l : List Iv} (h : NF l) : 0 ≤ len l ∧ len l ≤ 68719476736 := by
  obtain ⟨M, hM⟩ : ∃ M : Nat, (M : Int) = 68719476736 := ⟨68719476736, rfl⟩
  have h1 := len_secs M hM h
  have h2 := secs_range M l
  omega
theorem len_snoc (l : List Iv) (x : Iv) : len (l ++ [x]) = len l + (x.2 - x.1) := by simp [len]

/-! ### join: sorted valid intervals, merged from the left -/
def jstep (out : List Iv) (i : Iv) : List Iv :=
  match out.getLast? with
  | some l => if i.1 ≤ l.2 then out.dropLast ++ [(l.1, max l.2 i.2)] else out ++ [i]
  | none => out ++ [i]
theorem jstep_nil (i : Iv) : jstep [] i = [i] := rfl
theorem jstep_snoc (o : List Iv) (l i : Iv) : jstep (o ++ [l]) i = if i.1 ≤ l.2 then o ++ [(l.1, max l.2 i.2)] else o ++ [l] ++ [i] := by
  simp [jstep]
theorem snoc_cases (l : List Iv) : l = [] ∨ ∃ o x, l = o ++ [x] := by
  rcases List.eq_nil_or_concat l with h | ⟨o, x, h⟩
  · exact .inl h
  · exact .inr ⟨o, x, by simpa using h⟩
/-- the invariant of the merging loop -/
def JInv (out : List Iv) (b : Int) : Prop := NF out ∧ ∀ x ∈ out, x.1 ≤ b
theorem JInv.step {out : List Iv} {b : Int} {i : Iv} (h : JInv out b) (hb : b ≤ i.1) (hi : vld i) : JInv (jstep out i) i.1 ∧ ∀ t, Mem (jstep out i) t ↔ Mem out t ∨ Mem [i] t := by
  rcases snoc_cases out with rfl | ⟨o, l, rfl⟩
  · rw [jstep_nil]
    refine ⟨⟨(NF.cons_iff _ _).2 ⟨hi, by simp, NF.nil⟩, by simp⟩, fun t => by simp [Mem.nil]⟩
  · rw [jstep_snoc]
    obtain ⟨hn, hle⟩ := h
    have hl : vld l := hn.1 l (by simp)
    have hl1 : l.1 ≤ b := hle l (by simp)
    have hpw := (List.pairwise_append.1 hn.2)
    have hno : NF o := ⟨fun x hx => hn.1 x (by simp [hx]), hpw.1⟩
    have hol : ∀ y ∈ o, y.2 < l.1 := fun y hy => hpw.2.2 y hy l (by simp)
    by_cases hc : i.1 ≤ l.2
    · rw [if_pos hc]
      have hv : vld (l.1, max l.2 i.2) := by unfold vld at *; simp only; omega
      refine ⟨⟨hno.append_one hv (fun y hy => hol y hy), ?_⟩, ?_⟩
      · intro x hx
        rw [List.mem_append] at hx
        rcases hx with hx | hx
        · have := hle x (by simp [hx]); omega
        · simp at hx; subst hx; simp only; omega
      · intro t
        rw [Mem.append, Mem.append, Mem.cons, Mem.cons, Mem.cons]
        simp only [hv, hl, hi, true_and, Mem.nil, or_false]
        constructor
        · rintro (p | p)
          · exact .inl (.inl p)
          · by_cases q : t < l.2
            · exact .inl (.inr ⟨p.1, q⟩)
            · right; omega
        · rintro ((p | p) | p)
          · exact .inl p
          · right; omega
          · right; omega
    · rw [if_neg hc]
      refine ⟨⟨hn.append_one hi ?_, ?_⟩, ?_⟩
      · intro y hy
        rw [List.mem_append] at hy
        rcases hy with hy | hy
        · have := hol y hy; unfold vld at hl; omega
        · simp at hy; subst hy; omega
      · intro x hx
        rw [List.mem_append] at hx
        rcases hx with hx | hx
        · have := hle x hx; omega
        · simp at hx; subst hx; omega
      · intro t; rw [Mem.append]
def jfold (l : List Iv) : List Iv := l.foldl jstep []
theorem jfold_snoc (l : List Iv) (x : Iv) : jfold (l ++ [x]) = jstep (jfold l) x := by simp [jfold]
theorem jfold_law : ∀ (l : List Iv) (out : List Iv) (b : Int), JInv out b → (∀ x ∈ l, vld x ∧ b ≤ x.1) → l.Pairwise (fun x y => x.1 ≤ y.1) →
    NF (l.foldl jstep out) ∧ ∀ t, Mem (l.foldl jstep out) t ↔ Mem out t ∨ Mem l t
  | [], out, b, h, _, _ => ⟨h.1, fun t => by simp [Mem.nil]⟩
  | x :: l, out, b, h, hv, hs => by
    have hx := hv x (by simp)
    obtain ⟨h1, h2⟩ := h.step hx.2 hx.1
    have hs' := List.pairwise_cons.1 hs
    obtain ⟨h3, h4⟩ := jfold_law l (jstep out x) x.1 h1 (fun y hy => ⟨(hv y (by simp [hy])).1, hs'.1 y hy⟩) hs'.2
    refine ⟨h3, fun t => ?_⟩
    rw [List.foldl_cons, h4, h2, or_assoc, ← Mem.append]
    rfl
/-- WHAT join COMPUTES: sorted, merged. -/
theorem jfold_holds {l : List Iv} (hv : ∀ x ∈ l, vld x) (hs : l.Pairwise fun x y => x.1 ≤ y.1) : NF (jfold l) ∧ ∀ t, Mem (jfold l) t ↔ Mem l t := by
  have h := jfold_law l [] 0 ⟨NF.nil, by simp⟩ (fun x hx => ⟨hv x hx, by have := hv x hx; unfold vld at this; omega⟩) hs
  exact ⟨h.1, fun t => by rw [show jfold l = l.foldl jstep [] from rfl, h.2]; simp [Mem.nil]⟩
theorem jfold_length (l : List Iv) : (jfold l).length ≤ l.length := by
  have key : ∀ (l out : List Iv), (l.foldl jstep out).length ≤ out.length + l.length := by
    intro l
    induction l with
    | nil => intro out; simp
    | cons x l ih =>
      intro out
      rw [List.foldl_cons]
      refine Nat.le_trans (ih _) ?_
      have : (jstep out x).length ≤ out.length + 1 := by
        rcases snoc_cases out with rfl | ⟨o, y, rfl⟩
        · simp [jstep_nil]
        · rw [jstep_snoc]; split <;> simp
      simp only [List.length_cons]
      omega
  simpa [jfold] using key l []

/-! ### meet: two lists in normal form, by two places -/
def isect (a b : Iv) : Iv := (max a.1 b.1, min a.2 b.2)
def one? (m : Iv) : List Iv := if m.1 < m.2 then [m] else []
def meetL : List Iv → List Iv → List Iv
  | [], _ => []
  | _ :: _, [] => []
  | a :: x, b :: y => one? (isect a b) ++ if a.2 < b.2 then meetL x (b :: y) else meetL (a :: x) y
termination_by x y => x.length + y.length
theorem meetL_nil_left (y : List Iv) : meetL [] y = [] := by rw [meetL]
theorem meetL_nil_right (x : List Iv) : meetL x [] = [] := by cases x <;> rw [meetL]
theorem meetL_cons (a : Iv) (x : List Iv) (b : Iv) (y : List Iv) : meetL (a :: x) (b :: y) = one? (isect a b) ++ if a.2 < b.2 then meetL x (b :: y) else meetL (a :: x) y := by rw [meetL]
theorem isect_vld {a b : Iv} (ha : vld a) (hb : vld b) (h : (isect a b).1 < (isect a b).2) : vld (isect a b) := by
  unfold vld isect at *; simp only at *; omega
theorem meetL_holds (n : Nat) : ∀ (x y : List Iv), x.length + y.length ≤ n → NF x → NF y → NF (meetL x y) ∧ (∀ t, Mem (meetL x y) t ↔ Mem x t ∧ Mem y t) ∧ ∀ b : Int, ((∀ z ∈ x, b < z.1) ∨ ∀ z ∈ y, b < z.1) → ∀ z ∈ meetL x y, b < z.1 := by
  induction n with
  | zero =>
    intro x y h hx hy
    have : x = [] := List.eq_nil_of_length_eq_zero (by omega)
    subst this
    rw [meetL_nil_left]
    exact ⟨NF.nil, fun t => by simp [Mem.nil], by simp⟩
  | succ n ih =>
    intro x y h hx hy
    match x, y with
    | [], y => rw [meetL_nil_left]; exact ⟨NF.nil, fun t => by simp [Mem.nil], by simp⟩
    | a :: x, [] => rw [meetL_nil_right]; exact ⟨NF.nil, fun t => by simp [Mem.nil], by simp⟩
    | a :: x, b :: y =>
      rw [meetL_cons]
      have ca := (NF.cons_iff a x).1 hx
      have cb := (NF.cons_iff b y).1 hy
      have va := ca.1
      have vb := cb.1
      simp only [List.length_cons] at h
      -- the rest
      obtain ⟨r, hr, hnf, hmem, hlow, hlo2⟩ : ∃ r, (if a.2 < b.2 then meetL x (b :: y) else meetL (a :: x) y) = r ∧ NF r ∧ (∀ t, Mem r t ↔ (Mem x t ∧ Mem (b :: y) t ∧ a.2 < b.2) ∨ (Mem (a :: x) t ∧ Mem y t ∧ ¬ a.2 < b.2)) ∧ (∀ z ∈ r, min a.2 b.2 < z.1) ∧
          ∀ c : Int, ((∀ z ∈ a :: x, c < z.1) ∨ ∀ z ∈ b :: y, c < z.1) → ∀ z ∈ r, c < z.1 := by
        by_cases hc : a.2 < b.2
        · obtain ⟨h1, h2, h3⟩ := ih x (b :: y) (by simp only [List.length_cons]; omega) ca.2.2 hy
          refine ⟨_, rfl, by rw [if_pos hc]; exact h1, fun t => ?_, ?_, ?_⟩
          · rw [if_pos hc, h2]; simp [hc]
          · rw [if_pos hc]; intro z hz; have := h3 a.2 (.inl ca.2.1) z hz; omega
          · rw [if_pos hc]
            intro c hcc z hz
            rcases hcc with hcc | hcc
            · exact h3 c (.inl fun w hw => hcc w (by simp [hw])) z hz
            · exact h3 c (.inr hcc) z hz
        · obtain ⟨h1, h2, h3⟩ := ih (a :: x) y (by simp only [List.length_cons]; omega) hx cb.2.2
          refine ⟨_, rfl, by rw [if_neg hc]; exact h1, fun t => ?_, ?_, ?_⟩
          · rw [if_neg hc, h2]; simp [hc]
          · rw [if_neg hc]; intro z hz; have := h3 b.2 (.inr cb.2.1) z hz; omega
          · rw [if_neg hc]
            intro c hcc z hz
            rcases hcc with hcc | hcc
            · exact h3 c (.inl hcc) z hz
            · exact h3 c (.inr fun w hw => hcc w (by simp [hw])) z hz
      rw [hr]
      have hm2 : (isect a b).2 = min a.2 b.2 := rfl
      have hm1 : (isect a b).1 = max a.1 b.1 := rfl
      refine ⟨?_, ?_, ?_⟩
      · unfold one?
        split
        · rename_i hlt
          exact (NF.cons_iff _ _).2 ⟨isect_vld va vb hlt, fun z hz => by rw [hm2]; exact hlow z hz, hnf⟩
        · exact hnf
      · intro t
        have tx : Mem x t → a.2 < t := fun p => hx.tail_lt p
        have ty : Mem y t → b.2 < t := fun p => hy.tail_lt p
        have hone : Mem (one? (isect a b)) t ↔ (max a.1 b.1 ≤ t ∧ t < min a.2 b.2) := by
          unfold one?
          split
          · rename_i hlt
            rw [Mem.cons]
            simp only [isect_vld va vb hlt, true_and, Mem.nil, or_false, hm1, hm2]
          · rename_i hlt
            rw [hm1, hm2] at hlt
            simp only [Mem.nil, false_iff]
            omega
        rw [Mem.append, hone, hmem, Mem.cons a x, Mem.cons b y]
        simp only [va, vb, true_and]
        constructor
        · rintro (p | ⟨p, q, _⟩ | ⟨p, q, _⟩)
          · exact ⟨.inl (by omega), .inl (by omega)⟩
          · exact ⟨.inr p, q⟩
          · exact ⟨p, .inr q⟩
        · rintro ⟨p, q⟩
          rcases p with p | p
          · rcases q with q | q
            · left; omega
            · right; right
              have := ty q
              exact ⟨.inl p, q, by omega⟩
          · have t1 := tx p
            rcases q with q | q
            · right; left; exact ⟨p, .inl q, by omega⟩
            · have t2 := ty q
              by_cases hc : a.2 < b.2
              · right; left; exact ⟨p, .inr q, hc⟩
              · right; right; exact ⟨.inr p, q, hc⟩
      · intro c hcc z hz
        rw [List.mem_append] at hz
        rcases hz with hz | hz
        · unfold one? at hz
          split at hz
          · simp at hz; subst hz
            rw [hm1]
            rcases hcc with hcc | hcc
            · have := hcc a (by simp); omega
            · have := hcc b (by simp); omega
          · simp at hz
        · exact hlo2 c hcc z hz
theorem meetL_NF {x y : List Iv} (hx : NF x) (hy : NF y) : NF (meetL x y) := (meetL_holds _ x y (Nat.le_refl _) hx hy).1
theorem meetL_mem {x y : List Iv} (hx : NF x) (hy : NF y) (t : Int) : Mem (meetL x y) t ↔ Mem x t ∧ Mem y t := (meetL_holds _ x y (Nat.le_refl _) hx hy).2.1 t

theorem drop_get {α : Type} {l : List α} {i : Nat} {a : α} (h : l[i]? = some a) : l.drop i = a :: l.drop (i + 1) := by
  have hi : i < l.length := (List.getElem?_eq_some_iff.1 h).1
  have h2 : l[i] = a := (List.getElem?_eq_some_iff.1 h).2
  rw [← h2, List.getElem_cons_drop]
theorem meetL_step {x y : List Iv} {i k : Nat} {a b : Iv} (hx : x[i]? = some a) (hy : y[k]? = some b) :
    meetL (x.drop i) (y.drop k) = one? (isect a b) ++ if a.2 < b.2 then meetL (x.drop (i + 1)) (y.drop k) else meetL (x.drop i) (y.drop (k + 1)) := by
  conv => lhs; rw [drop_get hx, drop_get hy, meetL_cons]
  rw [← drop_get hy, ← drop_get hx]
theorem one?_length (m : Iv) : (one? m).length ≤ 1 := by unfold one?; split <;> simp

/-! ### the complement -/
def compl (from_ : Int) : List Iv → List Iv
  | [] => [(from_, 68719476736)]
  | x :: l => (from_, x.1) :: compl x.2 l
theorem compl_mem : ∀ (l : List Iv) (f : Int), NF l → 0 ≤ f → (∀ x ∈ l, f ≤ x.1) → ∀ t, Mem (compl f l) t ↔ (f ≤ t ∧ t < 68719476736 ∧ ¬ Mem l t)
  | [], f, _, hf, _, t => by
    rw [compl, Mem.cons]
    simp only [Mem.nil, not_false_eq_true, or_false, and_true]
    show ((0 : Int) ≤ f ∧ f < 68719476736 ∧ (68719476736 : Int) ≤ 68719476736) ∧ f ≤ t ∧ t < 68719476736 ↔ f ≤ t ∧ t < 68719476736
    omega
  | x :: l, f, h, hf, hle, t => by
    have hc := (NF.cons_iff x l).1 h
    have vx := hc.1
    have hfx := hle x (by simp)
    have ih := compl_mem l x.2 hc.2.2 (by unfold vld at vx; omega) (fun y hy => by have := hc.2.1 y hy; omega) t
    have tl : Mem l t → x.2 < t := fun p => h.tail_lt p
    rw [compl, Mem.cons, ih, Mem.cons]
    unfold vld at *
    simp only
    constructor
    · rintro (p | ⟨p, q, r⟩)
      · refine ⟨by omega, by omega, ?_⟩
        rintro (s | s)
        · omega
        · have := tl s; omega
      · refine ⟨by omega, q, ?_⟩
        rintro (s | s)
        · omega
        · exact r s
    · rintro ⟨p, q, r⟩
      by_cases hx : t < x.1
      · left; omega
      · right
        refine ⟨?_, q, fun s => r (.inr s)⟩
        rcases (by omega : t < x.2 ∨ x.2 ≤ t) with k | k
        · exact absurd (Or.inl (by omega)) r
        · exact k
theorem compl_length : ∀ (l : List Iv) (f : Int), (compl f l).length = l.length + 1
  | [], _ => rfl
  | _ :: l, f => by simp [compl, compl_length l]
/-- the accumulated form: what the loop has appended so far, and the next 'from' -/
def cpre : Int → List Iv → List Iv
  | _, [] => []
  | f, x :: l => (f, x.1) :: cpre x.2 l
def cfrom : Int → List Iv → Int
  | f, [] => f
  | _, x :: l => cfrom x.2 l
theorem cpre_snoc : ∀ (l : List Iv) (f : Int) (x : Iv), cpre f (l ++ [x]) = cpre f l ++ [(cfrom f l, x.1)]
  | [], _, _ => rfl
  | y :: l, f, x => by simp [cpre, cfrom, cpre_snoc l]
theorem cfrom_snoc : ∀ (l : List Iv) (f : Int) (x : Iv), cfrom f (l ++ [x]) = x.2
  | [], _, _ => rfl
  | y :: l, f, x => by simp [cfrom, cfrom_snoc l]
theorem compl_eq : ∀ (l : List Iv) (f : Int), compl f l = cpre f l ++ [(cfrom f l, 68719476736)]
  | [], _ => rfl
  | y :: l, f => by simp [compl, cpre, cfrom, compl_eq l]
theorem cpre_length : ∀ (l : List Iv) (f : Int), (cpre f l).length = l.length
  | [], _ => rfl
  | _ :: l, f => by simp [cpre, cpre_length l]
/-- is an interval covered? -/
theorem covers_iff {n : List Iv} (hn : NF n) {i : Iv} (hi : vld i) : (∃ x ∈ n, x.1 ≤ i.1 ∧ i.2 ≤ x.2) ↔ ∀ t, i.1 ≤ t → t < i.2 → Mem n t := by
  constructor
  · rintro ⟨x, hx, h1, h2⟩ t ht1 ht2
    exact ⟨x, hx, hn.1 x hx, by omega, by omega⟩
  · intro h
    unfold vld at hi
    obtain ⟨x, hx, vx, h1, h2⟩ := h i.1 (by omega) (by omega)
    refine ⟨x, hx, h1, ?_⟩
    rcases (by omega : x.2 < i.2 ∨ i.2 ≤ x.2) with k | k
    · exfalso
      obtain ⟨y, hy, vy, g1, g2⟩ := h x.2 (by omega) k
      -- y differs from x and neither lies before the other
      have key : ∀ {l : List Iv}, l.Pairwise (fun x y => x.2 < y.1) → ∀ {a b : Iv}, a ∈ l → b ∈ l → a = b ∨ a.2 < b.1 ∨ b.2 < a.1 := by
        intro l hl
        induction hl with
        | nil => intro a b ha; simp at ha
        | cons hh _ ihh =>
          intro a b ha hb
          rw [List.mem_cons] at ha hb
          rcases ha with rfl | ha
          · rcases hb with rfl | hb
            · exact .inl rfl
            · exact .inr (.inl (hh b hb))
          · rcases hb with rfl | hb
            · exact .inr (.inr (hh a ha))
            · exact ihh ha hb
      unfold vld at vx vy
      rcases key hn.2 hx hy with rfl | e | e <;> omega
    · exact k

/-! ### the reference: ends and segments -/
def putStep (n : Int) (s : List Int × Bool) (x : Int) : List Int × Bool :=
  let s1 := if !s.2 && decide (n < x) then (s.1 ++ [n], true) else s
  (s1.1 ++ [x], s1.2 || decide (n = x))
def putS (n : Int) (l : List Int) : List Int × Bool := l.foldl (putStep n) ([], false)
def putL (l : List Int) (n : Int) : List Int := if (putS n l).2 then (putS n l).1 else (putS n l).1 ++ [n]
theorem putS_snoc (n : Int) (l : List Int) (x : Int) : putS n (l ++ [x]) = putStep n (putS n l) x := by simp [putS]
abbrev Asc (l : List Int) : Prop := l.Pairwise fun x y => x < y
theorem asc_snoc {l : List Int} {x : Int} (h : Asc l) (hx : ∀ y ∈ l, y < x) : Asc (l ++ [x]) := by
  unfold Asc
  rw [List.pairwise_append]
  exact ⟨h, by simp, fun a ha b hb => by simp at hb; subst hb; exact hx a ha⟩
/-- after the elements of l (ascending): the list so far is l with n put in if n is at most l's last -/
theorem putS_law (n : Int) : ∀ (k : Nat) (l : List Int), l.length = k → Asc l → Asc (putS n l).1 ∧ (∀ x, x ∈ (putS n l).1 ↔ x ∈ l ∨ (x = n ∧ (putS n l).2 = true)) ∧ ((putS n l).2 = false → ∀ x ∈ l, x < n) ∧ ((putS n l).2 = true → ∃ x ∈ l, n ≤ x) := by
  intro k
  induction k with
  | zero =>
    intro l hl _
    have : l = [] := List.eq_nil_of_length_eq_zero hl
    subst this
    simp [putS, Asc]
  | succ k ih =>
    intro l hl ha
    rcases List.eq_nil_or_concat l with rfl | ⟨o, x, rfl⟩
    · simp at hl
    · rw [List.concat_eq_append] at ha hl ⊢
      have hpa := List.pairwise_append.1 ha
      obtain ⟨h1, h2, h3, h4⟩ := ih o (by simpa using hl) hpa.1
      have hox : ∀ y ∈ o, y < x := fun y hy => hpa.2.2 y hy x (by simp)
      rw [putS_snoc]
      generalize putS n o = s at h1 h2 h3 h4 ⊢
      obtain ⟨out, done⟩ := s
      simp only at h1 h2 h3 h4
      unfold putStep
      cases done with
      | true =>
        obtain ⟨z, hz, hnz⟩ := h4 rfl
        have hzx := hox z hz
        simp only [Bool.not_true, Bool.false_and, Bool.false_eq_true, if_false, Bool.true_or, Bool.true_eq_false, false_implies, true_and, and_true]
        refine ⟨asc_snoc h1 fun y hy => ?_, fun y => ?_, fun _ => ⟨x, by simp, by omega⟩⟩
        · rcases (h2 y).1 hy with hy | ⟨rfl, _⟩
          · exact hox y hy
          · omega
        · simp only [List.mem_append, List.mem_singleton, h2, and_true]
          constructor
          · rintro ((p | p) | p)
            · exact .inl (.inl p)
            · exact .inr p
            · exact .inl (.inr p)
          · rintro ((p | p) | p)
            · exact .inl (.inl p)
            · exact .inr p
            · exact .inl (.inr p)
      | false =>
        have hlt := h3 rfl
        by_cases hnx : n < x
        · simp only [Bool.not_false, Bool.true_and, hnx, decide_true, if_true, Bool.true_or, Bool.true_eq_false, false_implies, and_true, true_and]
          refine ⟨asc_snoc (asc_snoc h1 fun y hy => ?_) fun y hy => ?_, fun y => ?_, fun _ => ⟨x, by simp, by omega⟩⟩
          · rcases (h2 y).1 hy with hy | ⟨_, hh⟩
            · exact hlt y hy
            · simp at hh
          · rw [List.mem_append] at hy
            rcases hy with hy | hy
            · rcases (h2 y).1 hy with hy | ⟨_, hh⟩
              · exact hox y hy
              · simp at hh
            · simp at hy; subst hy; exact hnx
          · simp only [List.mem_append, List.mem_singleton, h2, Bool.false_eq_true, and_false, or_false]
            constructor
            · rintro ((p | p) | p)
              · exact .inl (.inl p)
              · exact .inr p
              · exact .inl (.inr p)
            · rintro ((p | p) | p)
              · exact .inl (.inl p)
              · exact .inr p
              · exact .inl (.inr p)
        · simp only [Bool.not_false, Bool.true_and, hnx, decide_false, Bool.false_eq_true, if_false, Bool.false_or]
          refine ⟨asc_snoc h1 fun y hy => ?_, fun y => ?_, fun hd => ?_, fun hd => ?_⟩
          · rcases (h2 y).1 hy with hy | ⟨_, hh⟩
            · exact hox y hy
            · simp at hh
          · simp only [List.mem_append, List.mem_singleton, h2, Bool.false_eq_true, and_false, or_false, decide_eq_true_eq]
            constructor
            · rintro (p | p)
              · exact .inl (.inl p)
              · exact .inl (.inr p)
            · rintro ((p | p) | ⟨p, q⟩)
              · exact .inl p
              · exact .inr p
              · exact .inr (by omega)
          · intro y hy
            simp at hd
            rw [List.mem_append] at hy
            rcases hy with hy | hy
            · exact hlt y hy
            · simp at hy; subst hy; omega
          · simp at hd
            exact ⟨x, by simp, by omega⟩
theorem putL_law (l : List Int) (n : Int) (h : Asc l) : Asc (putL l n) ∧ ∀ x, x ∈ putL l n ↔ x ∈ l ∨ x = n := by
  obtain ⟨h1, h2, h3, h4⟩ := putS_law n _ l rfl h
  unfold putL
  generalize putS n l = s at h1 h2 h3 h4 ⊢
  obtain ⟨out, done⟩ := s
  cases done with
  | true => simp only [if_true] at *; exact ⟨h1, fun x => by rw [h2]; simp⟩
  | false =>
    simp only [Bool.false_eq_true, if_false] at *
    refine ⟨asc_snoc h1 fun y hy => ?_, fun x => ?_⟩
    · rcases (h2 y).1 hy with hy | hy
      · exact h3 trivial y hy
      · simp at hy
    · rw [List.mem_append, h2]; simp
theorem putS_length (n : Int) (l : List Int) : (putS n l).1.length + (if (putS n l).2 then 0 else 1) ≤ l.length + 1 := by
  have gen : ∀ (l : List Int) (s : List Int × Bool), (l.foldl (putStep n) s).1.length + (if (l.foldl (putStep n) s).2 then 0 else 1) ≤ s.1.length + (if s.2 then 0 else 1) + l.length := by
    intro l
    induction l with
    | nil => intro s; exact Nat.le_refl _
    | cons x l ih =>
      intro s
      rw [List.foldl_cons]
      refine Nat.le_trans (ih _) ?_
      obtain ⟨out, done⟩ := s
      unfold putStep
      cases done <;> by_cases hnx : n < x <;> by_cases hn : n = x <;> simp [hnx, hn] <;> omega
  have := gen l ([], false)
  have e : (putS n l) = l.foldl (putStep n) ([], false) := rfl
  rw [e]
  simp only [List.length_nil, Bool.false_eq_true, if_false] at this
  omega
theorem putL_length (l : List Int) (n : Int) : (putL l n).length ≤ l.length + 1 := by
  have key : ∀ (l : List Int), (putS n l).1.length + (if (putS n l).2 then 0 else 1) ≤ l.length + 1 := by
    intro l
    have gen : ∀ (l : List Int) (s : List Int × Bool), (l.foldl (putStep n) s).1.length + (if (l.foldl (putStep n) s).2 then 0 else 1) ≤ s.1.length + (if s.2 then 0 else 1) + l.length := by
      intro l
      induction l with
      | nil => intro s; exact Nat.le_refl _
      | cons x l ih =>
        intro s
        rw [List.foldl_cons]
        refine Nat.le_trans (ih _) ?_
        obtain ⟨out, done⟩ := s
        unfold putStep
        cases done <;> by_cases hnx : n < x <;> by_cases hn : n = x <;> simp [hnx, hn] <;> omega
    have := gen l ([], false)
    have e : (putS n l) = l.foldl (putStep n) ([], false) := rfl
    rw [e]
    simp only [List.length_nil, Bool.false_eq_true, if_false] at this
    omega
  have := key l
  unfold putL
  split
  · rename_i h; simp [h] at this; omega
  · rename_i h; simp [h] at this; simp; omega
def endStep (out : List Int) (x : Iv) : List Int := if validB x.1 x.2 then putL (putL out x.1) x.2 else out
def endsL (l : List Iv) (o : List Int) : List Int := l.foldl endStep o
theorem endsL_snoc (l : List Iv) (o : List Int) (x : Iv) : endsL (l ++ [x]) o = endStep (endsL l o) x := by simp [endsL]
theorem endsL_law : ∀ (l : List Iv) (o : List Int), Asc o → Asc (endsL l o) ∧ ∀ p, p ∈ endsL l o ↔ p ∈ o ∨ ∃ x ∈ l, vld x ∧ (p = x.1 ∨ p = x.2)
  | [], o, h => ⟨h, fun p => by simp [endsL]⟩
  | x :: l, o, h => by
    have hs : Asc (endStep o x) ∧ ∀ p, p ∈ endStep o x ↔ p ∈ o ∨ (vld x ∧ (p = x.1 ∨ p = x.2)) := by
      unfold endStep
      by_cases hv : validB x.1 x.2 = true
      · rw [if_pos hv]
        have vx : vld x := (validB_iff _ _).1 hv
        obtain ⟨h1, h2⟩ := putL_law o x.1 h
        obtain ⟨h3, h4⟩ := putL_law _ x.2 h1
        exact ⟨h3, fun p => by rw [h4, h2]; simp [vx, or_assoc]⟩
      · rw [if_neg hv]
        have vx : ¬ vld x := fun k => hv ((validB_iff _ _).2 k)
        exact ⟨h, fun p => by simp [vx]⟩
    obtain ⟨h1, h2⟩ := endsL_law l (endStep o x) hs.1
    refine ⟨h1, fun p => ?_⟩
    show p ∈ endsL l (endStep o x) ↔ _
    rw [h2, hs.2]
    simp only [List.mem_cons, exists_eq_or_imp, or_assoc]
theorem endsL_length : ∀ (l : List Iv) (o : List Int), (endsL l o).length ≤ o.length + 2 * l.length
  | [], o => by simp [endsL]
  | x :: l, o => by
    have h := endsL_length l (endStep o x)
    have h2 : (endStep o x).length ≤ o.length + 2 := by
      unfold endStep
      split
      · have a := putL_length o x.1
        have b := putL_length (putL o x.1) x.2
        omega
      · omega
    simp only [List.length_cons]
    show (endsL l (endStep o x)).length ≤ _
    omega
/-- one segment of the reference's loop: from p to q, in the combination or not -/
def segStep (c : Int → Bool) (out : List Iv) (s : Iv) : List Iv :=
  if c s.1 then
    match out.getLast? with
    | some l => if l.2 = s.1 then out.dropLast ++ [(l.1, s.2)] else out ++ [s]
    | none => out ++ [s]
  else out
def segs : List Int → List Iv
  | [] => []
  | [_] => []
  | p :: q :: l => (p, q) :: segs (q :: l)
def segL (c : Int → Bool) (p : List Int) : List Iv := (segs p).foldl (segStep c) []
theorem segs_length : ∀ p : List Int, (segs p).length = p.length - 1
  | [] => rfl
  | [_] => rfl
  | p :: q :: l => by simp [segs, segs_length (q :: l)]
theorem segs_get : ∀ (p : List Int) (i : Nat) (a b : Int), p[i]? = some a → p[i + 1]? = some b → (segs p)[i]? = some (a, b)
  | [], _, _, _, h, _ => by simp at h
  | [_], 0, _, _, _, h => by simp at h
  | [_], i + 1, _, _, h, _ => by simp at h
  | p :: q :: l, 0, a, b, h1, h2 => by simp at h1 h2; simp [segs, h1, h2]
  | p :: q :: l, i + 1, a, b, h1, h2 => by
    simp only [segs, List.getElem?_cons_succ] at *
    exact segs_get (q :: l) i a b h1 h2
theorem segStep_length (c : Int → Bool) (out : List Iv) (s : Iv) : (segStep c out s).length ≤ out.length + 1 := by
  unfold segStep
  split
  · split
    · split
      · simp
      · simp
    · simp
  · omega
theorem segStep_snoc (c : Int → Bool) (o : List Iv) (l s : Iv) (h : c s.1 = true) : segStep c (o ++ [l]) s = if l.2 = s.1 then o ++ [(l.1, s.2)] else o ++ [l] ++ [s] := by
  simp [segStep, h]
theorem segStep_no (c : Int → Bool) (o : List Iv) (s : Iv) (h : c s.1 = false) : segStep c o s = o := by
  simp [segStep, h]
/-- S is constant on each segment of p, and nothing of it lies outside p's range -/
def SInv (S : Int → Prop) (out : List Iv) (b : Int) : Prop := NF out ∧ (∀ x ∈ out, x.2 ≤ b) ∧ ∀ t, Mem out t ↔ S t ∧ t < b
theorem SInv.step {S : Int → Prop} {c : Int → Bool} {out : List Iv} {a b : Int} (h : SInv S out a) (hab : a < b) (hc : c a = true ↔ S a) (h0 : 0 ≤ a) (hM : b ≤ 68719476736)
    (hconst : ∀ t, a ≤ t → t < b → (S t ↔ S a)) : SInv S (segStep c out (a, b)) b := by
  obtain ⟨hn, hle, hm⟩ := h
  by_cases hca : c a = true
  · have hS := hc.1 hca
    have hv : vld (a, b) := by unfold vld; simp only; omega
    have hmem : ∀ t, (S t ∧ t < b) ↔ (Mem out t ∨ (a ≤ t ∧ t < b)) := by
      intro t
      rw [hm]
      constructor
      · rintro ⟨p, q⟩
        by_cases k : t < a
        · exact .inl ⟨p, k⟩
        · right; omega
      · rintro (⟨p, q⟩ | ⟨p, q⟩)
        · exact ⟨p, by omega⟩
        · exact ⟨(hconst t p q).2 hS, q⟩
    rcases snoc_cases out with rfl | ⟨o, l, rfl⟩
    · have e : segStep c [] (a, b) = [(a, b)] := by simp [segStep, hca]
      rw [e]
      refine ⟨(NF.cons_iff _ _).2 ⟨hv, by simp, NF.nil⟩, by simp, fun t => ?_⟩
      rw [hmem, Mem.cons]
      simp [hv, Mem.nil]
    · rw [segStep_snoc _ _ _ _ hca]
      have hl : vld l := hn.1 l (by simp)
      have hpw := (List.pairwise_append.1 hn.2)
      have hno : NF o := ⟨fun x hx => hn.1 x (by simp [hx]), hpw.1⟩
      have hol : ∀ y ∈ o, y.2 < l.1 := fun y hy => hpw.2.2 y hy l (by simp)
      have hla := hle l (by simp)
      by_cases he : l.2 = a
      · rw [if_pos he]
        have hv2 : vld (l.1, b) := by unfold vld at *; simp only at *; omega
        refine ⟨hno.append_one hv2 hol, ?_, fun t => ?_⟩
        · intro x hx
          rw [List.mem_append] at hx
          rcases hx with hx | hx
          · have := hle x (by simp [hx]); omega
          · simp at hx; subst hx; simp
        · rw [hmem, Mem.append, Mem.append, Mem.cons, Mem.cons]
          simp only [hv2, hl, true_and, Mem.nil, or_false]
          unfold vld at hl
          constructor
          · rintro (p | p)
            · exact .inl (.inl p)
            · by_cases q : t < l.2
              · exact .inl (.inr ⟨p.1, q⟩)
              · right; omega
          · rintro ((p | p) | p)
            · exact .inl p
            · right; omega
            · right; omega
      · rw [if_neg he]
        refine ⟨hn.append_one hv ?_, ?_, fun t => ?_⟩
        · intro y hy
          simp only
          rw [List.mem_append] at hy
          rcases hy with hy | hy
          · have := hol y hy; unfold vld at hl; omega
          · simp at hy; subst hy; omega
        · intro x hx
          rw [List.mem_append] at hx
          rcases hx with hx | hx
          · have := hle x hx; omega
          · simp at hx; subst hx; simp
        · rw [hmem, Mem.append, Mem.cons (a, b)]
          simp only [hv, true_and, Mem.nil, or_false]
  · have hca' : c a = false := by simpa using hca
    rw [segStep_no _ _ _ hca']
    refine ⟨hn, fun x hx => by have := hle x hx; omega, fun t => ?_⟩
    rw [hm]
    constructor
    · rintro ⟨p, q⟩; exact ⟨p, by omega⟩
    · rintro ⟨p, q⟩
      refine ⟨p, ?_⟩
      rcases (by omega : t < a ∨ a ≤ t) with k | k
      · exact k
      · exact absurd (hc.2 ((hconst t k q).1 p)) hca
theorem seg_law {S : Int → Prop} {c : Int → Bool} (hc : ∀ t, c t = true ↔ S t) : ∀ (p : List Int) (a : Int) (out : List Iv), Asc (a :: p) → SInv S out a → (∀ x ∈ a :: p, 0 ≤ x ∧ x ≤ 68719476736) →
    (∀ t u, t ≤ u → (∀ x ∈ a :: p, ¬ (t < x ∧ x ≤ u)) → a ≤ t → (S t ↔ S u)) → SInv S ((segs (a :: p)).foldl (segStep c) out) ((a :: p).getLast (by simp))
  | [], a, out, _, h, _, _ => h
  | b :: p, a, out, hp, h, hr, hk => by
    have hp' := List.pairwise_cons.1 hp
    have hab : a < b := hp'.1 b (by simp)
    have hbp := List.pairwise_cons.1 hp'.2
    have h1 := h.step (c := c) hab (hc a) (hr a (by simp)).1 (hr b (by simp)).2 (fun t h1 h2 => (hk a t h1 (by
      intro x hx
      rw [List.mem_cons, List.mem_cons] at hx
      rcases hx with rfl | rfl | hx
      · omega
      · omega
      · have := hbp.1 x hx; omega) (by omega)).symm)
    have := seg_law hc p b (segStep c out (a, b)) hp'.2 h1 (fun x hx => hr x (by simp at hx ⊢; exact .inr hx)) (fun t u htu hh hbt => hk t u htu (by
      intro x hx
      rw [List.mem_cons] at hx
      rcases hx with rfl | hx
      · omega
      · exact hh x hx) (by omega))
    simpa [segs] using this
/-- THE REFERENCE's LOOP: the combination in normal form. -/
theorem segL_holds {S : Int → Prop} {c : Int → Bool} {p : List Int} (hc : ∀ t, c t = true ↔ S t) (hp : Asc p) (hr : ∀ x ∈ p, 0 ≤ x ∧ x ≤ 68719476736)
    (hk : ∀ t u, t ≤ u → (∀ x ∈ p, ¬ (t < x ∧ x ≤ u)) → (S t ↔ S u)) (hlo : ¬ S (-1)) (hhi : ¬ S 68719476736) : NF (segL c p) ∧ ∀ t, Mem (segL c p) t ↔ S t := by
  cases p with
  | nil =>
    have hS : ∀ t, ¬ S t := fun t h => by
      rcases Int.le_total t (-1) with k | k
      · exact hlo ((hk t (-1) k (by simp)).1 h)
      · exact hlo ((hk (-1) t k (by simp)).2 h)
    refine ⟨NF.nil, fun t => ?_⟩
    simp only [segL, segs, List.foldl_nil, Mem.nil, false_iff]
    exact hS t
  | cons a p =>
    have h0 : SInv S [] a := by
      refine ⟨NF.nil, by simp, fun t => ?_⟩
      simp only [Mem.nil, false_iff]
      rintro ⟨h, hta⟩
      have hra := hr a (by simp)
      have hpc := List.pairwise_cons.1 hp
      rcases Int.le_total t (-1) with k | k
      · refine hlo ((hk t (-1) k ?_).1 h)
        intro x hx
        rw [List.mem_cons] at hx
        rcases hx with rfl | hx
        · omega
        · have := hpc.1 x hx; omega
      · refine hlo ((hk (-1) t k ?_).2 h)
        intro x hx
        rw [List.mem_cons] at hx
        rcases hx with rfl | hx
        · omega
        · have := hpc.1 x hx; omega
    have h1 := seg_law hc p a [] hp h0 hr (fun t u htu hh _ => hk t u htu hh)
    have e : (segs (a :: p)).foldl (segStep c) [] = segL c (a :: p) := rfl
    rw [e] at h1
    refine ⟨h1.1, fun t => ?_⟩
    rw [h1.2.2]
    constructor
    · rintro ⟨h, _⟩; exact h
    · intro h
      refine ⟨h, ?_⟩
      rcases (by omega : t < (a :: p).getLast (by simp) ∨ (a :: p).getLast (by simp) ≤ t) with k | k
      · exact k
      · exfalso
        have hlast : ∀ x ∈ a :: p, x ≤ (a :: p).getLast (by simp) := by
          have gen : ∀ (l : List Int) (hl : l ≠ []), Asc l → ∀ x ∈ l, x ≤ l.getLast hl := by
            intro l
            induction l with
            | nil => intro hl; exact absurd rfl hl
            | cons y l ih =>
              intro hl ha x hx
              cases l with
              | nil => simp at hx; subst hx; simp
              | cons z l =>
                have ha' := List.pairwise_cons.1 ha
                rw [List.getLast_cons (by simp)]
                rw [List.mem_cons] at hx
                rcases hx with rfl | hx
                · have := ha'.1 _ (List.getLast_mem (l := z :: l) (by simp)); omega
                · exact ih (by simp) ha'.2 x hx
          exact gen _ _ hp
        have hrl := hr _ (List.getLast_mem (l := a :: p) (by simp))
        rcases Int.le_total t 68719476736 with q | q
        · refine hhi ((hk t _ q ?_).1 h)
          intro x hx
          have := hlast x hx
          omega
        · refine hhi ((hk _ t q ?_).2 h)
          intro x hx
          have := hr x hx
          omega
/-- a set is constant between two neighboring ends -/
theorem mem_const (l : List Iv) (p : List Int) (hp : ∀ x ∈ l, vld x → x.1 ∈ p ∧ x.2 ∈ p) (t u : Int) (htu : t ≤ u) (h : ∀ x ∈ p, ¬ (t < x ∧ x ≤ u)) : Mem l t ↔ Mem l u := by
  constructor
  · rintro ⟨x, hx, hv, h1, h2⟩
    refine ⟨x, hx, hv, by omega, ?_⟩
    have := h x.2 (hp x hx hv).2
    omega
  · rintro ⟨x, hx, hv, h1, h2⟩
    refine ⟨x, hx, hv, ?_, by omega⟩
    have := h x.1 (hp x hx hv).1
    omega
def hasB (l : List Iv) (t : Int) : Bool := l.any fun x => validB x.1 x.2 && decide (x.1 ≤ t) && decide (t < x.2)
theorem hasB_iff (l : List Iv) (t : Int) : hasB l t = true ↔ Mem l t := by
  simp only [hasB, List.any_eq_true, Bool.and_eq_true, decide_eq_true_eq, Mem, validB_iff, and_assoc]
/-- the reference's combination: 1 either, 2 both, else the first without the second -/
def inB (a b : List Iv) (way : Int) (t : Int) : Bool := if way = 1 then hasB a t || hasB b t else if way = 2 then hasB a t && hasB b t else hasB a t && !hasB b t
def In (a b : List Iv) (way : Int) (t : Int) : Prop := if way = 1 then Mem a t ∨ Mem b t else if way = 2 then Mem a t ∧ Mem b t else Mem a t ∧ ¬ Mem b t
theorem inB_iff (a b : List Iv) (way t : Int) : inB a b way t = true ↔ In a b way t := by
  unfold inB In
  split
  · simp [hasB_iff]
  · split
    · simp [hasB_iff]
    · have := hasB_iff b t
      cases hb : hasB b t <;> simp [hb] at this <;> simp [hasB_iff, this]
def combL (a b : List Iv) (way : Int) : List Iv := segL (inB a b way) (endsL b (endsL a []))
theorem combL_holds (a b : List Iv) (way : Int) : NF (combL a b way) ∧ ∀ t, Mem (combL a b way) t ↔ In a b way t := by
  obtain ⟨h1, h2⟩ := endsL_law a [] (by simp [Asc])
  obtain ⟨h3, h4⟩ := endsL_law b (endsL a []) h1
  have hpa : ∀ x ∈ a, vld x → x.1 ∈ endsL b (endsL a []) ∧ x.2 ∈ endsL b (endsL a []) := fun x hx hv =>
    ⟨(h4 _).2 (.inl ((h2 _).2 (.inr ⟨x, hx, hv, .inl rfl⟩))), (h4 _).2 (.inl ((h2 _).2 (.inr ⟨x, hx, hv, .inr rfl⟩)))⟩
  have hpb : ∀ x ∈ b, vld x → x.1 ∈ endsL b (endsL a []) ∧ x.2 ∈ endsL b (endsL a []) := fun x hx hv =>
    ⟨(h4 _).2 (.inr ⟨x, hx, hv, .inl rfl⟩), (h4 _).2 (.inr ⟨x, hx, hv, .inr rfl⟩)⟩
  refine segL_holds (S := In a b way) (inB_iff a b way) h3 ?_ ?_ ?_ ?_
  · intro p hp
    have hv : ∀ x : Iv, vld x → (p = x.1 ∨ p = x.2) → 0 ≤ p ∧ p ≤ 68719476736 := by
      intro x hx hh; unfold vld at hx; omega
    rcases (h4 p).1 hp with hp | ⟨x, _, hx, hh⟩
    · rcases (h2 p).1 hp with hp | ⟨x, _, hx, hh⟩
      · simp at hp
      · exact hv x hx hh
    · exact hv x hx hh
  · intro t u htu h
    have ea := mem_const a _ hpa t u htu h
    have eb := mem_const b _ hpb t u htu h
    unfold In
    split
    · rw [ea, eb]
    · split
      · rw [ea, eb]
      · rw [ea, eb]
  · have ha : ¬ Mem a (-1) := fun h => by have := h.range; omega
    have hb : ¬ Mem b (-1) := fun h => by have := h.range; omega
    unfold In
    split
    · simp [ha, hb]
    · split <;> simp [ha]
  · have ha : ¬ Mem a 68719476736 := fun h => by have := h.range; omega
    have hb : ¬ Mem b 68719476736 := fun h => by have := h.range; omega
    unfold In
    split
    · simp [ha, hb]
    · split <;> simp [ha]
end Go.Proofs.YtcpfiiapfggmpaaGreat
