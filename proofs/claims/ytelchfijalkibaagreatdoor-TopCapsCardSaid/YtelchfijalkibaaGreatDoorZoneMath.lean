/- Weekly windows and the times that they hold: the plain mathematics of chapter 26. No program in sight. -/
import Derived.Test.YtelchfijalkibaaGreatDoorSpanMath
namespace Go.Proofs.YtelchfijalkibaaGreatDoor

/-- days, from, to -/
abbrev Wn := Int × Int × Int
def vw (x : Wn) : Bool := decide (1 ≤ x.1 ∧ x.1 ≤ 127 ∧ 0 ≤ x.2.1 ∧ x.2.1 < x.2.2 ∧ x.2.2 ≤ 1440)
theorem vw_iff (x : Wn) : vw x = true ↔ 1 ≤ x.1 ∧ x.1 ≤ 127 ∧ 0 ≤ x.2.1 ∧ x.2.1 < x.2.2 ∧ x.2.2 ≤ 1440 := by simp [vw]
def onD (days d : Int) : Bool := decide (days / 2 ^ (d % 7).toNat % 2 = 1)
theorem onD_week (days d : Int) (k : Int) : onD days (d + 7 * k) = onD days d := by
  unfold onD
  rw [show (d + 7 * k) % 7 = d % 7 by omega]
def wAt (x : Wn) (t : Int) : Prop := vw x = true ∧ onD x.1 (t / 86400) = true ∧ 60 * x.2.1 ≤ t % 86400 ∧ t % 86400 < 60 * x.2.2
instance (x : Wn) (t : Int) : Decidable (wAt x t) := by unfold wAt; infer_instance
def hoursP (hs : List Wn) (t : Int) : Prop := hs = [] ∨ ∃ x ∈ hs, wAt x t
def hoursB (hs : List Wn) (t : Int) : Bool := hs.isEmpty || hs.any fun x => decide (wAt x t)
theorem hoursB_iff (hs : List Wn) (t : Int) : hoursB hs t = true ↔ hoursP hs t := by simp [hoursB, hoursP]
def openP (hs : List Wn) (t : Int) : Prop := (0 ≤ t ∧ t < 68719476736) ∧ hoursP hs t
def openB (hs : List Wn) (t : Int) : Bool := decide (0 ≤ t ∧ t < 68719476736) && hoursB hs t
/-! ### joining segments -/
def jn (out : List Iv) (s : Iv) : List Iv := segStep (fun _ => true) out s
theorem SInv.none {S : Int → Prop} {out : List Iv} {a b : Int} (h : SInv S out a) (hab : a ≤ b) (hS : ∀ t, a ≤ t → t < b → ¬ S t) : SInv S out b := by
  obtain ⟨h1, h2, h3⟩ := h
  refine ⟨h1, fun x hx => by have := h2 x hx; omega, fun t => ?_⟩
  rw [h3]
  constructor
  · rintro ⟨p, q⟩; exact ⟨p, by omega⟩
  · rintro ⟨p, q⟩
    refine ⟨p, ?_⟩
    rcases (by omega : t < a ∨ a ≤ t) with k | k
    · exact k
    · exact absurd p (hS t k q)
theorem SInv.some {S : Int → Prop} {out : List Iv} {a b f u : Int} (h : SInv S out a) (haf : a ≤ f) (hfu : f < u) (hub : u ≤ b) (h0 : 0 ≤ a) (hu : u ≤ 68719476736)
    (hS : ∀ t, a ≤ t → t < b → (S t ↔ f ≤ t ∧ t < u)) : SInv S (jn out (f, u)) b := by
  have h1 := h.none haf fun t p q => by rw [hS t p (by omega)]; omega
  have h2 := h1.step (c := fun _ => true) hfu (by simp; exact (hS f haf (by omega)).2 ⟨by omega, hfu⟩) (by omega) hu (fun t p q => by rw [hS t (by omega) (by omega), hS f haf (by omega)]; omega)
  exact h2.none hub fun t p q => by rw [hS t (by omega) q]; omega

/-! ### one window in one interval -/
def Sw (x : Wn) (i : Iv) (t : Int) : Prop := i.1 ≤ t ∧ t < i.2 ∧ wAt x t
theorem Sw.start (x : Wn) (i : Iv) : SInv (Sw x i) [] (86400 * (i.1 / 86400)) := by
  refine ⟨NF.nil, by simp, fun t => ?_⟩
  simp only [Mem.nil, false_iff]
  rintro ⟨⟨p, _⟩, q⟩
  omega
theorem Sw.finish {x : Wn} {i : Iv} {out : List Iv} {d : Int} (h : SInv (Sw x i) out (86400 * d)) (hd : (i.2 - 1) / 86400 < d) : NF out ∧ ∀ t, Mem out t ↔ Sw x i t :=
  ⟨h.1, fun t => by rw [h.2.2]; exact ⟨fun p => p.1, fun p => ⟨p, by have := p.2.1; omega⟩⟩⟩
theorem Sw.off {x : Wn} {i : Iv} {out : List Iv} {d : Int} (h : SInv (Sw x i) out (86400 * d)) (hon : onD x.1 d = false) : SInv (Sw x i) out (86400 * (d + 1)) := by
  refine h.none (by omega) fun t p q => ?_
  rintro ⟨_, _, _, k, _⟩
  rw [show t / 86400 = d by omega, hon] at k
  cases k
theorem Sw.iff {x : Wn} {i : Iv} {d : Int} (hv : vw x = true) (hon : onD x.1 d = true) {t : Int} (p : 86400 * d ≤ t) (q : t < 86400 * (d + 1)) :
    Sw x i t ↔ max i.1 (d * 86400 + x.2.1 * 60) ≤ t ∧ t < min i.2 (d * 86400 + x.2.2 * 60) := by
  unfold Sw wAt
  have e1 : t / 86400 = d := by omega
  have e2 : t % 86400 = t - 86400 * d := by omega
  rw [e1, e2]
  simp only [hv, hon, true_and]
  omega
theorem Sw.empty {x : Wn} {i : Iv} {out : List Iv} {d : Int} (h : SInv (Sw x i) out (86400 * d)) (hv : vw x = true) (hon : onD x.1 d = true)
    (hge : ¬ max i.1 (d * 86400 + x.2.1 * 60) < min i.2 (d * 86400 + x.2.2 * 60)) : SInv (Sw x i) out (86400 * (d + 1)) := by
  refine h.none (by omega) fun t p q => ?_
  rw [Sw.iff hv hon p q]
  omega
theorem Sw.add {x : Wn} {i : Iv} {out : List Iv} {d : Int} (h : SInv (Sw x i) out (86400 * d)) (hv : vw x = true) (hon : onD x.1 d = true) (hd : 0 ≤ d) (hi : i.2 ≤ 68719476736)
    (hlt : max i.1 (d * 86400 + x.2.1 * 60) < min i.2 (d * 86400 + x.2.2 * 60)) : SInv (Sw x i) (jn out (max i.1 (d * 86400 + x.2.1 * 60), min i.2 (d * 86400 + x.2.2 * 60))) (86400 * (d + 1)) := by
  have hw := (vw_iff x).1 hv
  exact h.some (by omega) hlt (by omega) (by omega) (by omega) fun t p q => Sw.iff hv hon p q

/-! ### all hours in one interval, by cuts -/
def Sh (hs : List Wn) (i : Iv) (t : Int) : Prop := i.1 ≤ t ∧ t < i.2 ∧ hoursP hs t
theorem Sh.start (hs : List Wn) (i : Iv) : SInv (Sh hs i) [] (86400 * (i.1 / 86400)) := by
  refine ⟨NF.nil, by simp, fun t => ?_⟩
  simp only [Mem.nil, false_iff]
  rintro ⟨⟨p, _⟩, q⟩
  omega
theorem Sh.finish {hs : List Wn} {i : Iv} {out : List Iv} {d : Int} (h : SInv (Sh hs i) out (86400 * d)) (hd : (i.2 - 1) / 86400 < d) : NF out ∧ ∀ t, Mem out t ↔ Sh hs i t :=
  ⟨h.1, fun t => by rw [h.2.2]; exact ⟨fun p => p.1, fun p => ⟨p, by have := p.2.1; omega⟩⟩⟩
def isCut (hs : List Wn) (m : Int) : Bool := decide (m = 0) || hs.any fun x => decide (x.2.1 = m) || decide (x.2.2 = m)
def cutsL (hs : List Wn) (n : Nat) : List Int := ((List.range n).filter fun m : Nat => isCut hs (m : Int)).map fun m : Nat => (m : Int)
theorem cutsL_mem (hs : List Wn) (n : Nat) (m : Int) : m ∈ cutsL hs n ↔ 0 ≤ m ∧ m < n ∧ isCut hs m = true := by
  unfold cutsL
  simp only [List.mem_map, List.mem_filter, List.mem_range]
  constructor
  · rintro ⟨k, ⟨h1, h2⟩, rfl⟩; exact ⟨by omega, by omega, h2⟩
  · rintro ⟨h1, h2, h3⟩; exact ⟨m.toNat, ⟨by omega, by rw [show ((m.toNat : Nat) : Int) = m by omega]; exact h3⟩, by omega⟩
def cutsA (hs : List Wn) : List Int := cutsL hs 1440 ++ [1440]
theorem cutsA_asc (hs : List Wn) : (cutsA hs).Pairwise (· < ·) := by
  unfold cutsA
  rw [List.pairwise_append]
  refine ⟨?_, by simp, fun a ha b hb => ?_⟩
  · unfold cutsL
    rw [List.pairwise_map]
    refine ((List.pairwise_lt_range (n := 1440)).filter _).imp ?_
    intro a b h
    omega
  · have := (cutsL_mem hs 1440 a).1 ha
    simp at hb
    omega
theorem cutsA_mem (hs : List Wn) (m : Int) : m ∈ cutsA hs ↔ (0 ≤ m ∧ m < 1440 ∧ isCut hs m = true) ∨ m = 1440 := by
  unfold cutsA
  rw [List.mem_append, cutsL_mem]
  simp
theorem cutsA_range {hs : List Wn} {m : Int} (h : m ∈ cutsA hs) : 0 ≤ m ∧ m ≤ 1440 := by
  rcases (cutsA_mem hs m).1 h with h | h <;> omega
theorem asc_between {l : List Int} (h : l.Pairwise (· < ·)) {k : Nat} {p q : Int} (hp : l[k]? = Option.some p) (hq : l[k + 1]? = Option.some q) : p < q ∧ ∀ x ∈ l, x ≤ p ∨ q ≤ x := by
  have hk := (List.getElem?_eq_some_iff.1 hp)
  have hk1 := (List.getElem?_eq_some_iff.1 hq)
  obtain ⟨h1, h2⟩ := hk
  obtain ⟨h3, h4⟩ := hk1
  rw [List.pairwise_iff_getElem] at h
  refine ⟨by rw [← h2, ← h4]; exact h _ _ _ _ (by omega), fun x hx => ?_⟩
  obtain ⟨j, hj, rfl⟩ := List.getElem_of_mem hx
  rcases (by omega : j < k ∨ j = k ∨ j = k + 1 ∨ k + 1 < j) with e | e | e | e
  · left; rw [← h2]; exact Int.le_of_lt (h _ _ _ _ e)
  · subst e; left; omega
  · subst e; right; omega
  · right; rw [← h4]; exact Int.le_of_lt (h _ _ _ _ e)
theorem hours_const {hs : List Wn} {k : Nat} {p q : Int} (hp : (cutsA hs)[k]? = Option.some p) (hq : (cutsA hs)[k + 1]? = Option.some q) {d t : Int} (h1 : 86400 * d + 60 * p ≤ t) (h2 : t < 86400 * d + 60 * q) :
    hoursP hs t ↔ hoursP hs (86400 * d + 60 * p) := by
  obtain ⟨hpq, hb⟩ := asc_between (cutsA_asc hs) hp hq
  have rp := cutsA_range (List.mem_of_getElem? hp)
  have rq := cutsA_range (List.mem_of_getElem? hq)
  have key : ∀ x ∈ hs, (wAt x t ↔ wAt x (86400 * d + 60 * p)) := by
    intro x hx
    unfold wAt
    have e1 : t / 86400 = d := by omega
    have e2 : t % 86400 = t - 86400 * d := by omega
    have e3 : (86400 * d + 60 * p) / 86400 = d := by omega
    have e4 : (86400 * d + 60 * p) % 86400 = 60 * p := by omega
    rw [e1, e2, e3, e4]
    refine and_congr_right fun hv => and_congr_right fun _ => ?_
    have hw := (vw_iff x).1 hv
    have c1 : x.2.1 ∈ cutsA hs := (cutsA_mem hs _).2 (.inl ⟨by omega, by omega, by simp only [isCut, Bool.or_eq_true, decide_eq_true_eq, List.any_eq_true]; exact .inr ⟨x, hx, .inl rfl⟩⟩)
    have c2 : x.2.2 ∈ cutsA hs := (cutsA_mem hs _).2 (by
      rcases (by omega : x.2.2 < 1440 ∨ x.2.2 = 1440) with e | e
      · exact .inl ⟨by omega, e, by simp only [isCut, Bool.or_eq_true, decide_eq_true_eq, List.any_eq_true]; exact .inr ⟨x, hx, .inr rfl⟩⟩
      · exact .inr e)
    have b1 := hb _ c1
    have b2 := hb _ c2
    omega
  unfold hoursP
  constructor
  · rintro (h | ⟨x, hx, h⟩)
    · exact .inl h
    · exact .inr ⟨x, hx, (key x hx).1 h⟩
  · rintro (h | ⟨x, hx, h⟩)
    · exact .inl h
    · exact .inr ⟨x, hx, (key x hx).2 h⟩
/-- one segment of the reference's loop -/
theorem Sh.no {hs : List Wn} {i : Iv} {out : List Iv} {k : Nat} {p q d : Int} (hp : (cutsA hs)[k]? = Option.some p) (hq : (cutsA hs)[k + 1]? = Option.some q)
    (h : SInv (Sh hs i) out (86400 * d + 60 * p)) (hn : hoursB hs (86400 * d + 60 * p) = false ∨ 86400 * d + 60 * q ≤ i.1 ∨ i.2 ≤ 86400 * d + 60 * p) : SInv (Sh hs i) out (86400 * d + 60 * q) := by
  have hpq := (asc_between (cutsA_asc hs) hp hq).1
  refine h.none (by omega) fun t h1 h2 => ?_
  rintro ⟨a, b, c⟩
  rcases hn with hn | hn | hn
  · have := (hoursB_iff _ _).2 ((hours_const hp hq h1 h2).1 c)
    rw [hn] at this
    cases this
  · omega
  · omega
theorem Sh.add {hs : List Wn} {i : Iv} {out : List Iv} {k : Nat} {p q d f u : Int} (hp : (cutsA hs)[k]? = Option.some p) (hq : (cutsA hs)[k + 1]? = Option.some q)
    (h : SInv (Sh hs i) out (86400 * d + 60 * p)) (hy : hoursB hs (86400 * d + 60 * p) = true) (hi : i.1 < i.2) (hd : 0 ≤ d) (hM : i.2 ≤ 68719476736) (h1 : i.1 < 86400 * d + 60 * q) (h2 : 86400 * d + 60 * p < i.2)
    (hf : f = if 86400 * d + 60 * p < i.1 then i.1 else 86400 * d + 60 * p) (hu : u = if i.2 < 86400 * d + 60 * q then i.2 else 86400 * d + 60 * q) : SInv (Sh hs i) (jn out (f, u)) (86400 * d + 60 * q) := by
  have hpq := (asc_between (cutsA_asc hs) hp hq).1
  have rp := cutsA_range (List.mem_of_getElem? hp)
  have hfu : (86400 * d + 60 * p ≤ f ∧ i.1 ≤ f ∧ (f = i.1 ∨ f = 86400 * d + 60 * p)) ∧ (u ≤ i.2 ∧ u ≤ 86400 * d + 60 * q ∧ (u = i.2 ∨ u = 86400 * d + 60 * q)) := by
    subst hf hu
    constructor
    · split <;> omega
    · split <;> omega
  have hy' := (hoursB_iff _ _).1 hy
  refine h.some (by omega) (by omega) (by omega) (by omega) (by omega) fun t a b => ?_
  unfold Sh
  constructor
  · rintro ⟨x, y, _⟩; omega
  · rintro ⟨x, y⟩; exact ⟨by omega, by omega, (hours_const hp hq a b).2 hy'⟩

/-! ### the next open time -/
def atP (d t : Int) (x : Wn) : Prop := onD x.1 d = true ∧ t ≤ 86400 * d + 60 * x.2.1
def fstep (d t f : Int) (x : Wn) : Int := if onD x.1 d = true ∧ t ≤ 86400 * d + 60 * x.2.1 ∧ (f < 0 ∨ 86400 * d + 60 * x.2.1 < f) then 86400 * d + 60 * x.2.1 else f
def firstF (d t : Int) (vs : List Wn) : Int := vs.foldl (fstep d t) (-1)
theorem firstF_snoc (d t : Int) (vs : List Wn) (x : Wn) : firstF d t (vs ++ [x]) = fstep d t (firstF d t vs) x := by simp [firstF]
theorem firstF_law {d t : Int} (ht : 0 ≤ t) (vs : List Wn) :
    (firstF d t vs = -1 ∧ ∀ x ∈ vs, ¬ atP d t x) ∨ ((∃ x ∈ vs, atP d t x ∧ firstF d t vs = 86400 * d + 60 * x.2.1) ∧ ∀ x ∈ vs, atP d t x → firstF d t vs ≤ 86400 * d + 60 * x.2.1) := by
  have key : ∀ (n : Nat) (vs : List Wn), vs.length = n → (firstF d t vs = -1 ∧ ∀ x ∈ vs, ¬ atP d t x) ∨ ((∃ x ∈ vs, atP d t x ∧ firstF d t vs = 86400 * d + 60 * x.2.1) ∧ ∀ x ∈ vs, atP d t x → firstF d t vs ≤ 86400 * d + 60 * x.2.1) := by
    intro n
    induction n with
    | zero => intro vs h; left; have := List.eq_nil_of_length_eq_zero h; subst this; exact ⟨rfl, by simp⟩
    | succ n ih =>
      intro vs h
      rcases List.eq_nil_or_concat vs with rfl | ⟨vs, y, rfl⟩
      · simp at h
      · rw [List.concat_eq_append] at *
        have ih := ih vs (by simp at h; exact h)
        rw [firstF_snoc]
        unfold fstep
        rcases ih with ⟨e, hn⟩ | ⟨⟨z, hz, hza, e⟩, hmin⟩
        · rw [e]
          by_cases hy : atP d t y
          · right
            rw [if_pos ⟨hy.1, hy.2, .inl (by omega)⟩]
            refine ⟨⟨y, by simp, hy, rfl⟩, fun x hx hxa => ?_⟩
            rw [List.mem_append] at hx
            rcases hx with hx | hx
            · exact absurd hxa (hn x hx)
            · simp at hx; subst hx; omega
          · left
            rw [if_neg (fun k => hy ⟨k.1, k.2.1⟩)]
            refine ⟨rfl, fun x hx => ?_⟩
            rw [List.mem_append] at hx
            rcases hx with hx | hx
            · exact hn x hx
            · simp at hx; subst hx; exact hy
        · right
          have hz0 := hza.2
          by_cases hy : atP d t y ∧ 86400 * d + 60 * y.2.1 < firstF d t vs
          · rw [if_pos ⟨hy.1.1, hy.1.2, .inr hy.2⟩]
            refine ⟨⟨y, by simp, hy.1, rfl⟩, fun x hx hxa => ?_⟩
            rw [List.mem_append] at hx
            rcases hx with hx | hx
            · have := hmin x hx hxa; omega
            · simp at hx; subst hx; omega
          · rw [if_neg (fun k => hy ⟨⟨k.1, k.2.1⟩, by rcases k.2.2 with c | c <;> omega⟩)]
            refine ⟨⟨z, by simp [hz], hza, e⟩, fun x hx hxa => ?_⟩
            rw [List.mem_append] at hx
            rcases hx with hx | hx
            · exact hmin x hx hxa
            · simp at hx
              subst hx
              rcases (by omega : 86400 * d + 60 * x.2.1 < firstF d t vs ∨ firstF d t vs ≤ 86400 * d + 60 * x.2.1) with c | c
              · exact absurd ⟨hxa, c⟩ hy
              · exact c
  exact key _ vs rfl
/-- what Next says -/
def NextP (hs : List Wn) (t n : Int) (ok : Bool) : Prop :=
  (¬ (0 ≤ t ∧ t < 68719476736) → n = 0 ∧ ok = false) ∧
  (0 ≤ t ∧ t < 68719476736 → (ok = true → openP hs n ∧ t ≤ n ∧ ∀ x, t ≤ x → x < n → ¬ openP hs x) ∧ (ok = false → n = 0 ∧ ∀ x, t ≤ x → ¬ openP hs x))
theorem NextP.unique {hs : List Wn} {t n m : Int} {a b : Bool} (h : NextP hs t n a) (k : NextP hs t m b) : n = m ∧ a = b := by
  by_cases ht : 0 ≤ t ∧ t < 68719476736
  · have h := h.2 ht
    have k := k.2 ht
    cases a <;> cases b
    · exact ⟨by rw [(h.2 rfl).1, (k.2 rfl).1], rfl⟩
    · exact absurd (k.1 rfl).1 ((h.2 rfl).2 m (k.1 rfl).2.1)
    · exact absurd (h.1 rfl).1 ((k.2 rfl).2 n (h.1 rfl).2.1)
    · refine ⟨?_, rfl⟩
      obtain ⟨h1, h2, h3⟩ := h.1 rfl
      obtain ⟨k1, k2, k3⟩ := k.1 rfl
      rcases Int.lt_trichotomy n m with e | e | e
      · exact absurd h1 (k3 n h2 e)
      · exact e
      · exact absurd k1 (h3 m k2 e)
  · obtain ⟨h1, h2⟩ := h.1 ht
    obtain ⟨k1, k2⟩ := k.1 ht
    exact ⟨by rw [h1, k1], by rw [h2, k2]⟩
theorem NextP.out {hs : List Wn} {t : Int} (h : ¬ (0 ≤ t ∧ t < 68719476736)) : NextP hs t 0 false := ⟨fun _ => ⟨rfl, rfl⟩, fun k => absurd k h⟩
theorem NextP.now {hs : List Wn} {t : Int} (h : openP hs t) : NextP hs t t true := ⟨fun k => absurd h.1 k, fun _ => ⟨fun _ => ⟨h, Int.le_refl _, fun x h1 h2 => by omega⟩, fun k => by cases k⟩⟩
theorem at_open {hs : List Wn} {d t : Int} (ht : 0 ≤ t) {y : Wn} (hy : y ∈ hs) (hv : vw y = true) (ha : atP d t y) (hM : 86400 * d + 60 * y.2.1 < 68719476736) : openP hs (86400 * d + 60 * y.2.1) := by
  have hw := (vw_iff y).1 hv
  have := ha.2
  have e1 : (86400 * d + 60 * y.2.1) / 86400 = d := by omega
  have e2 : (86400 * d + 60 * y.2.1) % 86400 = 60 * y.2.1 := by omega
  exact ⟨by omega, .inr ⟨y, hy, hv, by rw [e1]; exact ha.1, by omega, by omega⟩⟩
/-- day d was reached: nothing on the days before it -/
def NextI (hs : List Wn) (t d : Int) : Prop := t / 86400 ≤ d ∧ ∀ e, t / 86400 ≤ e → e < d → ∀ y ∈ hs, vw y = true → ¬ atP e t y
theorem NextI.start (hs : List Wn) (t : Int) : NextI hs t (t / 86400) := ⟨Int.le_refl _, fun e h1 h2 => by omega⟩
theorem filter_vw {hs : List Wn} {y : Wn} : y ∈ hs.filter vw ↔ y ∈ hs ∧ vw y = true := List.mem_filter
theorem NextI.step {hs : List Wn} {t d : Int} (h : NextI hs t d) (ht : 0 ≤ t) (hf : firstF d t (hs.filter vw) < 0) : NextI hs t (d + 1) := by
  refine ⟨by have := h.1; omega, fun e h1 h2 y hy hv ha => ?_⟩
  rcases (by omega : e < d ∨ e = d) with k | rfl
  · exact h.2 e h1 k y hy hv ha
  · rcases firstF_law (d := e) ht (hs.filter vw) with ⟨_, hn⟩ | ⟨⟨x, hx, hxa, ex⟩, _⟩
    · exact hn y (filter_vw.2 ⟨hy, hv⟩) ha
    · have := hxa.2; omega
/-- an open time, a week earlier -/
theorem open_week {hs : List Wn} {x : Int} (hx : openP hs x) (h : 604800 ≤ x) : openP hs (x - 604800) := by
  obtain ⟨hr, hx⟩ := hx
  refine ⟨by omega, ?_⟩
  rcases hx with hx | ⟨y, hy, hv, ho, h1, h2⟩
  · exact .inl hx
  · have e := onD_week y.1 (x / 86400) (-1)
    refine .inr ⟨y, hy, hv, ?_, by omega, by omega⟩
    rw [show (x - 604800) / 86400 = x / 86400 + 7 * (-1) by omega, e]
    exact ho
theorem NextP.week {hs : List Wn} {t n : Int} (h : NextP hs t n true) (ht : 0 ≤ t ∧ t < 68719476736) : n - t ≤ 604800 := by
  obtain ⟨h1, h2, h3⟩ := (h.2 ht).1 rfl
  rcases (by omega : n - t ≤ 604800 ∨ 604800 < n - t) with k | k
  · exact k
  · exact absurd (open_week h1 (by omega)) (h3 _ (by omega) (by omega))
theorem onD_some {days : Int} (h1 : 1 ≤ days) (h2 : days ≤ 127) : ∃ k : Int, 0 ≤ k ∧ k < 7 ∧ onD days k = true := by
  have key : ∀ n : Fin 128, 1 ≤ n.1 → ∃ k : Fin 7, n.1 / 2 ^ k.1 % 2 = 1 := by decide
  obtain ⟨k, hk⟩ := key ⟨days.toNat, by omega⟩ (by simp; omega)
  refine ⟨(k.1 : Int), by omega, by omega, ?_⟩
  unfold onD
  rw [show ((k.1 : Int) % 7).toNat = k.1 by omega, decide_eq_true_eq]
  have e : days = ((days.toNat : Nat) : Int) := by omega
  rw [e]
  simp only at hk
  exact_mod_cast hk
theorem NextP.some {hs : List Wn} {t : Int} (h0 : 0 ≤ t) (h1 : t < 68719476736 - 8 * 86400) (hv : ∀ x ∈ hs, vw x = true) : ¬ NextP hs t 0 false := by
  intro h
  have h := ((h.2 ⟨h0, by omega⟩).2 rfl).2
  cases hs with
  | nil => exact h t (Int.le_refl _) ⟨by omega, .inl rfl⟩
  | cons y l =>
    have hw := (vw_iff y).1 (hv y (by simp))
    obtain ⟨k, k0, k7, hk⟩ := onD_some hw.1 hw.2.1
    have e := onD_week y.1 k ((t / 86400 + 7 - k) / 7)
    have hd : t / 86400 < k + 7 * ((t / 86400 + 7 - k) / 7) := by omega
    exact h (86400 * (k + 7 * ((t / 86400 + 7 - k) / 7)) + 60 * y.2.1) (by omega) (at_open h0 (by simp) (hv y (by simp)) ⟨by rw [e]; exact hk, by omega⟩ (by omega))
end Go.Proofs.YtelchfijalkibaaGreatDoor
