/- The reference's counting of seconds, day by day: plain mathematics. No program in sight. -/
import Derived.Test.YtfilfdkbchkpmaaParkFee
namespace Go.Proofs.Ytfilfdkbchkpmaa

theorem lenB_congr {l : List Iv} {s t : Int} (h : ∀ x ∈ l, (if s ≤ x.1 then 0 else min x.2 s - x.1) = (if t ≤ x.1 then 0 else min x.2 t - x.1)) : lenB l s = lenB l t := by
  unfold lenB
  congr 1
  exact List.map_congr_left h
theorem lenB_mono {s t : Int} (hst : s ≤ t) : ∀ {l : List Iv}, (∀ x ∈ l, x.1 ≤ x.2) → lenB l s ≤ lenB l t
  | [], _ => Int.le_refl _
  | x :: l, h => by
    rw [lenB_cons, lenB_cons]
    have a := lenB_mono hst (l := l) fun y hy => h y (by simp [hy])
    have b := h x (by simp)
    split <;> split <;> omega
theorem lenB_nonneg {t : Int} : ∀ {l : List Iv}, (∀ x ∈ l, x.1 ≤ x.2) → 0 ≤ lenB l t
  | [], _ => Int.le_refl _
  | x :: l, h => by
    rw [lenB_cons]
    have a := lenB_nonneg (t := t) (l := l) fun y hy => h y (by simp [hy])
    have b := h x (by simp)
    split <;> omega
theorem lenB_late {t : Int} {l : List Iv} (h : ∀ x ∈ l, t ≤ x.1) : lenB l t = 0 := by
  induction l with
  | nil => rfl
  | cons x l ih =>
    rw [lenB_cons, ih fun y hy => h y (by simp [hy]), if_pos (h x (by simp))]
    rfl
theorem NF.le {l : List Iv} (h : NF l) : ∀ x ∈ l, x.1 ≤ x.2 := fun x hx => by have := h.1 x hx; unfold vld at this; omega
/-- what comes behind the k-th begins behind its end -/
theorem NF.behind {l : List Iv} (h : NF l) {k : Nat} {x : Iv} (hx : l[k]? = some x) : ∀ y ∈ l.drop (k + 1), x.2 < y.1 := by
  have := h.drop k
  rw [drop_get hx] at this
  exact ((NF.cons_iff _ _).1 this).2.1
/-- before a day that begins at T: k intervals lie behind, s seconds are counted -/
def DO (l : List Iv) (T : Int) (k : Nat) (s : Int) : Prop := k ≤ l.length ∧ s = lenB l T ∧ (∀ x ∈ l.take k, x.2 ≤ T) ∧ ∀ x, l[k]? = some x → T < x.2
/-- within the day from T to E -/
def DI (l : List Iv) (T E : Int) (k : Nat) (s : Int) : Prop := k ≤ l.length ∧ s = lenB (l.take k) E + lenB (l.drop k) T ∧ (∀ x ∈ l.take k, x.2 ≤ E) ∧ ∀ x, l[k]? = some x → T < x.2
theorem lenB_split (l : List Iv) (k : Nat) (t : Int) : lenB l t = lenB (l.take k) t + lenB (l.drop k) t := by rw [← lenB_append, List.take_append_drop]
theorem DO.first {l : List Iv} {T : Int} (h : ∀ x ∈ l, T ≤ x.1 ∧ x.1 < x.2) : DO l T 0 0 := by
  refine ⟨Nat.zero_le _, (lenB_late fun x hx => (h x hx).1).symm, by simp, fun x hx => ?_⟩
  have := h x (List.mem_of_getElem? hx)
  omega
theorem DO.start {l : List Iv} {T E : Int} {k : Nat} {s : Int} (hn : NF l) (h : DO l T k s) (hTE : T ≤ E) : DI l T E k s := by
  obtain ⟨h1, h2, h3, h4⟩ := h
  refine ⟨h1, ?_, fun x hx => by have := h3 x hx; omega, h4⟩
  rw [h2, lenB_split l k T]
  congr 1
  refine lenB_congr fun x hx => ?_
  have := h3 x hx
  have v := hn.1 x (List.mem_of_mem_take hx)
  unfold vld at v
  split <;> split <;> omega
theorem DI.range {l : List Iv} {T E : Int} {k : Nat} {s : Int} (hn : NF l) (hTE : T ≤ E) (h : DI l T E k s) : 0 ≤ s ∧ s ≤ lenB l E := by
  obtain ⟨h1, h2, h3, h4⟩ := h
  have a := lenB_nonneg (t := E) (l := l.take k) fun x hx => hn.le x (List.mem_of_mem_take hx)
  have b := lenB_nonneg (t := T) (l := l.drop k) fun x hx => hn.le x (List.mem_of_mem_drop hx)
  have c := lenB_mono hTE (l := l.drop k) fun x hx => hn.le x (List.mem_of_mem_drop hx)
  rw [lenB_split l k E]
  omega
/-- the next interval begins within the day: its seconds -/
theorem DI.count {l : List Iv} {T E : Int} {k : Nat} {s : Int} {x : Iv} (h : DI l T E k s) (hx : l[k]? = some x) (hE : x.1 < E) : s + min x.2 E - max x.1 T = lenB (l.take (k + 1)) E + lenB (l.drop (k + 1)) T := by
  obtain ⟨h1, h2, h3, h4⟩ := h
  have hT := h4 x hx
  rw [h2, drop_get hx, take_snoc hx, lenB_cons, lenB_append, lenB_cons, lenB_nil, if_neg (by omega : ¬ E ≤ x.1)]
  split <;> omega
theorem DI.next {l : List Iv} {T E : Int} {k : Nat} {s : Int} {x : Iv} (hn : NF l) (h : DI l T E k s) (hx : l[k]? = some x) (hE : x.1 < E) (hu : x.2 ≤ E) : DI l T E (k + 1) (s + min x.2 E - max x.1 T) := by
  have hk : k < l.length := (List.getElem?_eq_some_iff.1 hx).1
  have hT := h.2.2.2 x hx
  refine ⟨hk, h.count hx hE, fun y hy => ?_, fun y hy => ?_⟩
  · rw [take_snoc hx, List.mem_append] at hy
    rcases hy with hy | hy
    · exact h.2.2.1 y hy
    · simp at hy; subst hy; exact hu
  · have a := hn.behind hx y (by rw [drop_get hy]; simp)
    have b := hn.1 y (List.mem_of_getElem? hy)
    unfold vld at b
    omega
theorem DI.stop {l : List Iv} {T E : Int} {k : Nat} {s : Int} {x : Iv} (hn : NF l) (hTE : T ≤ E) (h : DI l T E k s) (hx : l[k]? = some x) (hE : x.1 < E) (hu : E < x.2) : DO l E k (s + min x.2 E - max x.1 T) := by
  refine ⟨h.1, ?_, h.2.2.1, fun y hy => by rw [hx] at hy; obtain rfl := Option.some.inj hy; exact hu⟩
  rw [h.count hx hE, lenB_split l (k + 1) E]
  congr 1
  rw [lenB_late (t := T) fun y hy => by have := hn.behind hx y hy; omega, lenB_late (t := E) fun y hy => by have := hn.behind hx y hy; omega]
theorem DI.late {l : List Iv} {T E : Int} {k : Nat} {s : Int} (hn : NF l) (hTE : T ≤ E) (h : DI l T E k s) (hx : ∀ x, l[k]? = some x → E ≤ x.1) : DO l E k s := by
  have key : ∀ y ∈ l.drop k, E ≤ y.1 := by
    intro y hy
    by_cases hk : k < l.length
    · obtain ⟨x, hx'⟩ : ∃ x, l[k]? = some x := ⟨_, List.getElem?_eq_getElem hk⟩
      have a := hx x hx'
      rw [drop_get hx'] at hy
      simp only [List.mem_cons] at hy
      rcases hy with rfl | hy
      · exact a
      · have b := hn.behind hx' y hy
        have c := hn.1 x (List.mem_of_getElem? hx')
        unfold vld at c
        omega
    · rw [List.drop_eq_nil_of_le (by omega)] at hy
      simp at hy
  refine ⟨h.1, ?_, h.2.2.1, fun y hy => ?_⟩
  · rw [h.2.1, lenB_split l k E]
    congr 1
    rw [lenB_late key, lenB_late fun y hy => by have := key y hy; omega]
  · have a := hx y hy
    have b := hn.1 y (List.mem_of_getElem? hy)
    unfold vld at b
    omega
end Go.Proofs.Ytfilfdkbchkpmaa
