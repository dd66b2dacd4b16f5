/- Valid lists of accounts: what Check asks, and that Link and Unlink keep it. No program in sight. -/
import Derived.Test.YtfdnciijibiodaaAccMath
namespace Go.Proofs.Ytfdnciijibiodaa

theorem pairwise_take {α : Type} {R : α → α → Prop} : ∀ {l : List α}, l.Pairwise R ↔ ∀ i x, l[i]? = some x → ∀ y ∈ l.take i, R y x
  | [] => by simp
  | a :: l => by
    rw [List.pairwise_cons, pairwise_take (l := l)]
    constructor
    · rintro ⟨h1, h2⟩ i x hx y hy
      cases i with
      | zero => simp at hy
      | succ i =>
        simp at hx hy
        rcases hy with rfl | hy
        · exact h1 x (List.mem_of_getElem? hx)
        · exact h2 i x hx y hy
    · intro h
      refine ⟨fun x hx => ?_, fun i x hx y hy => h (i + 1) x (by simpa using hx) y (by simp; exact Or.inr hy)⟩
      obtain ⟨i, hi⟩ := List.getElem?_of_mem hx
      exact h (i + 1) x (by simpa using hi) a (by simp)
theorem firstE_zero {f : Nat → Int} {n : Nat} : firstE f n = 0 ↔ ∀ j, j < n → f j = 0 := by
  refine ⟨fun h => ?_, firstE_none⟩
  intro j
  induction j using Nat.strongRecOn with
  | _ j ih =>
    intro hj
    by_cases q : f j = 0
    · exact q
    · have := firstE_some (f := f) (n := n) (k := j) (fun i hi => ih i hi (by omega)) hj q
      omega

def VA (a : Av) : Prop := nameB a.name = true ∧ (emp a.ag = true ∨ nameB a.ag = true) ∧ a.os.length ≤ 64 ∧ (∀ o ∈ a.os, corrE o = 0) ∧ a.os.Pairwise fun x o => conB x o = false
def VL (l : List Av) : Prop := l.length ≤ 1024 ∧ (∀ a ∈ l, VA a) ∧ l.Pairwise fun b a => clash b a = false
theorem oneA_zero {os : List Ow} {i : Nat} {o : Ow} (h : os[i]? = some o) : oneA os i = 0 ↔ corrE o = 0 ∧ conL (os.take i) o = false := by
  unfold oneA
  rw [h]
  simp only
  by_cases q : corrE o = 0
  · rw [if_neg (by simp [q])]
    cases conL (os.take i) o <;> simp [q]
  · rw [if_pos q]
    simp [q]
theorem oneL_zero {l : List Av} {i : Nat} {a : Av} (h : l[i]? = some a) : oneL l i = 0 ↔ checkA a = 0 ∧ ((l.take i).any fun b => clash b a) = false := by
  unfold oneL
  rw [h]
  simp only
  by_cases q : checkA a = 0
  · rw [if_neg (by simp [q])]
    cases ((l.take i).any fun b => clash b a) <;> simp [q]
  · rw [if_pos q]
    simp [q]
theorem checkA_iff (a : Av) : checkA a = 0 ↔ VA a := by
  have hall : (firstE (oneA a.os) a.os.length = 0) ↔ (∀ o ∈ a.os, corrE o = 0) ∧ a.os.Pairwise fun x o => conB x o = false := by
    rw [firstE_zero, pairwise_take]
    constructor
    · intro h
      refine ⟨fun o ho => ?_, fun i x hx y hy => ?_⟩
      · obtain ⟨i, hi⟩ := List.getElem?_of_mem ho
        exact ((oneA_zero hi).1 (h i (List.getElem?_eq_some_iff.1 hi).1)).1
      · have := ((oneA_zero hx).1 (h i (List.getElem?_eq_some_iff.1 hx).1)).2
        unfold conL at this
        rw [List.any_eq_false] at this
        simpa using this y hy
    · rintro ⟨h1, h2⟩ i hi
      have hx := List.getElem?_eq_getElem hi
      refine (oneA_zero hx).2 ⟨h1 _ (List.mem_of_getElem? hx), ?_⟩
      unfold conL
      rw [List.any_eq_false]
      intro y hy
      simpa using h2 i _ hx y hy
  unfold checkA VA
  by_cases q1 : nameB a.name = false
  · rw [if_pos q1]; simp [q1]
  · rw [if_neg q1]
    rw [Bool.not_eq_false] at q1
    by_cases q2 : emp a.ag = false ∧ nameB a.ag = false
    · rw [if_pos q2]; simp [q2.1, q2.2]
    · rw [if_neg q2]
      have q2' : emp a.ag = true ∨ nameB a.ag = true := by
        cases h1 : emp a.ag <;> cases h2 : nameB a.ag <;> simp [h1, h2] at q2 ⊢
      by_cases q3 : 64 < a.os.length
      · rw [if_pos q3]; simp; omega
      · rw [if_neg q3, hall]
        exact ⟨fun h => ⟨q1, q2', by omega, h.1, h.2⟩, fun h => ⟨h.2.2.2.1, h.2.2.2.2⟩⟩
theorem checkL_iff (l : List Av) : checkL l = 0 ↔ VL l := by
  unfold checkL VL
  by_cases q : 1024 < l.length
  · rw [if_pos q]; simp; omega
  · rw [if_neg q, firstE_zero, pairwise_take]
    constructor
    · intro h
      refine ⟨by omega, fun a ha => ?_, fun i x hx y hy => ?_⟩
      · obtain ⟨i, hi⟩ := List.getElem?_of_mem ha
        exact (checkA_iff a).1 ((oneL_zero hi).1 (h i (List.getElem?_eq_some_iff.1 hi).1)).1
      · have := ((oneL_zero hx).1 (h i (List.getElem?_eq_some_iff.1 hx).1)).2
        rw [List.any_eq_false] at this
        simpa using this y hy
    · rintro ⟨_, h1, h2⟩ i hi
      have hx := List.getElem?_eq_getElem hi
      refine (oneL_zero hx).2 ⟨(checkA_iff _).2 (h1 _ (List.mem_of_getElem? hx)), ?_⟩
      rw [List.any_eq_false]
      intro y hy
      simpa using h2 i _ hx y hy

/-- the elements of one vehicle -/
theorem corr_yes {o : Ow} (h : corrE o = 0) : emp o.tag ≠ emp o.pl ∧ (emp o.tag = true ∨ tagB o.tag = true) ∧ (emp o.pl = true ∨ (plB o.pl = true ∧ plS o.pl = o.pl)) ∧ validB o.f o.t = true := by
  unfold corrE at h
  by_cases q1 : emp o.tag = emp o.pl
  · rw [if_pos q1] at h; cases h
  · rw [if_neg q1] at h
    by_cases q2 : emp o.tag = false ∧ tagB o.tag = false
    · rw [if_pos q2] at h; cases h
    · rw [if_neg q2] at h
      by_cases q3 : emp o.pl = false ∧ (plB o.pl && eqS (plS o.pl) o.pl) = false
      · rw [if_pos q3] at h; cases h
      · rw [if_neg q3] at h
        by_cases q4 : validB o.f o.t = false
        · rw [if_pos q4] at h; cases h
        · refine ⟨q1, ?_, ?_, by simpa using q4⟩
          · cases h1 : emp o.tag <;> cases h2 : tagB o.tag <;> simp [h1, h2] at q2 ⊢
          · cases h1 : emp o.pl
            · right
              have : (plB o.pl && eqS (plS o.pl) o.pl) = true := by
                cases h2 : (plB o.pl && eqS (plS o.pl) o.pl)
                · exact absurd ⟨h1, h2⟩ q3
                · rfl
              rw [Bool.and_eq_true, eqS_iff] at this
              exact this
            · exact Or.inl rfl
theorem tag_size {s : ByteArray} (h : tagB s = true) : s.size = 12 := by
  unfold tagB at h
  rw [Bool.and_eq_true, Bool.and_eq_true, decide_eq_true_eq] at h
  exact h.1.1
theorem plate_size {s : ByteArray} (h : plB s = true) (h2 : plS s = s) : s.size ≤ 10 := by
  have h3 := h
  unfold plB at h3
  rw [Bool.and_eq_true, Bool.and_eq_true, decide_eq_true_eq, decide_eq_true_eq] at h3
  rw [← h2]
  unfold plS
  rw [if_pos h]
  show (plOut s s.size).toArray.size ≤ 10
  rw [List.size_toArray]
  exact h3.2
/-- the vehicle of a right element -/
def vehO (o : Ow) : ByteArray := o.tag ++ o.pl
theorem emp_app (a b : ByteArray) (h : emp a = true) : a ++ b = b := by
  rw [emp_iff] at h
  subst h
  exact ByteArray.empty_append
theorem app_emp (a b : ByteArray) (h : emp b = true) : a ++ b = a := by
  rw [emp_iff] at h
  subst h
  exact ByteArray.append_empty
theorem matches_veh {o : Ow} (h : corrE o = 0) {v : ByteArray} (hv : emp v = false) : (eqS o.tag v || eqS o.pl v) = true ↔ vehO o = v := by
  obtain ⟨h1, -, -, -⟩ := corr_yes h
  unfold vehO
  rw [Bool.or_eq_true, eqS_iff, eqS_iff]
  cases ht : emp o.tag
  · have hp : emp o.pl = true := by cases hp : emp o.pl; (rw [ht, hp] at h1; exact absurd rfl h1); rfl
    rw [app_emp _ _ hp]
    refine ⟨fun q => ?_, Or.inl⟩
    rcases q with q | q
    · exact q
    · rw [q, hv] at hp; cases hp
  · rw [emp_app _ _ ht]
    refine ⟨fun q => ?_, Or.inr⟩
    rcases q with q | q
    · rw [q, hv] at ht; cases ht
    · exact q
theorem sameV_of {x o : Ow} (hx : corrE x = 0) (ho : corrE o = 0) (h : vehO x = vehO o) : sameV x o = true := by
  obtain ⟨h1, h2, h3, -⟩ := corr_yes hx
  obtain ⟨k1, k2, k3, -⟩ := corr_yes ho
  have tl : ∀ {p q : Ow}, emp p.tag = false → emp q.pl = false → (emp p.tag = true ∨ tagB p.tag = true) → (emp q.pl = true ∨ (plB q.pl = true ∧ plS q.pl = q.pl)) → p.tag = q.pl → False := by
    intro p q a b c d e
    rw [a] at c
    rw [b] at d
    have c := tag_size (by simpa using c)
    have d : plB q.pl = true ∧ plS q.pl = q.pl := by simpa using d
    have := plate_size d.1 d.2
    rw [← e] at this
    omega
  unfold vehO at h
  unfold sameV
  rw [Bool.and_eq_true, eqS_iff, eqS_iff]
  cases ha : emp x.tag <;> cases hb : emp o.tag
  · have pa : emp x.pl = true := by cases hp : emp x.pl; (rw [ha, hp] at h1; exact absurd rfl h1); rfl
    have pb : emp o.pl = true := by cases hp : emp o.pl; (rw [hb, hp] at k1; exact absurd rfl k1); rfl
    rw [app_emp _ _ pa, app_emp _ _ pb] at h
    exact ⟨h, by rw [(emp_iff _).1 pa, (emp_iff _).1 pb]⟩
  · have pa : emp x.pl = true := by cases hp : emp x.pl; (rw [ha, hp] at h1; exact absurd rfl h1); rfl
    have pb : emp o.pl = false := by cases hp : emp o.pl; rfl; (rw [hb, hp] at k1; exact absurd rfl k1)
    rw [app_emp _ _ pa, emp_app _ _ hb] at h
    exact absurd h (fun q => tl ha pb h2 k3 q)
  · have pa : emp x.pl = false := by cases hp : emp x.pl; rfl; (rw [ha, hp] at h1; exact absurd rfl h1)
    have pb : emp o.pl = true := by cases hp : emp o.pl; (rw [hb, hp] at k1; exact absurd rfl k1); rfl
    rw [emp_app _ _ ha, app_emp _ _ pb] at h
    exact absurd h.symm (fun q => tl hb pa k2 h3 q)
  · rw [emp_app _ _ ha, emp_app _ _ hb] at h
    exact ⟨by rw [(emp_iff _).1 ha, (emp_iff _).1 hb], h⟩
theorem owns_yes {v : ByteArray} {t : Int} {o : Ow} (h : ownsB v t o = true) : emp v = false ∧ (eqS o.tag v || eqS o.pl v) = true ∧ validB o.f o.t = true ∧ o.f ≤ t ∧ t < o.t := by
  unfold ownsB at h
  simp only [Bool.and_eq_true, decide_eq_true_eq, Bool.not_eq_true'] at h
  exact ⟨h.1.1, h.1.2, h.2.1.1, h.2.1.2, h.2.2⟩
/-- two right elements that give one vehicle at one time conflict -/
theorem owns_con {v : ByteArray} {t : Int} {x o : Ow} (hx : corrE x = 0) (ho : corrE o = 0) (h1 : ownsB v t x = true) (h2 : ownsB v t o = true) : conB x o = true := by
  obtain ⟨a1, a2, a3, a4, a5⟩ := owns_yes h1
  obtain ⟨-, b2, b3, b4, b5⟩ := owns_yes h2
  have e1 := (matches_veh hx a1).1 a2
  have e2 := (matches_veh ho a1).1 b2
  unfold conB overl
  rw [sameV_of hx ho (e1.trans e2.symm), a3, b3]
  simp; omega
theorem conB_symm (x o : Ow) : conB x o = conB o x := by
  unfold conB sameV overl
  rw [eqS_comm x.tag, eqS_comm x.pl, Bool.eq_iff_iff]
  simp only [Bool.and_eq_true, decide_eq_true_eq]
  constructor <;> (rintro ⟨a, ⟨⟨b, c⟩, d⟩, e⟩; exact ⟨a, ⟨⟨c, b⟩, e⟩, d⟩)
/-- an element that another one gives way to -/
theorem owns_other {v u : ByteArray} {t s : Int} {x : Ow} (hx : corrE x = 0) (h : ownsB v t x = true) (hu : emp u = true ∨ u ≠ v) : ownsB u s x = false := by
  cases q : ownsB u s x
  · rfl
  · obtain ⟨a1, a2, -⟩ := owns_yes h
    obtain ⟨b1, b2, -⟩ := owns_yes q
    rcases hu with hu | hu
    · rw [hu] at b1; cases b1
    · exact absurd (((matches_veh hx b1).1 b2).symm.trans ((matches_veh hx a1).1 a2)) hu
end Go.Proofs.Ytfdnciijibiodaa
