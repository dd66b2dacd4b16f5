/- Link and Unlink on valid lists: they keep them valid, and what they change. No program in sight. -/
import Derived.Test.YtfdnciijibiodaaAccValid
namespace Go.Proofs.Ytfdnciijibiodaa

section
variable {α : Type} {p : α → Bool} {f : α → α}
theorem modF_mem : ∀ {l : List α} {c : α}, c ∈ modF p f l → c ∈ l ∨ ∃ a ∈ l, p a = true ∧ c = f a
  | [], c, h => by simp [modF] at h
  | a :: l, c, h => by
    unfold modF at h
    split at h
    · rename_i hp
      rcases List.mem_cons.1 h with rfl | h
      · exact Or.inr ⟨a, by simp, hp, rfl⟩
      · exact Or.inl (by simp [h])
    · rcases List.mem_cons.1 h with rfl | h
      · exact Or.inl (by simp)
      · rcases modF_mem h with h | ⟨b, hb, h1, h2⟩
        · exact Or.inl (by simp [h])
        · exact Or.inr ⟨b, by simp [hb], h1, h2⟩
theorem modF_length : ∀ (l : List α), (modF p f l).length = l.length
  | [] => rfl
  | a :: l => by
    unfold modF
    split
    · rfl
    · simp [modF_length l]
theorem modF_pairwise {R : α → α → Prop} : ∀ {l : List α}, l.Pairwise R → (∀ b ∈ l, ∀ a ∈ l, p a = true → R b a → R b (f a)) → (∀ a ∈ l, ∀ c ∈ l, p a = true → R a c → R (f a) c) → (modF p f l).Pairwise R
  | [], _, _, _ => by simp [modF]
  | a :: l, hp, h1, h2 => by
    rw [List.pairwise_cons] at hp
    unfold modF
    split
    · rename_i hpa
      exact List.pairwise_cons.2 ⟨fun c hc => h2 a (by simp) c (by simp [hc]) hpa (hp.1 c hc), hp.2⟩
    · refine List.pairwise_cons.2 ⟨fun c hc => ?_, modF_pairwise hp.2 (fun b hb c hc => h1 b (by simp [hb]) c (by simp [hc])) (fun b hb c hc => h2 b (by simp [hb]) c (by simp [hc]))⟩
      rcases modF_mem hc with hc | ⟨b, hb, hpb, rfl⟩
      · exact hp.1 c hc
      · exact h1 a (by simp) b (by simp [hb]) hpb (hp.1 b hb)
theorem modF_any {q : α → Bool} : ∀ {l : List α}, (∀ a ∈ l, p a = true → q (f a) = q a) → (modF p f l).any q = l.any q
  | [], _ => rfl
  | a :: l, h => by
    unfold modF
    split
    · rename_i hpa
      simp [h a (by simp) hpa]
    · simp [modF_any (l := l) fun b hb => h b (by simp [hb])]
theorem modF_find {β : Type} {q : α → Bool} {g : α → β} : ∀ {l : List α}, (∀ a ∈ l, p a = true → q (f a) = q a ∧ g (f a) = g a) → ((modF p f l).find? q).map g = (l.find? q).map g
  | [], _ => rfl
  | a :: l, h => by
    unfold modF
    split
    · rename_i hpa
      obtain ⟨h1, h2⟩ := h a (by simp) hpa
      rw [List.find?_cons, List.find?_cons, h1]
      cases q a <;> simp [h2]
    · rw [List.find?_cons, List.find?_cons]
      cases q a
      · exact modF_find (l := l) fun b hb => h b (by simp [hb])
      · rfl
theorem modF_found {q : α → Bool} : ∀ {l : List α}, (∀ a ∈ l, q a = false) → (∃ a ∈ l, p a = true) → (∀ a ∈ l, p a = true → q (f a) = true) → ∃ a ∈ l, p a = true ∧ (modF p f l).find? q = some (f a)
  | [], _, h, _ => by obtain ⟨a, ha, _⟩ := h; simp at ha
  | a :: l, h1, h2, h3 => by
    unfold modF
    split
    · rename_i hpa
      refine ⟨a, by simp, hpa, ?_⟩
      rw [List.find?_cons, h3 a (by simp) hpa]
    · rename_i hpa
      obtain ⟨b, hb, hpb⟩ := h2
      rcases List.mem_cons.1 hb with rfl | hb
      · exact absurd hpb hpa
      · obtain ⟨c, hc, hpc, he⟩ := modF_found (l := l) (fun x hx => h1 x (by simp [hx])) ⟨b, hb, hpb⟩ (fun x hx => h3 x (by simp [hx]))
        refine ⟨c, by simp [hc], hpc, ?_⟩
        rw [List.find?_cons, h1 a (by simp)]
        exact he
end

theorem ownerN_map (l : List Av) (v : ByteArray) (t : Int) : ownerN l v t = ((l.find? (ownA v t)).map Av.name).getD ⟨#[]⟩ := by
  unfold ownerN
  cases l.find? (ownA v t) <;> rfl
theorem ownerB_find (l : List Av) (v : ByteArray) (t : Int) : ownerB l v t = (l.find? (ownA v t)).isSome := by
  unfold ownerB
  rw [List.any_eq_not_all_not]
  cases h : l.find? (ownA v t) with
  | none => rw [List.find?_eq_none] at h; simp; intro x hx; simpa using h x hx
  | some a => simp; exact ⟨a, List.mem_of_find?_eq_some h, List.find?_some h⟩
/-- nobody owns "" -/
theorem owner_emp (l : List Av) {v : ByteArray} (h : emp v = true) (t : Int) : ownerN l v t = ⟨#[]⟩ ∧ ownerB l v t = false := by
  have : ∀ a : Av, ownA v t a = false := fun a => by
    unfold ownA
    rw [List.any_eq_false]
    intro o _
    unfold ownsB
    rw [h]; simp
  refine ⟨?_, ?_⟩
  · unfold ownerN
    rw [List.find?_eq_none.2 fun a _ => by simp [this a]]
  · unfold ownerB
    rw [List.any_eq_false]
    intro a _
    simp [this a]

theorem conL_no {l : List Ow} {o : Ow} : conL l o = false ↔ ∀ x ∈ l, conB x o = false := by
  unfold conL
  rw [List.any_eq_false]
  exact ⟨fun h x hx => by simpa using h x hx, fun h x hx => by simp [h x hx]⟩
theorem clash_no {b a : Av} : clash b a = false ↔ eqS b.name a.name = false ∧ ∀ o ∈ a.os, ∀ x ∈ b.os, conB x o = false := by
  unfold clash
  rw [Bool.or_eq_false_iff, List.any_eq_false]
  refine and_congr_right fun _ => ⟨fun h o ho x hx => ?_, fun h o ho => ?_⟩
  · have := h o ho
    rw [Bool.not_eq_true, conL_no] at this
    exact this x hx
  · rw [Bool.not_eq_true, conL_no]
    exact h o ho

/-- Link, at a list where it is done -/
theorem linkE_ok {l : List Av} {s : ByteArray} {o : Ow} (h : linkE l s o = 0) : (∃ a ∈ l, named s a = true) ∧ corrE o = 0 ∧ (∀ a, l.find? (named s) = some a → a.os.length < 64) ∧ ∀ b ∈ l, ∀ x ∈ b.os, conB x o = false := by
  unfold linkE at h
  cases hf : l.find? (named s) with
  | none => rw [hf] at h; cases h
  | some a =>
    rw [hf] at h
    simp only at h
    by_cases q1 : corrE o ≠ 0
    · rw [if_pos q1] at h; exact absurd h q1
    · rw [if_neg q1] at h
      by_cases q2 : 64 ≤ a.os.length
      · rw [if_pos q2] at h; cases h
      · rw [if_neg q2] at h
        cases q3 : l.any fun b => conL b.os o
        · rw [List.any_eq_false] at q3
          exact ⟨⟨a, List.mem_of_find?_eq_some hf, List.find?_some hf⟩, by simpa using q1, fun b hb => by cases hb; omega, fun b hb => by have := q3 b hb; rw [Bool.not_eq_true, conL_no] at this; exact this⟩
        · rw [q3] at h; cases h
theorem named_one {l : List Av} {s : ByteArray} (h : VL l) {a : Av} (ha : a ∈ l) (hn : named s a = true) : l.find? (named s) = some a := by
  obtain ⟨k, hk⟩ := List.getElem?_of_mem ha
  obtain ⟨hkl, rfl⟩ := List.getElem?_eq_some_iff.1 hk
  rw [List.find?_eq_some_iff_getElem]
  refine ⟨hn, k, hkl, rfl, fun j hj => ?_⟩
  have := pairwise_take.1 h.2.2 k _ (List.getElem?_eq_getElem hkl) l[j] (by rw [List.mem_take_iff_getElem]; exact ⟨j, by omega, rfl⟩)
  have := (clash_no.1 this).1
  unfold named at hn ⊢
  rw [eqS_iff] at hn
  rw [hn] at this
  rw [this]; rfl
theorem link_valid {l : List Av} {s : ByteArray} {o : Ow} (hl : VL l) : VL (linkL l s o) := by
  unfold linkL
  by_cases h : linkE l s o = 0
  · rw [if_pos h]
    obtain ⟨-, ho, h64, hc⟩ := linkE_ok h
    refine ⟨by rw [modF_length]; exact hl.1, ?_, modF_pairwise hl.2.2 ?_ ?_⟩
    · intro c hcm
      rcases modF_mem hcm with hm | ⟨a, ha, hpa, rfl⟩
      · exact hl.2.1 c hm
      · obtain ⟨v1, v2, v3, v4, v5⟩ := hl.2.1 a ha
        refine ⟨v1, v2, ?_, ?_, ?_⟩
        · have := h64 a (named_one hl ha hpa)
          show (a.os ++ [o]).length ≤ 64
          rw [List.length_append]; simp; omega
        · intro x hx
          rcases List.mem_append.1 hx with hx | hx
          · exact v4 x hx
          · simp at hx; subst hx; exact ho
        · refine List.pairwise_append.2 ⟨v5, by simp, fun x hx y hy => ?_⟩
          simp at hy
          subst hy
          exact hc a ha x hx
    · intro b hb a ha hpa hR
      rw [clash_no] at hR ⊢
      refine ⟨hR.1, fun x hx y hy => ?_⟩
      rcases List.mem_append.1 hx with hx | hx
      · exact hR.2 x hx y hy
      · simp at hx; subst hx; exact hc b hb y hy
    · intro a ha c hcm hpa hR
      rw [clash_no] at hR ⊢
      refine ⟨hR.1, fun x hx y hy => ?_⟩
      rcases List.mem_append.1 hy with hy | hy
      · exact hR.2 x hx y hy
      · simp at hy; subst hy; rw [conB_symm]; exact hc c hcm x hx
  · rw [if_neg h]; exact hl

theorem ownA_app (v : ByteArray) (t : Int) (a : Av) (o : Ow) : ownA v t { a with os := a.os ++ [o] } = (ownA v t a || ownsB v t o) := by
  unfold ownA
  simp
/-- after Link the account owns the vehicle at each time of the interval -/
theorem link_owns {l : List Av} {s : ByteArray} {o : Ow} (hl : VL l) (h : linkE l s o = 0) {t : Int} (h1 : o.f ≤ t) (h2 : t < o.t) : ownerN (linkL l s o) (vehO o) t = s ∧ ownerB (linkL l s o) (vehO o) t = true := by
  obtain ⟨hex, ho, -, hc⟩ := linkE_ok h
  have hv : emp (vehO o) = false := by
    obtain ⟨k1, -, -, -⟩ := corr_yes ho
    unfold vehO
    cases ht : emp o.tag
    · have hp : emp o.pl = true := by cases hp : emp o.pl; (rw [ht, hp] at k1; exact absurd rfl k1); rfl
      rw [app_emp _ _ hp]; exact ht
    · have hp : emp o.pl = false := by cases hp : emp o.pl; rfl; (rw [ht, hp] at k1; exact absurd rfl k1)
      rw [emp_app _ _ ht]; exact hp
  have hoo : ownsB (vehO o) t o = true := by
    have e1 := (matches_veh ho hv).2 rfl
    obtain ⟨-, -, -, k4⟩ := corr_yes ho
    unfold ownsB
    rw [hv, e1, k4]
    simp; omega
  have hno : ∀ a ∈ l, ownA (vehO o) t a = false := by
    intro a ha
    unfold ownA
    rw [List.any_eq_false]
    intro x hx hq
    have := owns_con ((hl.2.1 a ha).2.2.2.1 x hx) ho hq hoo
    rw [hc a ha x hx] at this
    cases this
  obtain ⟨a, ha, hpa, hf⟩ := modF_found (p := named s) (f := fun a : Av => { a with os := a.os ++ [o] }) (q := ownA (vehO o) t) hno hex (fun a ha hpa => by rw [ownA_app, hoo, Bool.or_true])
  have hL : linkL l s o = modF (named s) (fun a => { a with os := a.os ++ [o] }) l := by unfold linkL; rw [if_pos h]
  refine ⟨?_, ?_⟩
  · rw [ownerN_map, hL, hf]
    exact (eqS_iff _ _).1 hpa
  · rw [ownerB_find, hL, hf]; rfl
theorem link_other {l : List Av} {s : ByteArray} {o : Ow} {u : ByteArray} (hu : emp u = true ∨ u ≠ vehO o) (t : Int) : ownerN (linkL l s o) u t = ownerN l u t ∧ ownerB (linkL l s o) u t = ownerB l u t := by
  unfold linkL
  by_cases h : linkE l s o = 0
  · rw [if_pos h]
    obtain ⟨-, ho, -, -⟩ := linkE_ok h
    have hq : ownsB u t o = false := by
      cases q : ownsB u t o
      · rfl
      · obtain ⟨a1, a2, -⟩ := owns_yes q
        rcases hu with hu | hu
        · rw [hu] at a1; cases a1
        · exact absurd ((matches_veh ho a1).1 a2).symm hu
    have hs : ∀ a ∈ l, named s a = true → ownA u t { a with os := a.os ++ [o] } = ownA u t a ∧ ({ a with os := a.os ++ [o] } : Av).name = a.name := fun a _ _ => ⟨by rw [ownA_app, hq, Bool.or_false], rfl⟩
    refine ⟨?_, ?_⟩
    · rw [ownerN_map, ownerN_map, modF_find hs]
    · exact modF_any fun a ha hp => (hs a ha hp).1
  · rw [if_neg h]; exact ⟨rfl, rfl⟩

/-- Unlink -/
theorem cutL_mem {v : ByteArray} {t : Int} : ∀ {l : List Ow} {y : Ow}, y ∈ cutL v t l → y ∈ l ∨ ∃ x ∈ l, ownsB v t x = true ∧ x.f ≠ t ∧ y = { x with t := t }
  | [], y, h => by simp [cutL] at h
  | o :: l, y, h => by
    unfold cutL at h
    split at h
    · rename_i hp
      rcases List.mem_append.1 h with h | h
      · unfold cutOne at h
        split at h
        · simp at h
        · rename_i hf
          simp at h
          exact Or.inr ⟨o, by simp, hp, hf, h⟩
      · exact Or.inl (by simp [h])
    · rcases List.mem_cons.1 h with rfl | h
      · exact Or.inl (by simp)
      · rcases cutL_mem h with h | ⟨x, hx, r⟩
        · exact Or.inl (by simp [h])
        · exact Or.inr ⟨x, by simp [hx], r⟩
theorem cutL_length (v : ByteArray) (t : Int) : ∀ (l : List Ow), (cutL v t l).length ≤ l.length
  | [] => Nat.le_refl _
  | o :: l => by
    unfold cutL
    split
    · unfold cutOne
      split <;> simp
    · simp [cutL_length v t l]
theorem short_con {v : ByteArray} {t : Int} {x o : Ow} (hx : ownsB v t x = true) (hf : x.f ≠ t) (h : conB x o = false) : conB { x with t := t } o = false := by
  cases q : conB { x with t := t } o
  · rfl
  · rw [← h]
    symm
    obtain ⟨a1, a2, a3, a4, a5⟩ := owns_yes hx
    unfold conB sameV overl at q ⊢
    simp only [Bool.and_eq_true, decide_eq_true_eq] at q ⊢
    exact ⟨q.1, ⟨⟨a3, q.2.1.1.2⟩, q.2.1.2⟩, by omega⟩
theorem short_corr {v : ByteArray} {t : Int} {x : Ow} (hx : ownsB v t x = true) (hf : x.f ≠ t) (h : corrE x = 0) : corrE { x with t := t } = 0 := by
  obtain ⟨a1, a2, a3, a4, a5⟩ := owns_yes hx
  have e : validB x.f t = true := by
    rw [validB_iff] at a3 ⊢
    unfold vld at a3 ⊢
    simp only at a3 ⊢
    omega
  unfold corrE at h ⊢
  simp only at h ⊢
  rw [e]
  rw [a3] at h
  exact h
theorem cutL_pair {v : ByteArray} {t : Int} : ∀ {l : List Ow}, (l.Pairwise fun x o => conB x o = false) → (cutL v t l).Pairwise fun x o => conB x o = false
  | [], _ => by simp [cutL]
  | o :: l, h => by
    rw [List.pairwise_cons] at h
    unfold cutL
    split
    · rename_i hp
      unfold cutOne
      split
      · exact h.2
      · rename_i hf
        exact List.pairwise_cons.2 ⟨fun y hy => short_con hp hf (h.1 y hy), h.2⟩
    · refine List.pairwise_cons.2 ⟨fun y hy => ?_, cutL_pair h.2⟩
      rcases cutL_mem hy with hy | ⟨x, hx, hp, hf, rfl⟩
      · exact h.1 y hy
      · rw [conB_symm]
        exact short_con hp hf (by rw [conB_symm]; exact h.1 x hx)
theorem unlinkE_ok {l : List Av} {s v : ByteArray} {t : Int} (h : unlinkE l s v t = 0) : ∃ a, l.find? (named s) = some a ∧ ownA v t a = true := by
  unfold unlinkE at h
  cases hf : l.find? (named s) with
  | none => rw [hf] at h; cases h
  | some a =>
    rw [hf] at h
    simp only at h
    refine ⟨a, rfl, ?_⟩
    cases q1 : timeB t
    · rw [if_pos q1] at h; cases h
    · rw [if_neg (by rw [q1]; simp)] at h
      cases q2 : ownA v t a
      · rw [if_neg (by rw [q2]; simp)] at h; cases h
      · rfl
theorem unlink_valid {l : List Av} {s v : ByteArray} {t : Int} (hl : VL l) : VL (unlinkL l s v t) := by
  unfold unlinkL
  by_cases h : unlinkE l s v t = 0
  · rw [if_pos h]
    refine ⟨by rw [modF_length]; exact hl.1, ?_, modF_pairwise hl.2.2 ?_ ?_⟩
    · intro c hcm
      rcases modF_mem hcm with hm | ⟨a, ha, hpa, rfl⟩
      · exact hl.2.1 c hm
      · obtain ⟨v1, v2, v3, v4, v5⟩ := hl.2.1 a ha
        refine ⟨v1, v2, Nat.le_trans (cutL_length v t a.os) v3, fun y hy => ?_, cutL_pair v5⟩
        rcases cutL_mem hy with hy | ⟨x, hx, hp, hf, rfl⟩
        · exact v4 y hy
        · exact short_corr hp hf (v4 x hx)
    · intro b hb a ha hpa hR
      rw [clash_no] at hR ⊢
      refine ⟨hR.1, fun y hy z hz => ?_⟩
      rcases cutL_mem hy with hy | ⟨x, hx, hp, hf, rfl⟩
      · exact hR.2 y hy z hz
      · rw [conB_symm]
        exact short_con hp hf (by rw [conB_symm]; exact hR.2 x hx z hz)
    · intro a ha c hcm hpa hR
      rw [clash_no] at hR ⊢
      refine ⟨hR.1, fun y hy z hz => ?_⟩
      rcases cutL_mem hz with hz | ⟨x, hx, hp, hf, rfl⟩
      · exact hR.2 y hy z hz
      · exact short_con hp hf (hR.2 y hy x hx)
  · rw [if_neg h]; exact hl
/-- what Unlink does to a list, account by account -/
theorem unlink_same {l : List Av} {s v u : ByteArray} {t r : Int} (hq : ∀ x : Ow, (∃ a ∈ l, x ∈ a.os) → ownsB v t x = true → (∀ y ∈ cutOne t x, ownsB u r y = ownsB u r x) ∧ (cutOne t x = [] → ownsB u r x = false)) :
    ownerN (unlinkL l s v t) u r = ownerN l u r ∧ ownerB (unlinkL l s v t) u r = ownerB l u r := by
  unfold unlinkL
  by_cases h : unlinkE l s v t = 0
  · rw [if_pos h]
    have key : ∀ (os : List Ow), (∀ x ∈ os, ownsB v t x = true → (∀ y ∈ cutOne t x, ownsB u r y = ownsB u r x) ∧ (cutOne t x = [] → ownsB u r x = false)) → (cutL v t os).any (ownsB u r) = os.any (ownsB u r) := by
      intro os
      induction os with
      | nil => intro _; rfl
      | cons o os ih =>
        intro hh
        unfold cutL
        split
        · rename_i hp
          obtain ⟨h1, h2⟩ := hh o (by simp) hp
          rw [List.any_append, List.any_cons]
          congr 1
          unfold cutOne at h1 h2 ⊢
          split
          · rename_i hf
            rw [if_pos hf] at h2
            rw [h2 rfl]; rfl
          · rename_i hf
            rw [if_neg hf] at h1
            simp [h1 _ (List.mem_singleton.2 rfl)]
        · rw [List.any_cons, List.any_cons, ih fun x hx => hh x (by simp [hx])]
    have hs : ∀ a ∈ l, named s a = true → ownA u r { a with os := cutL v t a.os } = ownA u r a ∧ ({ a with os := cutL v t a.os } : Av).name = a.name := fun a ha _ => ⟨key a.os fun x hx => hq x ⟨a, ha, hx⟩, rfl⟩
    refine ⟨?_, ?_⟩
    · rw [ownerN_map, ownerN_map, modF_find hs]
    · exact modF_any fun a ha hp => (hs a ha hp).1
  · rw [if_neg h]; exact ⟨rfl, rfl⟩
theorem unlink_before {l : List Av} {s v : ByteArray} {t : Int} : ownerN (unlinkL l s v t) v (t - 1) = ownerN l v (t - 1) ∧ ownerB (unlinkL l s v t) v (t - 1) = ownerB l v (t - 1) := by
  refine unlink_same fun x _ hx => ?_
  obtain ⟨a1, a2, a3, a4, a5⟩ := owns_yes hx
  refine ⟨fun y hy => ?_, fun hc => ?_⟩
  · unfold cutOne at hy
    split at hy
    · simp at hy
    · rename_i hf
      simp at hy
      subst hy
      have e : validB x.f t = true := by
        rw [validB_iff] at a3 ⊢
        unfold vld at a3 ⊢
        simp only at a3 ⊢
        omega
      unfold ownsB
      simp only
      rw [e, a3, decide_eq_true (by omega : t - 1 < t), decide_eq_true (by omega : t - 1 < x.t)]
  · unfold cutOne at hc
    split at hc
    · rename_i hf
      unfold ownsB
      rw [decide_eq_false (by omega : ¬ x.f ≤ t - 1)]
      simp
    · cases hc
theorem unlink_other {l : List Av} {s v u : ByteArray} {t r : Int} (hl : VL l) (hu : emp u = true ∨ u ≠ v) : ownerN (unlinkL l s v t) u r = ownerN l u r ∧ ownerB (unlinkL l s v t) u r = ownerB l u r := by
  refine unlink_same fun x ⟨a, ha, hxa⟩ hx => ?_
  have hc := (hl.2.1 a ha).2.2.2.1 x hxa
  have e0 : ∀ (s : Int) (y : Ow), y.tag = x.tag → y.pl = x.pl → ownsB u s y = false := by
    intro s y e1 e2
    cases q : ownsB u s y
    · rfl
    · obtain ⟨b1, b2, -⟩ := owns_yes q
      obtain ⟨c1, c2, -⟩ := owns_yes hx
      rw [e1, e2] at b2
      rcases hu with hu | hu
      · rw [hu] at b1; cases b1
      · exact absurd (((matches_veh hc b1).1 b2).symm.trans ((matches_veh hc c1).1 c2)) hu
  refine ⟨fun y hy => ?_, fun _ => e0 r x rfl rfl⟩
  unfold cutOne at hy
  split at hy
  · simp at hy
  · simp at hy
    subst hy
    rw [e0 r x rfl rfl]
    exact e0 r _ rfl rfl
/-- after Unlink nobody owns the vehicle then -/
theorem cutL_none {v : ByteArray} {t : Int} : ∀ {l : List Ow}, (∀ o ∈ l, corrE o = 0) → (l.Pairwise fun x o => conB x o = false) → (cutL v t l).any (ownsB v t) = false
  | [], _, _ => rfl
  | o :: l, hc, h => by
    rw [List.pairwise_cons] at h
    unfold cutL
    split
    · rename_i hp
      rw [List.any_append, Bool.or_eq_false_iff]
      constructor
      · unfold cutOne
        split
        · rfl
        · simp [ownsB]
      · rw [List.any_eq_false]
        intro x hx hq
        have := owns_con (hc o (by simp)) (hc x (by simp [hx])) hp hq
        rw [h.1 x hx] at this
        cases this
    · rename_i hp
      rw [List.any_cons, cutL_none (fun x hx => hc x (by simp [hx])) h.2, Bool.or_false]
      simpa using hp
theorem unlink_none {l : List Av} {s v : ByteArray} {t : Int} (hl : VL l) (h : unlinkE l s v t = 0) : ownerB (unlinkL l s v t) v t = false := by
  obtain ⟨a, hf, hown⟩ := unlinkE_ok h
  have ha := List.mem_of_find?_eq_some hf
  have hpa := List.find?_some hf
  have hL : unlinkL l s v t = modF (named s) (fun a => { a with os := cutL v t a.os }) l := by unfold unlinkL; rw [if_pos h]
  -- two accounts of the list that give v at t are one
  have two : ∀ {l : List Av}, VL l → ∀ b ∈ l, ownA v t b = true → ∀ c ∈ l, ownA v t c = true → eqS b.name c.name = true := by
    intro l hl b hb hob c hc hoc
    unfold ownA at hob hoc
    rw [List.any_eq_true] at hob hoc
    obtain ⟨x, hx, hxo⟩ := hob
    obtain ⟨y, hy, hyo⟩ := hoc
    have hcon := owns_con ((hl.2.1 b hb).2.2.2.1 x hx) ((hl.2.1 c hc).2.2.2.1 y hy) hxo hyo
    obtain ⟨i, hi⟩ := List.getElem?_of_mem hb
    obtain ⟨k, hk⟩ := List.getElem?_of_mem hc
    rcases Nat.lt_trichotomy i k with q | q | q
    · have := pairwise_take.1 hl.2.2 k c hk b (by
        obtain ⟨q1, q2⟩ := List.getElem?_eq_some_iff.1 hi
        rw [List.mem_take_iff_getElem]; exact ⟨i, by omega, q2⟩)
      rw [(clash_no.1 this).2 y hy x hx] at hcon
      cases hcon
    · subst q
      rw [hi] at hk
      injection hk with hk
      subst hk
      exact eqS_refl _
    · have := pairwise_take.1 hl.2.2 i b hi c (by
        obtain ⟨q1, q2⟩ := List.getElem?_eq_some_iff.1 hk
        rw [List.mem_take_iff_getElem]; exact ⟨k, by omega, q2⟩)
      rw [conB_symm, (clash_no.1 this).2 x hx y hy] at hcon
      cases hcon
  unfold ownerB
  rw [hL, List.any_eq_false]
  intro c hc hq
  rcases modF_mem hc with hm | ⟨b, hb, hpb, rfl⟩
  · -- c lies in l untouched, or is the one that was changed: then its name is s
    have hcn := two hl a ha hown c hm hq
    have hps : named s c = true := by
      unfold named at hpa ⊢
      rw [eqS_iff] at hpa hcn ⊢
      rw [← hcn]; exact hpa
    -- the changed list holds no account of that name beside the changed one
    have hone : c = { a with os := cutL v t a.os } := by
      have e1 := named_one hl hm hps
      rw [hf] at e1
      injection e1 with e1
      subst e1
      obtain ⟨k, hk⟩ := List.getElem?_of_mem hm
      obtain ⟨hkl, hke⟩ := List.getElem?_eq_some_iff.1 hk
      have hno : ∀ y ∈ l.take k, named s y = false := by
        intro y hy
        have := (clash_no.1 (pairwise_take.1 hl.2.2 k _ hk y hy)).1
        unfold named at hps ⊢
        rw [eqS_iff] at hps
        rw [hps] at this
        exact this
      rw [modF_at hk hps hno] at hc
      obtain ⟨j, hj⟩ := List.getElem?_of_mem hc
      rw [List.getElem?_set] at hj
      split at hj
      · injection hj with hj; exact hj.symm
      · rename_i hjk
        obtain ⟨hjl, hje⟩ := List.getElem?_eq_some_iff.1 hj
        rcases Nat.lt_or_gt_of_ne hjk with q | q
        · have := (clash_no.1 (pairwise_take.1 hl.2.2 j _ hj a (by rw [List.mem_take_iff_getElem]; exact ⟨k, by omega, hke⟩))).1
          rw [eqS_refl] at this; cases this
        · have := (clash_no.1 (pairwise_take.1 hl.2.2 k _ hk a (by rw [List.mem_take_iff_getElem]; exact ⟨j, by omega, hje⟩))).1
          rw [eqS_refl] at this; cases this
    rw [hone] at hq
    have := cutL_none (v := v) (t := t) (hl.2.1 a ha).2.2.2.1 (hl.2.1 a ha).2.2.2.2
    unfold ownA at hq
    rw [this] at hq
    cases hq
  · have := cutL_none (v := v) (t := t) (hl.2.1 b hb).2.2.2.1 (hl.2.1 b hb).2.2.2.2
    unfold ownA at hq
    rw [this] at hq
    cases hq

/-- THE LAYER'S THEOREM: the elements that give a vehicle at a time -/
def hits (v : ByteArray) (t : Int) (l : List Av) : List ByteArray := l.flatMap fun a => (a.os.filter (ownsB v t)).map fun _ => a.name
theorem filter_one {v : ByteArray} {t : Int} : ∀ {os : List Ow}, (∀ o ∈ os, corrE o = 0) → (os.Pairwise fun x o => conB x o = false) → (os.filter (ownsB v t)).length ≤ 1
  | [], _, _ => by simp
  | o :: os, hc, h => by
    rw [List.pairwise_cons] at h
    rw [List.filter_cons]
    split
    · rename_i hp
      have : os.filter (ownsB v t) = [] := by
        rw [List.filter_eq_nil_iff]
        intro x hx hq
        have := owns_con (hc o (by simp)) (hc x (by simp [hx])) hp hq
        rw [h.1 x hx] at this
        cases this
      rw [this]; simp
    · exact filter_one (fun x hx => hc x (by simp [hx])) h.2
theorem hits_one {v : ByteArray} {t : Int} : ∀ {l : List Av}, (∀ a ∈ l, VA a) → (l.Pairwise fun b a => clash b a = false) →
    (hits v t l = [] ∧ l.find? (ownA v t) = none) ∨ ∃ a, hits v t l = [a.name] ∧ l.find? (ownA v t) = some a
  | [], _, _ => Or.inl ⟨rfl, rfl⟩
  | a :: l, hv, h => by
    rw [List.pairwise_cons] at h
    have hf1 := filter_one (v := v) (t := t) (hv a (by simp)).2.2.2.1 (hv a (by simp)).2.2.2.2
    have ih := hits_one (v := v) (t := t) (fun b hb => hv b (by simp [hb])) h.2
    have hh : hits v t (a :: l) = ((a.os.filter (ownsB v t)).map fun _ => a.name) ++ hits v t l := rfl
    cases q : ownA v t a
    · have : a.os.filter (ownsB v t) = [] := by
        rw [List.filter_eq_nil_iff]
        unfold ownA at q
        rw [List.any_eq_false] at q
        exact q
      rw [hh, this, List.find?_cons, q]
      simpa using ih
    · refine Or.inr ⟨a, ?_, by rw [List.find?_cons, q]⟩
      have hl0 : hits v t l = [] := by
        rcases ih with ⟨e, _⟩ | ⟨c, _, hc⟩
        · exact e
        · exfalso
          have hcm := List.mem_of_find?_eq_some hc
          have hco := List.find?_some hc
          unfold ownA at q hco
          rw [List.any_eq_true] at q hco
          obtain ⟨x, hx, hxo⟩ := q
          obtain ⟨y, hy, hyo⟩ := hco
          have hcon := owns_con ((hv a (by simp)).2.2.2.1 x hx) ((hv c (by simp [hcm])).2.2.2.1 y hy) hxo hyo
          rw [(clash_no.1 (h.1 c hcm)).2 y hy x hx] at hcon
          cases hcon
      rw [hh, hl0, List.append_nil]
      have hne : a.os.filter (ownsB v t) ≠ [] := by
        unfold ownA at q
        rw [List.any_eq_true] at q
        obtain ⟨x, hx, hxo⟩ := q
        intro e
        rw [List.filter_eq_nil_iff] at e
        exact e x hx hxo
      match hfe : a.os.filter (ownsB v t), hne, hf1 with
      | [x], _, _ => rfl
      | [], h, _ => exact absurd rfl h
      | x :: y :: r, _, h => simp at h
/-- what AccountOne asks -/
theorem one_holds {l : List Av} (h : VL l) (v : ByteArray) (t : Int) : (hits v t l).length ≤ 1 ∧ ownerB l v t = decide ((hits v t l).length = 1) ∧ ownerN l v t = (hits v t l).getLastD ⟨#[]⟩ := by
  rw [ownerB_find, ownerN_map]
  rcases hits_one (v := v) (t := t) h.2.1 h.2.2 with ⟨h1, h2⟩ | ⟨a, h1, h2⟩ <;> rw [h1, h2] <;> simp
end Go.Proofs.Ytfdnciijibiodaa
