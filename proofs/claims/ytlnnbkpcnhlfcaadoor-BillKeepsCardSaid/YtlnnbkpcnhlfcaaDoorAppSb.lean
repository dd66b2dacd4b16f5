/- append of a whole slice onto a slice of the call's own: whole blocks elsewhere lie as they lay. -/
import Derived.Test.YtlnnbkpcnhlfcaaDoorJInts
namespace Go.Proofs.YtlnnbkpcnhlfcaaDoor
open Go.RowKit Go.Lib
section
variable {α : Type} {enc : α → List Value} {k : Nat} {A : Option Addr} {c : Nat} {l : List α} {P : Program} {t e bytes : Nat}
theorem wp_appSb {w : World} {o : Oper} {a : Act} {K : Act → World → Prop} {Q : Exit → Act → World → Prop} (s y : Operand)
    (T : TyS P t e k bytes) (hE : Enc enc k)
    (ho : o.op = .call { callee := .builtin .append, args := #[s, y], argTypes := #[t, t] })
    (base : Nat) {n : Nat} (hs : a.eval s = .slice A n c) (hn : n = l.length) (hown : Own e enc k w base A c l)
    {B : Nat} {A2 : Option Addr} {m d : Nat} (new : List α) (hx : a.eval y = .slice A2 m d) (hm : m = new.length) (hr : Rd enc k w B A2 new)
    (hbytes : (l.length + new.length) * bytes ≤ 140737488355328) (hmax : l.length + new.length ≤ 8000000000000000000) (hbase : base ≤ w.heap.size)
    (h : ∀ A' c' w', Own e enc k w' base A' c' (l ++ new) → Below base w w' → w.heap.size ≤ w'.heap.size → (∀ b, b < w.heap.size → (∀ g, A = some ⟨g, 0, none⟩ → b ≠ g) → w'.heap[b]? = w.heap[b]?) → K (a.put o.dst (.slice A' (n + m) c')) w') : o.wp P a w K Q := by
  subst hn
  subst hm
  obtain ⟨i, z, hi, hz, hsz, hby, hzs⟩ := T.info
  rcases A2 with _ | ad
  · have hnew : new = [] := by
      rcases Classical.em (new = []) with h0 | h0
      · exact h0
      · obtain ⟨_, _, hA, _⟩ := hr h0
        cases hA
    subst hnew
    have hrun := run_app_nil w base o.type T hown d
    unfold Oper.wp execOp
    simp only [ho, resolve, invoke, builtin, Sem.run_bind, Sem.run_pure, Result.andThen_ok, List.map_toArray, List.map_cons, List.map_nil, hs, hx, List.length_nil, hrun]
    exact h A c w (by simpa using hown) (Below.refl _ _) (Nat.le_refl _) (fun _ _ _ => rfl)
  · refine wp_append_own w s y t ho base e i z k bytes T.under hi hz hsz hby hzs T.pos (.slice A l.length c) l.length (l.flatMap enc) hs hown ad new.length d (new.flatMap enc) hx (flat_length hE new) ?_ ?_ (by unfold maxLen; omega) hbytes hbase ?_
    · intro j u hu
      have hj : j < new.length * k := by
        have := (List.getElem?_eq_some_iff.1 hu).1
        rwa [flat_length hE] at this
      have k0 := T.pos
      have e1 : j / k * k + j % k = j := by rw [Nat.mul_comm]; exact Nat.div_add_mod j k
      have hjk : j % k < k := Nat.mod_lt _ k0
      have hfl := flat_get hE new (j / k) (j % k) hjk
      rw [e1, hu] at hfl
      have hne : new ≠ [] := by rintro rfl; simp at hu
      obtain ⟨b, off, hA, _, hc⟩ := hr hne
      injection hA with hA
      subst hA
      cases hg : new[j / k]? with
      | none => rw [hg] at hfl; simp at hfl
      | some x =>
        rw [hg] at hfl
        simp only [Option.bind_some] at hfl
        have := hc (j / k) x hg (j % k) u hfl.symm
        rw [Nat.add_assoc, e1] at this
        have hadd : (⟨b, off, none⟩ : Addr).add j = ⟨b, off + j, none⟩ := by unfold Addr.add; split <;> simp_all
        rw [hadd]
        exact this
    · intro u hu
      rw [List.mem_flatMap] at hu
      obtain ⟨y, _, hy⟩ := hu
      exact hE.2 y u hy
    · intro v' w' hown' hg hv0
      obtain ⟨A', c'', hv⟩ : ∃ A' c'', v' = .slice A' (l.length + new.length) c'' := by
        rcases hown'.2 with ⟨hv, h0⟩ | ⟨g, cap, cur, hv, _⟩
        · exact ⟨none, 0, by rw [hv, h0]⟩
        · exact ⟨_, _, hv⟩
      rw [hv]
      refine h A' c'' w' ?_ ?_ hg.size (fun b hb hne => hg.block b hb fun hh => ?_)
      · unfold Own
        rw [hv, ← List.flatMap_append] at hown'
        rw [List.length_append]
        exact hown'
      · refine (Below.refl base w).grown hg hbase fun g hgo => ?_
        exact (World.ownsRow.lt hown g (by rw [hgo])).1
      · cases A with
        | none => simp [Value.ownBlock] at hh
        | some q =>
          rcases hown.form with ⟨hA, _⟩ | ⟨g, hA, _⟩
          · cases hA
          · injection hA with hA
            subst hA
            simp [Value.ownBlock] at hh
            exact hne g rfl hh
end
end Go.Proofs.YtlnnbkpcnhlfcaaDoor
