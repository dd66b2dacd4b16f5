/- append of one element to a slice of the call's own, up to the reach of two argument lists together (the kit's wide law of append). -/
import Derived.Test.YtgkppjkmakomnaaBase
import Derived.Deep.DeepAppendWide
namespace Go.Proofs.Ytgkppjkmakomnaa
open Go.RowKit Go.Lib
section
variable {α : Type} {enc : α → List Value} {k : Nat} {A : Option Addr} {c : Nat} {l : List α} {P : Program} {t e bytes : Nat}
theorem wpList_app1w {w0 : World} {ops : Array Oper} {rest : List Oper} {o : Oper} {a : Act} {Q : Exit → Act → World → Prop} (hgd : o.guard = none) (s y : Operand)
    (T : TyS P t e k bytes) (hE : Enc enc k)
    (ho : o.op = .call { callee := .builtin .append, args := #[s, y], argTypes := #[t, t] })
    {cs : Array Value} (x : α) (hcs : cs.toList = enc x)
    (base : Nat) {n : Nat} (hs : a.eval s = .slice A n c) (hn : n = l.length) (hown : Own e enc k w0 base A c l)
    {g0 : Nat} (hx : a.eval y = .slice (some ⟨g0, 0, none⟩) 1 1) (hg0 : w0.heap.size = g0)
    (hbytes : ((l.length + 1) + (l.length + 1) / 4 + 192) * bytes ≤ 281474976710656) (hmax : l.length ≤ 8000000000000000000) (hbase : base ≤ w0.heap.size)
    (h : ∀ A' c' w', Own e enc k w' base A' c' (l ++ [x]) → Below base w0 w' → wpList P ops Q rest (a.put o.dst (.slice A' (n + 1) c')) w') : wpList P ops Q (o :: rest) a (w0.alloc (.cells cs e)) := by
  subst hn
  subst hg0
  obtain ⟨i, z, hi, hz, hsz, hby, hzs⟩ := T.info
  refine wpList_append_own_wide (w0.alloc (.cells cs e)) hgd s y t ho base e i z k bytes T.under hi hz hsz hby hzs T.pos (.slice A l.length c) l.length (l.flatMap enc) hs (hown.alloc _) ⟨w0.heap.size, 0, none⟩ 1 1 ([x].flatMap enc) hx (by rw [flat_length hE]; rfl) ?_ ?_ (by unfold maxLen; omega) hbytes (by simp; omega) ?_
  · intro j u hu
    have hadd : (⟨w0.heap.size, 0, none⟩ : Addr).add j = ⟨w0.heap.size, j, none⟩ := by unfold Addr.add; split <;> simp_all
    rw [hadd, cell_of_row _ _ _ cs e (0, 0) (heap_alloc_new w0 _)]
    simp only [List.flatMap_cons, List.flatMap_nil, List.append_nil] at hu
    rw [← hcs] at hu
    simpa using hu
  · intro u hu
    rw [List.mem_flatMap] at hu
    obtain ⟨y, _, hy⟩ := hu
    exact hE.2 y u hy
  · intro v' w' hown' hg _
    obtain ⟨A', c'', hv⟩ : ∃ A' c'', v' = .slice A' (l.length + 1) c'' := by
      rcases hown'.2 with ⟨hv, h0⟩ | ⟨g, cap, cur, hv, _⟩
      · exact ⟨none, 0, by rw [hv, h0]⟩
      · exact ⟨_, _, by rw [hv]⟩
    rw [hv]
    refine h A' c'' w' ?_ ?_
    · unfold Own
      rw [hv, ← List.flatMap_append] at hown'
      rw [show (l ++ [x]).length = l.length + 1 by simp]
      exact hown'
    · refine ((Below.refl base w0).alloc hbase _).trans ((Below.refl base _).grown hg (by simp; omega) fun g hgo => ?_)
      exact (World.ownsRow.lt hown g (by rw [hgo])).1
end
end Go.Proofs.Ytgkppjkmakomnaa
