/- What the reference's Unlink changes, in memory. -/
import Derived.Test.YtfdnciijibiodaaAccLinkM
import Derived.Test.YtfdnciijibiodaaAppSb
namespace Go.Proofs.Ytfdnciijibiodaa
open Go.RowKit Go.Lib

theorem set_keep {α : Type} {e : Nat} {enc : α → List Value} {k : Nat} {w : World} {base : Nat} {A : Option Addr} {c : Nat} {l : List α} (h : Own e enc k w base A c l) {p : Addr} (hp : ∀ g, A = some ⟨g, 0, none⟩ → g ≠ p.block) (v : Value) : Own e enc k (w.setCell p v) base A c l :=
  h.keepB fun g hg _ => Below.heap_setCell w p v g (hp g hg)
/-- as append_end, the blocks lying in whatever order -/
theorem append_endR {W1 w9 : World} {base b0 b1 g g2 n yc c9 k : Nat} {A9 : Option Addr} {cs : List Ac} {v : Av} {os9 : List Ow} (hown : Own 39 encAc 9 W1 base (some ⟨g, 0, none⟩) n cs) (hcl : RList W1 b0 cs)
    (hy : cs[k]? = some ⟨v, some ⟨g2, 0, none⟩, yc⟩) (hown9 : Own 43 encOw 4 w9 b1 A9 c9 os9) (hs9 : W1.heap.size ≤ w9.heap.size)
    (hf9 : ∀ b, b < W1.heap.size → (∀ g', (some ⟨g2, 0, none⟩ : Option Addr) = some ⟨g', 0, none⟩ → b ≠ g') → w9.heap[b]? = W1.heap[b]?) :
    AL (w9.setCell ⟨g, k * 9 + 3, none⟩ (.slice A9 os9.length c9)) (some ⟨g, 0, none⟩) n (cs.set k ⟨{ v with os := os9 }, A9, c9⟩) := by
  have hgg : g ≠ g2 := hown.apart (hcl.1 _ (List.mem_of_getElem? hy)) (by decide) rfl rfl
  have hgl := World.ownsRow.lt hown g (by simp [Value.ownBlock])
  have hown1 := hown.keepB (w' := w9) fun g' hg' hl => by
    injection hg' with q; injection q with q; subst q
    exact hf9 g hl fun g' e => by injection e with e; injection e with e; subst e; exact hgg
  have hst := hown1.stored encAc_ok (g := g) (j := 3) (y := ⟨{ v with os := os9 }, A9, c9⟩) (u := .slice A9 os9.length c9) rfl hy (by omega) rfl
  have ho9 := set_keep hown9 (p := ⟨g, k * 9 + 3, none⟩) (fun g' e => (hown1.apart hown9 (by decide) rfl e).symm) (.slice A9 os9.length c9)
  refine ⟨hst.rd encAc_ok, ?_, hst.cap, hst.maxc⟩
  have hcl2 : ∀ b ∈ cs, b.oA ≠ some ⟨g, 0, none⟩ := fun b hb e => hown.apart (hcl.1 b hb) (by decide) rfl e rfl
  intro b hb
  obtain ⟨j, hj⟩ := List.getElem?_of_mem hb
  rw [List.getElem?_set] at hj
  split at hj
  · split at hj
    · injection hj with hj; subst hj
      exact ⟨ho9.rd encOw_ok, ho9.cap, ho9.maxc⟩
    · cases hj
  · rename_i hjk
    have hbm := List.mem_of_getElem? hj
    have ho := hcl.1 b hbm
    have hne : b.oA ≠ some ⟨g2, 0, none⟩ := by
      obtain ⟨q1, q2⟩ := List.getElem?_eq_some_iff.1 hj
      obtain ⟨r1, r2⟩ := List.getElem?_eq_some_iff.1 hy
      rcases Nat.lt_or_gt_of_ne hjk with q | q
      · have := List.pairwise_iff_getElem.1 hcl.2 k j r1 q1 q
        rw [q2, r2] at this
        exact this g2 rfl
      · have := List.pairwise_iff_getElem.1 hcl.2 j k q1 r1 q
        rw [q2, r2] at this
        intro e
        exact this g2 e rfl
    have ho1 := ho.keepB (w' := w9) fun g' hg' hl => hf9 g' hl fun g'' e => by
      injection e with e; injection e with e
      rintro rfl
      exact hne (by rw [hg', e])
    have ho2 := set_keep ho1 (p := ⟨g, k * 9 + 3, none⟩) (fun g' e => by rintro rfl; exact hcl2 b hbm e) (.slice A9 os9.length c9)
    exact ⟨ho2.rd encOw_ok, ho2.cap, ho2.maxc⟩
/-- as store_end, the blocks lying in whatever order -/
theorem store_endR {W : World} {base b0 g g2 n yc k j : Nat} {cs : List Ac} {v : Av} {x : Ow} (t : Int) (hown : Own 39 encAc 9 W base (some ⟨g, 0, none⟩) n cs) (hcl : RList W b0 cs)
    (hy : cs[k]? = some ⟨v, some ⟨g2, 0, none⟩, yc⟩) (hx : v.os[j]? = some x) :
    AL (W.setCell ⟨g2, j * 4 + 3, none⟩ (.int .i64 t)) (some ⟨g, 0, none⟩) n (cs.set k ⟨{ v with os := v.os.set j { x with t := t } }, some ⟨g2, 0, none⟩, yc⟩) := by
  have hown2 := hcl.1 _ (List.mem_of_getElem? hy)
  simp only at hown2
  have hgg : g ≠ g2 := hown.apart hown2 (by decide) rfl rfl
  have hst := hown2.stored encOw_ok (g := g2) (i := j) (j := 3) (y := { x with t := t }) (u := .int .i64 t) rfl hx (by omega) rfl
  have hrd := ((hown.rd encAc_ok).set1 (p := ⟨g2, j * 4 + 3, none⟩) (fun b off e => by injection e with e; injection e with e; subst e; exact hgg) (.int .i64 t))
  refine ⟨hrd.reenc (by rw [List.length_set]) (fun i z hz => ?_), put_ok hy rfl hcl _ ⟨hst.rd encOw_ok, ?_, hown2.maxc⟩ ?_ (by simp), ?_, hown.maxc⟩
  · rw [List.getElem?_set] at hz
    split at hz
    · rename_i hik
      subst hik
      split at hz
      · injection hz with hz
        subst hz
        exact ⟨_, hy, by simp [encAc]⟩
      · cases hz
    · exact ⟨z, hz, rfl⟩
  · have := hown2.cap
    simpa using this
  · intro g' h1 h2 hne o
    refine World.cell?_of_block (w := W) (Below.heap_setCell W ⟨g2, j * 4 + 3, none⟩ _ g' ?_)
    show g' ≠ g2
    omega
  · have := hown.cap
    rw [List.length_set]; exact this
/-- the account's element of the reference's copy -/
theorem copy_atR {cs l : List Ac} {k j : Nat} {a : Ac} {s : ByteArray} {w : World} {base : Nat} (hv : vals cs = vals l) (hx : l[k]? = some a) (hno : ∀ y ∈ l.take k, eqS y.v.name s = false) (hcl : RList w base cs) (hj : j < a.v.os.length) :
    (∃ g2 yc, cs[k]? = some ⟨a.v, some ⟨g2, 0, none⟩, yc⟩ ∧ Own 43 encOw 4 w base (some ⟨g2, 0, none⟩) yc a.v.os) ∧ (∀ z ∈ cs.take k, eqS z.v.name s = false) ∧ cs.length = l.length := by
  have hlen : cs.length = l.length := by
    have : (vals cs).length = (vals l).length := by rw [hv]
    unfold vals at this
    rwa [List.length_map, List.length_map] at this
  have hkl := (List.getElem?_eq_some_iff.1 hx).1
  refine ⟨?_, fun z hz => ?_, hlen⟩
  · obtain ⟨y, hy⟩ : ∃ y, cs[k]? = some y := ⟨_, List.getElem?_eq_getElem (by omega)⟩
    have hyv : y.v = a.v := by
      have h1 := vals_get hy
      rw [hv, vals_get hx] at h1
      exact (Option.some.inj h1).symm
    have hown2 := hcl.1 _ (List.mem_of_getElem? hy)
    obtain ⟨yv, yA, yc⟩ := y
    simp only at hyv hown2
    subst hyv
    rcases hown2.form with ⟨_, q, _⟩ | ⟨g2, q, _⟩
    · rw [q] at hj; simp at hj
    · subst q
      exact ⟨g2, yc, hy, hown2⟩
  · have hz2 : z.v ∈ (vals cs).take k := by unfold vals; rw [← List.map_take]; exact List.mem_map.2 ⟨z, hz, rfl⟩
    rw [hv] at hz2
    unfold vals at hz2
    rw [← List.map_take, List.mem_map] at hz2
    obtain ⟨z', hz', e⟩ := hz2
    rw [← e]
    exact hno z' hz'
end Go.Proofs.Ytfdnciijibiodaa
