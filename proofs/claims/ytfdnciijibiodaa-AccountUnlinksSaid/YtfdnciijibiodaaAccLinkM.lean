/- What Link and Unlink change, in memory: an element of the list of accounts given a new list of vehicles. -/
import Derived.Test.YtfdnciijibiodaaAccFind
import Derived.Test.YtfdnciijibiodaaAccAll
namespace Go.Proofs.Ytfdnciijibiodaa
open Go.RowKit Go.Lib

theorem smL_of {l l' : List Ac} (h : vals l' = vals l) (hs : smL l) : smL l' := by
  have hm : ∀ a ∈ l', ∃ b ∈ l, b.v = a.v := fun a ha => by
    have : a.v ∈ vals l' := List.mem_map.2 ⟨a, ha, rfl⟩
    rw [h] at this
    obtain ⟨b, hb, e⟩ := List.mem_map.1 this
    exact ⟨b, hb, e⟩
  refine ⟨?_, fun a ha => ?_⟩
  · have : (vals l').length = (vals l).length := by rw [h]
    unfold vals at this
    rw [List.length_map, List.length_map] at this
    rw [this]; exact hs.1
  · obtain ⟨b, hb, e⟩ := hm a ha
    have := hs.2 b hb
    unfold smA at this ⊢
    rw [← e]; exact this
/-- the list after element k was given the vehicles os at A9 -/
theorem put_vals {cs : List Ac} {k : Nat} {a : Ac} (hk : cs[k]? = some a) {s : ByteArray} (hp : eqS a.v.name s = true) (hn : ∀ y ∈ cs.take k, eqS y.v.name s = false) (os : Av → List Ow) (A9 : Option Addr) (c9 : Nat) :
    vals (cs.set k ⟨{ a.v with os := os a.v }, A9, c9⟩) = modF (named s) (fun a => { a with os := os a }) (vals cs) := by
  have h1 : (vals cs)[k]? = some a.v := vals_get hk
  rw [modF_at h1 hp (fun y hy => by
    unfold vals at hy
    rw [← List.map_take, List.mem_map] at hy
    obtain ⟨z, hz, rfl⟩ := hy
    exact hn z hz)]
  unfold vals
  rw [List.map_set]
/-- accounts whose lists of vehicles are the call's own (or nil), each in a block of its own -/
def RList (w : World) (base : Nat) (l : List Ac) : Prop := (∀ b ∈ l, Own 43 encOw 4 w base b.oA b.oc b.v.os) ∧ l.Pairwise fun a b => ∀ g : Nat, a.oA = some ⟨g, 0, none⟩ → b.oA ≠ some ⟨g, 0, none⟩
theorem CList.r {w : World} {base : Nat} {l : List Ac} (h : CList w base l) : RList w base l := by
  refine ⟨fun b hb => ?_, h.2.imp fun hab g e1 e2 => hab (e1.trans e2.symm)⟩
  obtain ⟨g, hA, ho⟩ := h.1 b hb
  rw [hA]; exact ho
theorem RList.nil (w : World) (base : Nat) : RList w base [] := ⟨by simp, by simp⟩
theorem RList.st {w w' : World} {base : Nat} {l : List Ac} (h : RList w base l) (hb : Below w.heap.size w w') : RList w' base l := ⟨fun b hb' => (h.1 b hb').st hb, h.2⟩
theorem RList.keepB {w w' : World} {base : Nat} {l : List Ac} (h : RList w base l) (hk : ∀ g, base ≤ g → g < w.heap.size → w'.heap[g]? = w.heap[g]?) : RList w' base l := by
  refine ⟨fun b hb => ?_, h.2⟩
  have ho := h.1 b hb
  refine ho.keepB fun g hg hl => hk g ?_ hl
  rcases ho.form with ⟨q, _⟩ | ⟨g', q, h1, _⟩
  · rw [q] at hg; cases hg
  · rw [q] at hg; injection hg with hg; injection hg with hg; subst hg; exact h1
theorem RList.ok {w : World} {base : Nat} {l : List Ac} (h : RList w base l) : AsOk w l := fun b hb => ⟨(h.1 b hb).rd encOw_ok, (h.1 b hb).cap, (h.1 b hb).maxc⟩
theorem RList.snoc {w : World} {base B : Nat} {l : List Ac} {b : Ac} (h : RList w base l) (hx : Own 43 encOw 4 w base b.oA b.oc b.v.os) (hl : ∀ a ∈ l, ∀ g : Nat, a.oA = some ⟨g, 0, none⟩ → g < B) (hn : ∀ g : Nat, b.oA = some ⟨g, 0, none⟩ → B ≤ g) : RList w base (l ++ [b]) := by
  refine ⟨fun x hx' => ?_, List.pairwise_append.2 ⟨h.2, by simp, fun x hx' y hy => ?_⟩⟩
  · rcases List.mem_append.1 hx' with q | q
    · exact h.1 x q
    · simp at q; subst q; exact hx
  · simp at hy
    subst hy
    intro g e1 e2
    have := hl x hx' g e1
    have := hn g e2
    omega
theorem put_ok {w w' : World} {base : Nat} {cs : List Ac} {k : Nat} {a : Ac} (hk : cs[k]? = some a) {ga : Nat} (hga : a.oA = some ⟨ga, 0, none⟩) (h : RList w base cs) (y : Ac) (hy : AOk w' y)
    (hcell : ∀ g, base ≤ g → g < w.heap.size → ga ≠ g → ∀ o, w'.cell? ⟨g, o, none⟩ = w.cell? ⟨g, o, none⟩) (hs : w.heap.size ≤ w'.heap.size) : AsOk w' (cs.set k y) := by
  intro b hb
  obtain ⟨j, hj⟩ := List.getElem?_of_mem hb
  rw [List.getElem?_set] at hj
  split at hj
  · split at hj
    · injection hj with hj; subst hj; exact hy
    · cases hj
  · rename_i hjk
    have hbm := List.mem_of_getElem? hj
    have ho := h.1 b hbm
    have hne : b.oA ≠ some ⟨ga, 0, none⟩ := by
      obtain ⟨q1, q2⟩ := List.getElem?_eq_some_iff.1 hj
      obtain ⟨r1, r2⟩ := List.getElem?_eq_some_iff.1 hk
      rcases Nat.lt_or_gt_of_ne hjk with q | q
      · have := List.pairwise_iff_getElem.1 h.2 k j r1 q1 q
        rw [q2, r2] at this
        exact this ga hga
      · have := List.pairwise_iff_getElem.1 h.2 j k q1 r1 q
        rw [q2, r2] at this
        intro e
        exact this ga e hga
    refine ⟨(Rd.keepIf (ho.rd encOw_ok) fun b' off e hb' o => ?_).more hs, ho.cap, ho.maxc⟩
    rcases ho.form with ⟨q, _⟩ | ⟨g', q, h1, h2⟩
    · rw [q] at e; cases e
    · rw [q] at e
      injection e with e; injection e with e1 e2
      subst e1
      exact hcell g' h1 h2 (fun e => hne (by rw [q, e])) o
/-- what Link and Unlink hand back -/
def MovR (V : List Av) (err : Int) (w w' : World) (e : Ending) : Prop :=
  ∃ A c l', e = .returned (.tuple #[.slice A (List.length l') c, .int .i64 err]) ∧ vals l' = V ∧ AL w' A c l' ∧ Below w.heap.size w w'
theorem linkE_25 {L : List Av} {s : ByteArray} {o : Ow} (h : L.find? (named s) = none) : linkE L s o = 25 := by unfold linkE; rw [h]
theorem linkE_bad {L : List Av} {s : ByteArray} {o : Ow} {a : Av} (h : L.find? (named s) = some a) (h1 : corrE o ≠ 0) : linkE L s o = corrE o := by unfold linkE; rw [h]; simp [h1]
theorem linkE_3 {L : List Av} {s : ByteArray} {o : Ow} {a : Av} (h : L.find? (named s) = some a) (h1 : corrE o = 0) (h2 : 64 ≤ a.os.length) : linkE L s o = 3 := by unfold linkE; rw [h]; simp [h1, h2]
theorem linkE_9 {L : List Av} {s : ByteArray} {o : Ow} {a : Av} (h : L.find? (named s) = some a) (h1 : corrE o = 0) (h2 : ¬ 64 ≤ a.os.length) (h3 : (L.any fun b => conL b.os o) = true) : linkE L s o = 9 := by unfold linkE; rw [h]; simp [h1, h2, h3]
theorem linkE_0 {L : List Av} {s : ByteArray} {o : Ow} {a : Av} (h : L.find? (named s) = some a) (h1 : corrE o = 0) (h2 : ¬ 64 ≤ a.os.length) (h3 : (L.any fun b => conL b.os o) = false) : linkE L s o = 0 := by unfold linkE; rw [h]; simp [h1, h2, h3]
theorem linkL_no {L : List Av} {s : ByteArray} {o : Ow} (h : linkE L s o ≠ 0) : linkL L s o = L := by unfold linkL; rw [if_neg h]
theorem linkL_yes {L : List Av} {s : ByteArray} {o : Ow} (h : linkE L s o = 0) : linkL L s o = modF (named s) (fun a => { a with os := a.os ++ [o] }) L := by unfold linkL; rw [if_pos h]
theorem anyc_at {l : List Ac} {j : Nat} {b : Ac} {o : Ow} (h : l[j]? = some b) (hc : conL b.v.os o = true) : ((vals l).any fun b => conL b.os o) = true := List.any_eq_true.2 ⟨b.v, List.mem_map.2 ⟨b, List.mem_of_getElem? h, rfl⟩, hc⟩
theorem anyc_no {l : List Ac} {o : Ow} (h : ∀ b ∈ l.take l.length, conL b.v.os o = false) : ((vals l).any fun b => conL b.os o) = false := by
  rw [List.take_length] at h
  rw [List.any_eq_false]
  intro b hb
  obtain ⟨c, hc, rfl⟩ := List.mem_map.1 hb
  rw [h c hc]; simp
/-- behind an append to one account's vehicles and the store of the new list into the account -/
theorem append_end {W1 w9 : World} {base g g2 n yc c9 k : Nat} {A9 : Option Addr} {cs : List Ac} {v : Av} {os9 : List Ow} (hown : Own 39 encAc 9 W1 base (some ⟨g, 0, none⟩) n cs) (hcl : RList W1 (g + 1) cs)
    (hy : cs[k]? = some ⟨v, some ⟨g2, 0, none⟩, yc⟩) (hown9 : Own 43 encOw 4 w9 (g + 1) A9 c9 os9) (hb9 : Below (g + 1) W1 w9) (hs9 : W1.heap.size ≤ w9.heap.size)
    (hf9 : ∀ p : Addr, p.block < W1.heap.size → (∀ g', (some ⟨g2, 0, none⟩ : Option Addr) = some ⟨g', 0, none⟩ → p.block ≠ g') → w9.cell? p = W1.cell? p) :
    AL (w9.setCell ⟨g, k * 9 + 3, none⟩ (.slice A9 os9.length c9)) (some ⟨g, 0, none⟩) n (cs.set k ⟨{ v with os := os9 }, A9, c9⟩) := by
  have hown1 := hown.keepB (w' := w9) fun g' hg' _ => by injection hg' with q; injection q with q; subst q; exact hb9.block g (Nat.lt_succ_self g)
  have hst := hown1.stored encAc_ok (g := g) (j := 3) (y := ⟨{ v with os := os9 }, A9, c9⟩) (u := .slice A9 os9.length c9) rfl hy (by omega) rfl
  have ho9 := hown9.other (p := ⟨g, k * 9 + 3, none⟩) (Nat.lt_succ_self g) (.slice A9 os9.length c9)
  refine ⟨hst.rd encAc_ok, put_ok hy rfl hcl _ ⟨ho9.rd encOw_ok, ho9.cap, ho9.maxc⟩ ?_ (by simpa using hs9), hst.cap, hst.maxc⟩
  intro g' h1 h2 hne o
  refine (World.cell?_of_block (w := w9) (Below.heap_setCell w9 ⟨g, k * 9 + 3, none⟩ _ g' (by show g' ≠ g; omega))).trans (hf9 ⟨g', o, none⟩ h2 fun g'' e => ?_)
  injection e with e; injection e with e
  show g' ≠ g''
  omega
theorem Rd.drop {α : Type} {enc : α → List Value} {k : Nat} {w : World} {B b off : Nat} {l : List α} (h : Rd enc k w B (some ⟨b, off, none⟩) l) (n : Nat) : Rd enc k w B (some ⟨b, off + n * k, none⟩) (l.drop n) := by
  intro hne
  have hne' : l ≠ [] := by rintro rfl; simp at hne
  obtain ⟨b', off', hA, hb, hc⟩ := h hne'
  injection hA with hA; injection hA with h1 h2
  subst h1 h2
  refine ⟨b, off + n * k, rfl, hb, fun i x hx j u hu => ?_⟩
  rw [List.getElem?_drop] at hx
  have := hc (n + i) x hx j u hu
  rw [Nat.add_mul] at this
  rw [← this]; congr 2; omega
theorem Rd.reenc {α : Type} {enc : α → List Value} {k : Nat} {w : World} {B : Nat} {A : Option Addr} {l l' : List α} (h : Rd enc k w B A l) (hl : l.length = l'.length) (he : ∀ (i : Nat) (x : α), l'[i]? = some x → ∃ y, l[i]? = some y ∧ enc x = enc y) : Rd enc k w B A l' := by
  intro hne
  have hne' : l ≠ [] := by
    rintro rfl
    exact hne (List.eq_nil_of_length_eq_zero hl.symm)
  obtain ⟨b, off, hA, hb, hc⟩ := h hne'
  refine ⟨b, off, hA, hb, fun i x hx j u hu => ?_⟩
  obtain ⟨y, hy, e⟩ := he i x hx
  exact hc i y hy j u (by rw [← e]; exact hu)
/-- behind a store into one account's vehicles -/
theorem store_end {W : World} {base g g2 n yc k j : Nat} {cs : List Ac} {v : Av} {x : Ow} (t : Int) (hown : Own 39 encAc 9 W base (some ⟨g, 0, none⟩) n cs) (hcl : RList W (g + 1) cs)
    (hy : cs[k]? = some ⟨v, some ⟨g2, 0, none⟩, yc⟩) (hx : v.os[j]? = some x) :
    AL (W.setCell ⟨g2, j * 4 + 3, none⟩ (.int .i64 t)) (some ⟨g, 0, none⟩) n (cs.set k ⟨{ v with os := v.os.set j { x with t := t } }, some ⟨g2, 0, none⟩, yc⟩) := by
  have hown2 := hcl.1 _ (List.mem_of_getElem? hy)
  simp only at hown2
  have hg2 := World.ownsRow.lt hown2 g2 (by simp [Value.ownBlock])
  have hst := hown2.stored encOw_ok (g := g2) (i := j) (j := 3) (y := { x with t := t }) (u := .int .i64 t) rfl hx (by omega) rfl
  have hrd := ((hown.rd encAc_ok).set1 (p := ⟨g2, j * 4 + 3, none⟩) (fun b off e => by injection e with e; injection e with e; subst e; show g ≠ g2; omega) (.int .i64 t))
  refine ⟨hrd.reenc (by rw [List.length_set]) (fun i z hz => ?_), put_ok hy rfl hcl _ ⟨hst.rd encOw_ok, ?_, hown2.maxc⟩ ?_ (by simp), ?_, hown.maxc⟩
  · rw [List.getElem?_set] at hz
    split at hz
    · rename_i hik
      subst hik
      split at hz
      · injection hz with hz
        subst hz
        exact ⟨_, hy, by simp [encAc]⟩
      · cases hz
    · exact ⟨z, hz, rfl⟩
  · have := hown2.cap
    simpa using this
  · intro g' h1 h2 hne o
    refine World.cell?_of_block (w := W) (Below.heap_setCell W ⟨g2, j * 4 + 3, none⟩ _ g' ?_)
    show g' ≠ g2
    omega
  · have := hown.cap
    rw [List.length_set]; exact this
theorem unlinkE_25 {L : List Av} {s v : ByteArray} {t : Int} (h : L.find? (named s) = none) : unlinkE L s v t = 25 := by unfold unlinkE; rw [h]
theorem unlinkE_12 {L : List Av} {s v : ByteArray} {t : Int} {a : Av} (h : L.find? (named s) = some a) (h1 : timeB t = false) : unlinkE L s v t = 12 := by unfold unlinkE; rw [h]; simp [h1]
theorem unlinkE_10 {L : List Av} {s v : ByteArray} {t : Int} {a : Av} (h : L.find? (named s) = some a) (h1 : timeB t = true) (h2 : ownA v t a = false) : unlinkE L s v t = 10 := by unfold unlinkE; rw [h]; simp [h1, h2]
theorem unlinkE_0 {L : List Av} {s v : ByteArray} {t : Int} {a : Av} (h : L.find? (named s) = some a) (h1 : timeB t = true) (h2 : ownA v t a = true) : unlinkE L s v t = 0 := by unfold unlinkE; rw [h]; simp [h1, h2]
theorem unlinkL_no {L : List Av} {s v : ByteArray} {t : Int} (h : unlinkE L s v t ≠ 0) : unlinkL L s v t = L := by unfold unlinkL; rw [if_neg h]
theorem unlinkL_yes {L : List Av} {s v : ByteArray} {t : Int} (h : unlinkE L s v t = 0) : unlinkL L s v t = modF (named s) (fun a => { a with os := cutL v t a.os }) L := by unfold unlinkL; rw [if_pos h]
/-- the account's element of the copy -/
theorem copy_at {cs l : List Ac} {k : Nat} {a : Ac} {s : ByteArray} {w : World} {base : Nat} (hv : vals cs = vals l) (hx : l[k]? = some a) (hno : ∀ y ∈ l.take k, eqS y.v.name s = false) (hcl : CList w base cs) :
    (∃ g2 yc, cs[k]? = some ⟨a.v, some ⟨g2, 0, none⟩, yc⟩ ∧ Own 43 encOw 4 w base (some ⟨g2, 0, none⟩) yc a.v.os) ∧ (∀ z ∈ cs.take k, eqS z.v.name s = false) ∧ cs.length = l.length := by
  have hlen : cs.length = l.length := by
    have : (vals cs).length = (vals l).length := by rw [hv]
    unfold vals at this
    rwa [List.length_map, List.length_map] at this
  have hkl := (List.getElem?_eq_some_iff.1 hx).1
  refine ⟨?_, fun z hz => ?_, hlen⟩
  · obtain ⟨y, hy⟩ : ∃ y, cs[k]? = some y := ⟨_, List.getElem?_eq_getElem (by omega)⟩
    have hyv : y.v = a.v := by
      have h1 := vals_get hy
      rw [hv, vals_get hx] at h1
      exact (Option.some.inj h1).symm
    obtain ⟨g2, hA2, hown2⟩ := hcl.1 _ (List.mem_of_getElem? hy)
    obtain ⟨yv, yA, yc⟩ := y
    simp only at hyv hA2 hown2
    subst hyv hA2
    exact ⟨g2, yc, hy, hown2⟩
  · have hz2 : z.v ∈ (vals cs).take k := by unfold vals; rw [← List.map_take]; exact List.mem_map.2 ⟨z, hz, rfl⟩
    rw [hv] at hz2
    unfold vals at hz2
    rw [← List.map_take, List.mem_map] at hz2
    obtain ⟨z', hz', e⟩ := hz2
    rw [← e]
    exact hno z' hz'
end Go.Proofs.Ytfdnciijibiodaa
