/- Joined texts: BillCap0, BillMem, BillMix. -/
import Derived.Test.YtlnnbkpcnhlfcaaDoorJOStabOwn
import Derived.Test.YtlnnbkpcnhlfcaaDoorJAccOwner
import Derived.Test.YtlnnbkpcnhlfcaaDoorCapApply
import Derived.StringKeys
import Derived.Test.YtlnnbkpcnhlfcaaDoorCapHist
/- What the walk of bill.Capped leans on. -/
set_option linter.unusedSimpArgs false
namespace Go.Proofs.YtlnnbkpcnhlfcaaDoor
open Go.RowKit Go.Lib Go.MapKept Go.ChangeMaps
open Go.Maps (Keyed)

theorem keyS : Keyed Tryd.prog 9 := Go.Maps.string_keyed Tryd.underlying9
theorem EnMem.keepA {α : Type} {e k : Nat} {enc : α → List Value} {w w' : World} {base b1 : Nat} {L : List En} {l : List α} {A : Option Addr} {c : Nat} (h : EnMem w base L) (ho : Own e enc k w b1 A c l) (hne : 3 ≠ e)
    (hf : ∀ b, b < w.heap.size → (∀ g, A = some ⟨g, 0, none⟩ → b ≠ g) → w'.heap[b]? = w.heap[b]?) : EnMem w' base L :=
  ⟨fun x hx => (h.1 x hx).keepB fun g hg hl => hf g hl fun _ e' => (h.1 x hx).apart ho hne hg e', h.2⟩
theorem MapN.apart {α : Type} {e k k1 : Nat} {enc : α → List Value} {w : World} {b1 mb : Nat} {l : List α} {m : List (Value × Value)} {A : Option Addr} {c : Nat} {P : Program} (h : MapN P k1 w mb m) (ho : Own e enc k w b1 A c l) {g : Nat} (hA : A = some ⟨g, 0, none⟩) : mb ≠ g := by
  rintro rfl
  obtain ⟨es, hb, _⟩ := h
  subst hA
  rcases ho.2 with ⟨q, _⟩ | ⟨g1, cap, cur, hv, _, hh, _⟩
  · injection q with q; cases q
  · injection hv with q; injection q with q; injection q with q
    subst q
    rw [hb] at hh
    cases hh
theorem MapN.keepA {α : Type} {e k k1 : Nat} {enc : α → List Value} {w w' : World} {b1 mb : Nat} {l : List α} {m : List (Value × Value)} {A : Option Addr} {c : Nat} {P : Program} (h : MapN P k1 w mb m) (ho : Own e enc k w b1 A c l)
    (hf : ∀ b, b < w.heap.size → (∀ g, A = some ⟨g, 0, none⟩ → b ≠ g) → w'.heap[b]? = w.heap[b]?) : MapN P k1 w' mb m :=
  h.keepB (hf mb h.lt fun _ hA => h.apart ho hA)
theorem MapN.isM {k1 : Nat} {w : World} {mb : Nat} {m : List (Value × Value)} {P : Program} (h : MapN P k1 w mb m) : ∃ o : Obj, w.heap[mb]? = some o ∧ o.isCells = false := by
  obtain ⟨es, hb, _⟩ := h
  exact ⟨_, hb, rfl⟩
theorem LList.kept {w w' : World} {base mb : Nat} {l : List Cg} (h : LList w base l) (hg : w.grownBy w' (some mb)) (hm : ∃ o : Obj, w.heap[mb]? = some o ∧ o.isCells = false) : LList w' base l :=
  ⟨fun e he => own_kept (h.1 e he) hg (fun r hr => by injection hr with hr; subst hr; exact hm), h.2⟩
theorem enV_no {L : List En} {nm : ByteArray} (h : ∀ e ∈ L, e.nm ≠ nm) : ∀ p ∈ L.map enV, p.1 ≠ Value.string nm := by
  intro p hp
  obtain ⟨e, he, rfl⟩ := List.mem_map.1 hp
  intro q
  injection q with q
  exact h e he q
theorem owner_small {acs : List Ac} {v : ByteArray} {t : Int} (h : ∀ a ∈ acs, a.v.name.size ≤ 1000) : (ownerN (vals acs) v t).size ≤ 1000 := by
  unfold ownerN
  cases hf : (vals acs).find? (ownA v t) with
  | none => exact Nat.zero_le _
  | some a =>
    obtain ⟨b, hb, e⟩ := List.mem_map.1 (List.mem_of_find?_eq_some hf)
    have := h b hb
    rw [e] at this
    exact this
theorem castL_app' (a : List Nat) (k : Nat) : castL (a ++ [k]) = castL a ++ [(k : Int)] := by simp [castL]
/-- what Capped hands back -/
def CapR (ac : List Av) (caps : List Cp) (cs : List CV) (w w' : World) (e : Ending) : Prop :=
  ∃ A c r, e = .returned (.tuple #[.slice A r.length c, .int .i64 (applyE caps cs)]) ∧ (applyE caps cs = 0 → cvs r = cappedL ac caps cs) ∧ (applyE caps cs ≠ 0 → r = []) ∧ Own 82 encCg 7 w' w.heap.size A c r ∧ CgRs w' r ∧ Below w.heap.size w w'

theorem below_none {w w' : World} (hg : w.grownBy w' none) : Below w.heap.size w w' := (Below.refl _ w).grown hg (Nat.le_refl _) fun g hgo => by cases hgo
end Go.Proofs.YtlnnbkpcnhlfcaaDoor
/- What stays when out's charges are turned. -/
set_option linter.unusedSimpArgs false
namespace Go.Proofs.YtlnnbkpcnhlfcaaDoor
open Go.RowKit Go.Lib Go.MapKept Go.ChangeMaps

/-- lines lengthened, the charge's amount set -/
theorem LList.upd {w w' : World} {base i : Nat} {l : List Cg} {x x' : Cg} (h : LList w base l) (hi : l[i]? = some x) (ho : Own 99 encLn 2 w' base x'.lA x'.lc x'.c.lns)
    (hf : ∀ b, b < w.heap.size → (∀ g, x.lA = some ⟨g, 0, none⟩ → b ≠ g) → w'.heap[b]? = w.heap[b]?) (hl : ∀ g, x'.lA = some ⟨g, 0, none⟩ → x.lA = some ⟨g, 0, none⟩ ∨ w.heap.size ≤ g) : LList w' base (l.set i x') := by
  have hp := List.pairwise_iff_getElem.1 h.2
  obtain ⟨hil, hie⟩ := List.getElem?_eq_some_iff.1 hi
  have hap : ∀ (m : Nat) (y : Cg), l[m]? = some y → i ≠ m → Ap x.lA y.lA := fun m y hy hne => by
    obtain ⟨h1, h1e⟩ := List.getElem?_eq_some_iff.1 hy
    intro g g1 g2
    rcases Nat.lt_or_gt_of_ne hne with q | q
    · have := hp i m hil h1 q; rw [h1e, hie] at this
      rcases this with q2 | q2
      · rw [q2] at g1; cases g1
      · exact q2 (g1.trans g2.symm)
    · have := hp m i h1 hil q; rw [h1e, hie] at this
      rcases this with q2 | q2
      · rw [q2] at g2; cases g2
      · exact q2 (g2.trans g1.symm)
  have hap2 : ∀ (m : Nat) (y : Cg), l[m]? = some y → i ≠ m → x'.lA = none ∨ x'.lA ≠ y.lA := fun m y hy hne => by
    rcases ho.form with ⟨q, _⟩ | ⟨g, q, _⟩
    · exact .inl q
    · right
      intro e
      exact (hap m y hy hne).moved (h.1 y (List.mem_of_getElem? hy)) hl g q (e.symm.trans q)
  refine ⟨fun y hy => ?_, ?_⟩
  · obtain ⟨m, hm⟩ := List.mem_iff_getElem?.1 hy
    rw [List.getElem?_set] at hm
    split at hm
    · obtain rfl := Option.some.inj hm; exact ho
    · rename_i q
      exact (hap m y hm q).keep (h.1 y (List.mem_of_getElem? hm)) hf
  · rw [List.pairwise_iff_getElem]
    intro a b ha hb hab
    rw [List.length_set] at ha hb
    rw [List.getElem_set, List.getElem_set]
    split
    · rename_i q
      subst q
      rw [if_neg (by omega)]
      exact hap2 b _ (List.getElem?_eq_getElem hb) (by omega)
    · rename_i q
      split
      · rename_i q2
        subst q2
        rcases hap2 a _ (List.getElem?_eq_getElem ha) (by omega) with q3 | q3
        · by_cases q4 : l[a].lA = none
          · exact .inl q4
          · right; rw [q3]; exact q4
        · exact .inr (Ne.symm q3)
      · exact hp a b ha hb hab
theorem LList.setO {w : World} {base go b1 c : Nat} {l xs : List Cg} (h : LList w base l) (ho : Own 82 encCg 7 w b1 (some ⟨go, 0, none⟩) c xs) (j : Nat) (v : Value) : LList (w.setCell ⟨go, j, none⟩ v) base l :=
  ⟨fun x hx => (h.1 x hx).keepB fun g hg _ => Below.heap_setCell w ⟨go, j, none⟩ v g ((h.1 x hx).apart ho (by decide) hg rfl), h.2⟩
theorem set_get {α : Type} {l : List α} {i : Nat} {x : α} (h : l[i]? = some x) (y : α) : (l.set i y)[i]? = some y := by
  rw [List.getElem?_set_self (List.getElem?_eq_some_iff.1 h).1]
/-- only block go and blocks of lines may be turned -/
def ChO (go : Nat) (w w' : World) : Prop := w.heap.size ≤ w'.heap.size ∧ ∀ b, b < w.heap.size → b ≠ go → (∀ cs fr, w.heap[b]? ≠ some (.cells cs 99 fr)) → w'.heap[b]? = w.heap[b]?
theorem ChO.refl (go : Nat) (w : World) : ChO go w w := ⟨Nat.le_refl _, fun _ _ _ _ => rfl⟩
theorem ChO.trans {go : Nat} {a b c : World} (h : ChO go a b) (k : ChO go b c) : ChO go a c :=
  ⟨Nat.le_trans h.1 k.1, fun i hi hne hl => by
    have e := h.2 i hi hne hl
    exact (k.2 i (Nat.lt_of_lt_of_le hi h.1) hne (fun cs fr => by rw [e]; exact hl cs fr)).trans e⟩
theorem ChO.below {go : Nat} {a b : World} (h : Below a.heap.size a b) : ChO go a b := ⟨h.size, fun i hi _ _ => h.block i hi⟩
theorem ChO.drew {go : Nat} {a b : World} (h : ChO go a b) (n : Nat) : ChO go a (b.drewN n) := h
theorem ChO.app {go base c k : Nat} {a b : World} {A : Option Addr} {l : List Ln} (ho : Own 99 encLn k a base A c l) (hs : a.heap.size ≤ b.heap.size) (hf : ∀ i, i < a.heap.size → (∀ g, A = some ⟨g, 0, none⟩ → i ≠ g) → b.heap[i]? = a.heap[i]?) : ChO go a b :=
  ⟨hs, fun i hi _ hl => hf i hi fun g hA e => by
    subst e
    subst hA
    rcases ho.2 with ⟨q, _⟩ | ⟨g1, cap, cur, hv, _, hh, _⟩
    · injection q with q; cases q
    · injection hv with q; injection q with q; injection q with q
      subst q
      exact hl _ _ hh⟩
theorem ChO.set {go j : Nat} {a b : World} (h : ChO go a b) (v : Value) : ChO go a (b.setCell ⟨go, j, none⟩ v) :=
  h.trans ⟨by simp, fun i _ hne _ => Below.heap_setCell b ⟨go, j, none⟩ v i hne⟩
theorem Own.cho {α : Type} {e k go : Nat} {enc : α → List Value} {w w' : World} {base : Nat} {A : Option Addr} {c : Nat} {l : List α} (h : Own e enc k w base A c l) (hc : ChO go w w') (hne : e ≠ 99) (hg : ∀ g, A = some ⟨g, 0, none⟩ → g ≠ go) : Own e enc k w' base A c l :=
  h.keepB fun g hA hl => hc.2 g hl (hg g hA) fun cs fr => by
    subst hA
    rcases h.2 with ⟨q, _⟩ | ⟨g1, cap, cur, hv, _, hh, _⟩
    · injection q with q; cases q
    · injection hv with q; injection q with q; injection q with q
      subst q
      rw [hh]
      intro e
      injection e with e
      injection e with _ e _
      exact hne e
theorem Blk.cho {go : Nat} {w w' : World} {b : Nat} {cs : Array Value} {t : TypeId} (h : Blk w b cs t) (hc : ChO go w w') (hne : t ≠ 99) (hg : b ≠ go) : Blk w' b cs t :=
  (hc.2 b h.lt hg fun cs fr => by
    rw [show w.heap[b]? = _ from h]
    intro e
    injection e with e
    injection e with _ e _
    exact hne e).trans h
theorem Rd.cho {α : Type} {e k go c : Nat} {enc : α → List Value} {w w' : World} {base : Nat} {A : Option Addr} {l : List α} (h : Own e enc k w base A c l) (hE : Enc enc k) (hc : ChO go w w') (hne : e ≠ 99) (hg : ∀ g, A = some ⟨g, 0, none⟩ → g ≠ go) : Rd enc k w' w'.heap.size A l :=
  (h.cho hc hne hg).rd hE
theorem MapIt.cho {P : Program} {k1 r mb cnt go e k base c : Nat} {α : Type} {enc : α → List Value} {w w' : World} {l : List (Value × Value)} {left : Nat → Bool} {xs : List α} (h : MapIt P k1 w r mb l left cnt) (hc : ChO go w w') (ho : Own e enc k w base (some ⟨go, 0, none⟩) c xs) : MapIt P k1 w' r mb l left cnt := by
  have hcell : ∃ cs t fr, w.heap[go]? = some (.cells cs t fr) := by
    rcases ho.2 with ⟨q, _⟩ | ⟨g1, cap, cur, hv, _, hh, _⟩
    · injection q with q; cases q
    · injection hv with q; injection q with q; injection q with q
      subst q
      exact ⟨_, _, _, hh⟩
  obtain ⟨cs, t, fr, hcell⟩ := hcell
  obtain ⟨l1, l2, _⟩ := h.lt
  have h0 := h
  obtain ⟨es, since, seen, c0, hb, _, _, _, hr, _⟩ := h
  refine h0.keepB (hc.2 mb l2 ?_ ?_) (hc.2 r l1 ?_ ?_)
  · rintro rfl; rw [hb] at hcell; cases hcell
  · intro cs fr; rw [hb]; intro e; cases e
  · rintro rfl; rw [hr] at hcell; cases hcell
  · intro cs fr; rw [hr]; intro e; cases e
theorem EnMem.cho {w w' : World} {base go b1 c : Nat} {L : List En} {xs : List Cg} (h : EnMem w base L) (hc : ChO go w w') (ho : Own 82 encCg 7 w b1 (some ⟨go, 0, none⟩) c xs) : EnMem w' base L :=
  ⟨fun x hx => (h.1 x hx).cho hc (by decide) fun g hg => (h.1 x hx).apart ho (by decide) hg rfl, h.2⟩
theorem MapIt.isM {P : Program} {k1 r mb cnt : Nat} {w : World} {l : List (Value × Value)} {left : Nat → Bool} (h : MapIt P k1 w r mb l left cnt) : ∃ o : Obj, w.heap[r]? = some o ∧ o.isCells = false := by
  obtain ⟨es, since, seen, c0, hb, _, _, _, hr, _⟩ := h
  exact ⟨_, hr, rfl⟩
theorem MapIt.apart {α : Type} {e k k1 cnt r : Nat} {enc : α → List Value} {w : World} {b1 mb : Nat} {l : List α} {m : List (Value × Value)} {left : Nat → Bool} {A : Option Addr} {c : Nat} {P : Program} (h : MapIt P k1 w r mb m left cnt) (ho : Own e enc k w b1 A c l) {g : Nat} (hA : A = some ⟨g, 0, none⟩) : r ≠ g ∧ mb ≠ g := by
  subst hA
  obtain ⟨es, since, seen, c0, hb, _, _, _, hr, _⟩ := h
  rcases ho.2 with ⟨q, _⟩ | ⟨g1, cap, cur, hv, _, hh, _⟩
  · injection q with q; cases q
  · injection hv with q; injection q with q; injection q with q
    subst q
    exact ⟨(by rintro rfl; rw [hr] at hh; cases hh), (by rintro rfl; rw [hb] at hh; cases hh)⟩
end Go.Proofs.YtlnnbkpcnhlfcaaDoor
/- Charges of which some are capped, in plain words. No program in sight. -/
namespace Go.Proofs.YtlnnbkpcnhlfcaaDoor

def mixL (ac : List Av) (caps : List Cp) (cs : List CV) (D : Nat → Bool) : List CV := (List.range cs.length).map fun i => if D i = true then capOne ac caps cs i else chAt cs i
section
variable {ac : List Av} {caps : List Cp} {cs : List CV} {D : Nat → Bool}
theorem mixL_len : (mixL ac caps cs D).length = cs.length := by simp [mixL]
theorem mixL_at {i : Nat} (h : i < cs.length) : (mixL ac caps cs D)[i]? = some (if D i = true then capOne ac caps cs i else chAt cs i) := by
  unfold mixL; rw [List.getElem?_map, List.getElem?_range h]; rfl
theorem mixL_ext {l : List CV} (hl : l.length = cs.length) (h : ∀ i, i < cs.length → l[i]? = some (if D i = true then capOne ac caps cs i else chAt cs i)) : l = mixL ac caps cs D := by
  apply List.ext_getElem?
  intro i
  by_cases hi : i < cs.length
  · rw [h i hi, mixL_at hi]
  · rw [List.getElem?_eq_none (by omega), List.getElem?_eq_none (by rw [mixL_len]; omega)]
theorem mixL_none : mixL ac caps cs (fun _ => false) = cs := by
  symm
  refine mixL_ext rfl fun i hi => ?_
  simp only [Bool.false_eq_true, if_false]
  unfold chAt
  rw [List.getElem?_eq_getElem hi]; rfl
theorem mixL_all (h : ∀ i, i < cs.length → hasO ac (chAt cs i) = true → D i = true) : mixL ac caps cs D = cappedL ac caps cs := by
  symm
  refine mixL_ext (cappedL_len ac caps cs) fun i hi => ?_
  rw [cappedL_at hi]
  by_cases hd : D i = true
  · rw [if_pos hd]
  · rw [if_neg hd]
    congr 1
    unfold capOne
    rw [if_neg fun q => hd (h i hi q)]
theorem mixL_set {i : Nat} (hi : i < cs.length) : (mixL ac caps cs D).set i (capOne ac caps cs i) = mixL ac caps cs (fun j => D j || j == i) := by
  refine mixL_ext (by rw [List.length_set, mixL_len]) fun j hj => ?_
  by_cases q : i = j
  · subst q
    rw [List.getElem?_set_self (by rw [mixL_len]; exact hi)]
    simp
  · rw [List.getElem?_set_ne q, mixL_at hj]
    have : (j == i) = false := by simp [Ne.symm q]
    rw [this, Bool.or_false]
theorem mixL_skip {i : Nat} (he : capOne ac caps cs i = chAt cs i) : mixL ac caps cs D = mixL ac caps cs (fun j => D j || j == i) := by
  refine mixL_ext mixL_len fun j hj => ?_
  rw [mixL_at hj]
  by_cases q : j = i
  · subst q
    simp [he]
  · have : (j == i) = false := by simp [q]
    rw [this, Bool.or_false]
/-- whose places are done -/
def DoneR (L : List En) (left : Nat → Bool) (n : Nat) (D : Nat → Bool) : Prop := ∀ i, i < n → (D i = true ↔ ∃ j e, L[j]? = some e ∧ left j = false ∧ i ∈ e.pl)
theorem DoneR.start {L : List En} {n : Nat} : DoneR L (fun _ => true) n (fun _ => false) := fun i _ => ⟨fun h => (by cases h), fun ⟨_, _, _, h, _⟩ => (by cases h)⟩
theorem DoneR.all {L : List En} {left : Nat → Bool} (h : DoneR L left cs.length D) (he : EnOk ac cs cs.length L) (hl : ∀ j, j < L.length → left j = false) : mixL ac caps cs D = cappedL ac caps cs := by
  refine mixL_all fun i hi ho => (h i hi).2 ?_
  obtain ⟨e, hem, hn⟩ := he.2.2.1 i hi ho
  obtain ⟨j, hj⟩ := List.mem_iff_getElem?.1 hem
  refine ⟨j, e, hj, hl j (List.getElem?_eq_some_iff.1 hj).1, ?_⟩
  rw [he.2.1 e hem]
  unfold idxL
  rw [List.mem_filter, List.mem_range]
  exact ⟨hi, by rw [isO_own ho]; exact (eqS_iff _ _).2 hn.symm⟩
/-- with the first m places of entry j -/
theorem DoneR.next {L : List En} {left : Nat → Bool} {j : Nat} {e : En} (h : DoneR L left cs.length D) (hj : L[j]? = some e) {D' : Nat → Bool} (hd : ∀ i, D' i = (D i || decide (i ∈ e.pl))) : DoneR L (fun m => left m && !(m == j)) cs.length D' := by
  intro i hi
  rw [hd, Bool.or_eq_true, h i hi, decide_eq_true_eq]
  constructor
  · rintro (⟨m, x, h1, h2, h3⟩ | h1)
    · exact ⟨m, x, h1, by simp [h2], h3⟩
    · exact ⟨j, e, hj, by simp, h1⟩
  · rintro ⟨m, x, h1, h2, h3⟩
    by_cases q : m = j
    · subst q
      rw [hj] at h1
      obtain rfl := Option.some.inj h1
      exact .inr h3
    · exact .inl ⟨m, x, h1, by simpa [q] using h2, h3⟩
/-- a place of an entry that is still to come has not been done -/
theorem DoneR.fresh {L : List En} {left : Nat → Bool} {j : Nat} {e : En} (h : DoneR L left cs.length D) (he : EnOk ac cs cs.length L) (hj : L[j]? = some e) (hl : left j = true) {i : Nat} (hi : i ∈ e.pl) : D i = false := by
  cases hd : D i
  · rfl
  · exfalso
    have hem := List.mem_of_getElem? hj
    have hi2 : i ∈ idxL ac e.nm cs cs.length := by rw [← he.2.1 e hem]; exact hi
    obtain ⟨hin, ho⟩ := idxL_lt hi2
    obtain ⟨m, x, h1, h2, h3⟩ := (h i hin).1 hd
    have hxm := List.mem_of_getElem? h1
    have hx2 : i ∈ idxL ac x.nm cs cs.length := by rw [← he.2.1 x hxm]; exact h3
    have ho2 := (idxL_lt hx2).2
    unfold isO at ho ho2
    simp only [Bool.and_eq_true, eqS_iff] at ho ho2
    have hnn : e.nm = x.nm := ho.2.symm.trans ho2.2
    have hmj : m = j := by
      have := enV_one he.1 hj rfl m (.slice x.A x.pl.length x.c) (by rw [List.getElem?_map, h1]; simp [enV, hnn])
      exact this
    subst hmj
    rw [hl] at h2; cases h2
theorem set_self {α : Type} {l : List α} {i : Nat} {x : α} (h : l[i]? = some x) : l.set i x = l := by
  apply List.ext_getElem?
  intro j
  rw [List.getElem?_set]
  split
  · rename_i q
    subst q
    rw [h, if_pos (List.getElem?_eq_some_iff.1 h).1]
  · rfl
end
theorem capped_lns {ac : List Av} {caps : List Cp} {l r : List Cg} (h : ∀ x ∈ l, x.c.lns.length ≤ 900) (hr : cvs r = cappedL ac caps (cvs l)) : ∀ x ∈ r, x.c.lns.length ≤ 1000 := by
  intro x hx
  have hm : x.c ∈ cappedL ac caps (cvs l) := by rw [← hr]; exact List.mem_map_of_mem hx
  unfold cappedL at hm
  obtain ⟨i, hi, he⟩ := List.mem_map.1 hm
  have hi := List.mem_range.1 hi
  rw [cvs_len] at hi
  have hb : (chAt (cvs l) i).lns.length ≤ 900 := by
    rw [chAt_of (cvs_at (List.getElem?_eq_getElem hi))]
    exact h _ (List.getElem_mem hi)
  rw [← he]
  unfold capOne lessC
  split
  · split
    · simp; omega
    · omega
  · omega
end Go.Proofs.YtlnnbkpcnhlfcaaDoor
