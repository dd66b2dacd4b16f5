/- The sums of the days add up to all amounts. No program in sight. -/
import Derived.Test.YtlnnbkpcnhlfcaaDoorJBillTot
import Derived.Test.YtlnnbkpcnhlfcaaDoorFirst
namespace Go.Proofs.YtlnnbkpcnhlfcaaDoor

theorem bs_sum_none {d c : Int} : ∀ {ds : List Int}, d ∉ ds → (ds.map fun e => if d = e then c else 0).sum = 0
  | [], _ => rfl
  | y :: ds, h => by
    rw [List.map_cons, List.sum_cons, if_neg (fun e : d = y => h (by rw [e]; exact List.mem_cons_self ..)), bs_sum_none (ds := ds) (fun q => h (List.mem_cons_of_mem _ q))]
    rfl
theorem bs_sum_one : ∀ {ds : List Int}, ds.Nodup → ∀ {d c : Int}, d ∈ ds → (ds.map fun e => if d = e then c else 0).sum = c
  | [], _, _, _, h => by cases h
  | x :: ds, hn, d, c, h => by
    obtain ⟨hx, hn⟩ := List.nodup_cons.1 hn
    rw [List.map_cons, List.sum_cons]
    rcases List.mem_cons.1 h with rfl | h
    · rw [if_pos rfl]
      have : (ds.map fun e => if d = e then c else 0).sum = 0 := bs_sum_none hx
      rw [this]; omega
    · rw [if_neg (fun e : d = x => hx (by rw [← e]; exact h)), bs_sum_one hn h]; omega
theorem bs_sum_add2 (f g : Int → Int) : ∀ ds : List Int, (ds.map fun e => f e + g e).sum = (ds.map f).sum + (ds.map g).sum
  | [] => rfl
  | x :: ds => by rw [List.map_cons, List.sum_cons, bs_sum_add2 f g ds, List.map_cons, List.sum_cons, List.map_cons, List.sum_cons]; omega
theorem bs_sum_zero : ∀ ds : List Int, (ds.map fun _ => (0 : Int)).sum = 0
  | [] => rfl
  | _ :: ds => by rw [List.map_cons, List.sum_cons, bs_sum_zero ds]; rfl
theorem bs_sum_tot {ds : List Int} (hn : ds.Nodup) : ∀ {it : List DI}, (∀ p ∈ it, p.1 ∈ ds) → (ds.map (totD it)).sum = (it.map Prod.snd).sum
  | [], _ => by
    have e : ds.map (totD []) = ds.map fun _ => (0 : Int) := List.map_congr_left fun d _ => rfl
    rw [e]
    clear hn e
    show (ds.map fun _ => (0 : Int)).sum = 0
    exact bs_sum_zero ds
  | p :: it, h => by
    have e : ds.map (totD (p :: it)) = ds.map fun d => (if p.1 = d then p.2 else 0) + totD it d := List.map_congr_left fun d _ => by unfold totD; rw [List.map_cons, List.sum_cons]
    rw [e, bs_sum_add2 (fun d => if p.1 = d then p.2 else 0) (totD it), bs_sum_one hn (h p (List.mem_cons_self ..)), bs_sum_tot hn (fun q hq => h q (List.mem_cons_of_mem _ hq)), List.map_cons, List.sum_cons]
theorem bs_nd_le : ∀ {ds L : List Int}, ds.Nodup → (∀ x ∈ ds, x ∈ L) → ds.length ≤ L.length
  | [], _, _, _ => Nat.zero_le _
  | x :: ds, L, hn, h => by
    obtain ⟨hx, hn⟩ := List.nodup_cons.1 hn
    have hm := h x (List.mem_cons_self ..)
    have := bs_nd_le (L := L.erase x) hn (fun y hy => (List.mem_erase_of_ne (fun e : y = x => hx (by rw [← e]; exact hy))).2 (h y (List.mem_cons_of_mem _ hy)))
    rw [List.length_erase_of_mem hm] at this
    have h1 : 0 < L.length := List.length_pos_of_mem hm
    rw [List.length_cons]; omega
theorem DaysR.nd {it : List DI} {ds ss : List Int} (h : DaysR it ds ss) : ds.Nodup := h.asc.imp fun {x y} q e => by omega
theorem DaysR.total {it : List DI} {ds ss : List Int} (h : DaysR it ds ss) : ss.sum = (it.map Prod.snd).sum := by
  have e : ss = ds.map (totD it) := List.ext_getElem? fun k => by
    have hl := h.len
    rw [List.getElem?_map]
    by_cases hk : k < ds.length
    · have a0 := List.getElem?_eq_getElem hk
      have a1 := List.getElem?_eq_getElem (l := ss) (show k < ss.length by omega)
      rw [a1, a0, h.sum k _ _ a0 a1]
      rfl
    · rw [List.getElem?_eq_none (by omega), List.getElem?_eq_none (by omega)]
      rfl
  rw [e]
  exact bs_sum_tot h.nd fun p hp => (h.mem p.1).2 ⟨p.2, hp⟩
theorem DaysR.few {it : List DI} {ds ss : List Int} (h : DaysR it ds ss) : ds.length ≤ it.length := by
  have := bs_nd_le (L := it.map Prod.fst) h.nd fun x hx => by
    obtain ⟨c, hc⟩ := (h.mem x).1 hx
    exact List.mem_map.2 ⟨_, hc, rfl⟩
  rwa [List.length_map] at this
/-- a charge with a valid time and an amount that fits -/
def BsC (x : CV) : Prop := 0 ≤ x.tm ∧ x.tm < 68719476736 ∧ -1125899906842624 ≤ x.ct ∧ x.ct ≤ 1125899906842624
theorem BsC.day {x : CV} (h : BsC x) : dayN x.tm = x.tm / 86400 := if_pos ⟨h.1, h.2.1⟩
theorem BsC.b {x : CV} (h : BsC x) : dayB x = true := by
  unfold dayB
  rw [h.day, decide_eq_true (Int.ediv_nonneg h.1 (by omega))]
  have := h.2.2
  simp [fitsB]
  omega
theorem item_all : ∀ {cs : List CV}, (∀ x ∈ cs, BsC x) → itemL cs = cs.map fun x => (x.tm / 86400, x.ct)
  | [], _ => rfl
  | x :: cs, h => by
    have hx := h x (List.mem_cons_self ..)
    have := item_all (cs := cs) fun y hy => h y (List.mem_cons_of_mem _ hy)
    unfold itemL at this ⊢
    rw [List.filter_cons, if_pos hx.b, List.map_cons, List.map_cons, this, hx.day]
/-- what the law asks of the days -/
structure BsF (cs : List CV) (ds ss : List Int) : Prop where
  len : ds.length = ss.length
  few : ds.length ≤ cs.length
  asc : ∀ (i : Nat) (x y : Int), ds[i]? = some x → ds[i + 1]? = some y → x < y
  mem : ∀ x ∈ cs, x.tm / 86400 ∈ ds
  tot : ss.sum = (cs.map fun x => x.ct).sum
  bnd : ∀ s ∈ ss, -(1125899906842624 * (cs.length : Int)) ≤ s ∧ s ≤ 1125899906842624 * (cs.length : Int)
theorem bs_sum_facts {cs : List CV} {ds ss : List Int} (hs : ∀ x ∈ cs, BsC x) (h : DaysR (itemL cs) ds ss) : BsF cs ds ss := by
  have hi := item_all hs
  refine ⟨h.len, ?_, ?_, ?_, ?_, ?_⟩
  · have := h.few
    rw [hi, List.length_map] at this
    exact this
  · intro i x y hx hy
    obtain ⟨h1, rfl⟩ := List.getElem?_eq_some_iff.1 hx
    obtain ⟨h2, rfl⟩ := List.getElem?_eq_some_iff.1 hy
    exact (List.pairwise_iff_getElem.1 h.asc) i (i + 1) h1 h2 (by omega)
  · intro x hx
    refine (h.mem _).2 ⟨x.ct, ?_⟩
    rw [hi]
    exact List.mem_map.2 ⟨x, hx, rfl⟩
  · rw [h.total, hi, List.map_map]
    rfl
  · intro s hs'
    obtain ⟨k, hk⟩ := List.mem_iff_getElem?.1 hs'
    have hl := h.len
    obtain ⟨h1, _⟩ := List.getElem?_eq_some_iff.1 hk
    have a0 := List.getElem?_eq_getElem (l := ds) (show k < ds.length by omega)
    rw [h.sum k _ _ a0 hk]
    have := totD_bnd (it := itemL cs) itemL_fits ds[k]
    have e : (itemL cs).length = cs.length := by rw [hi, List.length_map]
    rw [e] at this
    exact this
theorem bs_sum_bnd {B : Int} : ∀ {l : List Int}, (∀ x ∈ l, -B ≤ x ∧ x ≤ B) → -(B * (l.length : Int)) ≤ l.sum ∧ l.sum ≤ B * (l.length : Int)
  | [], _ => by simp
  | x :: l, h => by
    have h1 := h x (List.mem_cons_self ..)
    have h2 := bs_sum_bnd (l := l) fun y hy => h y (List.mem_cons_of_mem _ hy)
    have e : B * ((x :: l).length : Int) = B * (l.length : Int) + B := by rw [List.length_cons]; push_cast; rw [Int.mul_add, Int.mul_one]
    rw [e, List.sum_cons]; omega
theorem bs_sum_bnd2 {B : Int} {l : List Int} (hB : 0 ≤ B) (h : ∀ x ∈ l, -B ≤ x ∧ x ≤ B) {n : Nat} (hn : l.length ≤ n) : -(B * (n : Int)) ≤ l.sum ∧ l.sum ≤ B * (n : Int) := by
  have h1 := bs_sum_bnd h
  have h2 : B * (l.length : Int) ≤ B * (n : Int) := Int.mul_le_mul_of_nonneg_left (by omega) hB
  omega
theorem bs_take_sum {l : List Int} {k : Nat} {x : Int} (h : l[k]? = some x) : (l.take (k + 1)).sum = (l.take k).sum + x := by
  rw [take_snoc h, List.sum_append]; simp
theorem bs_ctS_bnd {cs : List CV} (h : ∀ x ∈ cs, BsC x) (hl : cs.length ≤ 30) : -33776997205278720 ≤ (cs.map fun x => x.ct).sum ∧ (cs.map fun x => x.ct).sum ≤ 33776997205278720 := by
  have := bs_sum_bnd2 (B := 1125899906842624) (l := cs.map fun x => x.ct) (n := 30) (by omega) (fun x hx => by
    obtain ⟨y, hy, rfl⟩ := List.mem_map.1 hx
    exact (h y hy).2.2) (by rw [List.length_map]; exact hl)
  omega
theorem BsF.part {cs : List CV} {ds ss : List Int} (h : BsF cs ds ss) (hl : cs.length ≤ 30) (k : Nat) : -1013309916158361600 ≤ (ss.take k).sum ∧ (ss.take k).sum ≤ 1013309916158361600 := by
  have h1 := h.len
  have h2 := h.few
  have h3 : (1125899906842624 : Int) * (cs.length : Int) ≤ 33776997205278720 := by omega
  have := bs_sum_bnd2 (B := 33776997205278720) (l := ss.take k) (n := 30) (by omega) (fun x hx => by
    have := h.bnd x (List.mem_of_mem_take hx)
    omega) (by rw [List.length_take]; omega)
  omega
theorem BsF.one {cs : List CV} {ds ss : List Int} (h : BsF cs ds ss) (hl : cs.length ≤ 30) {k : Nat} {s : Int} (hk : ss[k]? = some s) : -33776997205278720 ≤ s ∧ s ≤ 33776997205278720 := by
  have h3 : (1125899906842624 : Int) * (cs.length : Int) ≤ 33776997205278720 := by omega
  have := h.bnd s (List.mem_of_getElem? hk)
  omega
end Go.Proofs.YtlnnbkpcnhlfcaaDoor
