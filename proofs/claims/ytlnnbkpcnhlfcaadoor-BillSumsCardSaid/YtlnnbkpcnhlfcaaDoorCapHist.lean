/- What is paid, charge by charge; capping twice; caps are reached. No program in sight. -/
import Derived.Test.YtlnnbkpcnhlfcaaDoorJCapRMath
namespace Go.Proofs.YtlnnbkpcnhlfcaaDoor
open Go.Sort

/-- what the charge at i pays -/
def pdAt (caps : List Cp) (cs : List CV) (i : Nat) : Int := ((paidL caps cs)[i]?).getD 0
theorem runF_other (caps : List Cp) (cs : List CV) (l : List Nat) (a : Hs × List Int) {i : Nat} (h : i ∉ l) : (l.foldl (stp caps cs) a).2[i]? = a.2[i]? := by
  induction l generalizing a with
  | nil => rfl
  | cons k l ih =>
    rw [List.foldl_cons, ih _ fun q => h (List.mem_cons_of_mem _ q)]
    unfold stp
    rw [List.getElem?_set_ne (fun e => h (by rw [e]; exact List.mem_cons_self ..))]
theorem stp_len (caps : List Cp) (cs : List CV) (l : List Nat) (a : Hs × List Int) : (l.foldl (stp caps cs) a).2.length = a.2.length := by
  induction l generalizing a with
  | nil => rfl
  | cons i l ih => rw [List.foldl_cons, ih]; simp [stp]
/-- the history of a part of the order, in what is paid at last -/
theorem runF_hist (caps : List Cp) (cs : List CV) : ∀ (l : List Nat) (a : Hs × List Int), l.Nodup → (∀ i ∈ l, i < a.2.length) →
    (l.foldl (stp caps cs) a).1 = a.1 ++ l.map fun i => (chAt cs i, ((l.foldl (stp caps cs) a).2[i]?).getD 0)
  | [], a, _, _ => by simp
  | i :: l, a, hn, hl => by
    obtain ⟨h1, h2⟩ := List.nodup_cons.1 hn
    rw [List.foldl_cons, runF_hist caps cs l _ h2 (fun k hk => by
      unfold stp; rw [List.length_set]; exact hl k (List.mem_cons_of_mem _ hk))]
    rw [List.map_cons, runF_other caps cs l _ h1]
    unfold stp
    simp only [List.getElem?_set_self (hl i (List.mem_cons_self ..)), Option.getD_some, List.append_assoc, List.cons_append, List.nil_append]
theorem ordN_nodup (cs : List CV) : (ordN cs).Nodup := (ordN_perm cs).nodup_iff.2 List.nodup_range
theorem hist_all (caps : List Cp) (cs : List CV) : (runF caps cs (ordN cs)).1 = (ordN cs).map fun i => (chAt cs i, pdAt caps cs i) := by
  have := runF_hist caps cs (ordN cs) ([], List.replicate cs.length 0) (ordN_nodup cs) (fun i hi => by rw [List.length_replicate]; exact ordN_lt hi)
  rw [List.nil_append] at this
  exact this
/-- the history before the k-th -/
def histK (caps : List Cp) (cs : List CV) (k : Nat) : Hs := ((ordN cs).take k).map fun i => (chAt cs i, pdAt caps cs i)
theorem hist_take (caps : List Cp) (cs : List CV) (k : Nat) : (runF caps cs ((ordN cs).take k)).1 = histK caps cs k := by
  have h := runF_hist caps cs ((ordN cs).take k) ([], List.replicate cs.length 0) ((ordN_nodup cs).sublist (List.take_sublist ..)) (fun i hi => by rw [List.length_replicate]; exact ordN_lt (List.mem_of_mem_take hi))
  rw [List.nil_append] at h
  show (((ordN cs).take k).foldl (stp caps cs) ([], List.replicate cs.length 0)).1 = _
  rw [h]
  unfold histK
  refine List.map_congr_left fun i hi => ?_
  congr 2
  have hsp : runF caps cs (ordN cs) = ((ordN cs).drop k).foldl (stp caps cs) (((ordN cs).take k).foldl (stp caps cs) ([], List.replicate cs.length 0)) := by
    rw [← List.foldl_append, List.take_append_drop]; rfl
  unfold paidL
  rw [hsp, runF_other caps cs ((ordN cs).drop k)]
  intro q
  have hnd := ordN_nodup cs
  rw [← List.take_append_drop k (ordN cs)] at hnd
  exact (List.nodup_append.1 hnd).2.2 i hi i q rfl
theorem histK_succ {caps : List Cp} {cs : List CV} {k i : Nat} (h : (ordN cs)[k]? = some i) : histK caps cs (k + 1) = histK caps cs k ++ [(chAt cs i, pdAt caps cs i)] := by
  unfold histK
  rw [take_snoc h, List.map_append]
  rfl
/-- what the k-th of the order pays -/
theorem pdAt_pay {caps : List Cp} {cs : List CV} {k i : Nat} (h : (ordN cs)[k]? = some i) : pdAt caps cs i = payN caps (histK caps cs k) (chAt cs i) := by
  have h1 := hist_take caps cs (k + 1)
  rw [take_snoc h, runF_snoc, histK_succ h] at h1
  unfold stp at h1
  rw [hist_take] at h1
  have := (List.append_inj h1 rfl).2
  injection this with this _
  injection this with _ this
  exact this.symm
theorem ordN_mem {cs : List CV} {i : Nat} (h : i < cs.length) : ∃ k : Nat, (ordN cs)[k]? = some i := List.mem_iff_getElem?.1 ((ordN_perm cs).mem_iff.2 (List.mem_range.2 h))
theorem histK_inv {caps : List Cp} {cs : List CV} (hc : ∀ c ∈ caps, 0 ≤ c.ct) (hx : ∀ x ∈ cs, 0 ≤ x.ct) (k : Nat) : HInv caps (histK caps cs k) := by
  rw [← hist_take]
  exact runF_inv hc hx _ fun i hi => ordN_lt (List.mem_of_mem_take hi)
theorem chAt_mem {cs : List CV} {i : Nat} (h : i < cs.length) : chAt cs i ∈ cs := by rw [chAt_of (List.getElem?_eq_getElem h)]; exact List.getElem_mem h
theorem pdAt_bnd {caps : List Cp} {cs : List CV} (hc : ∀ c ∈ caps, 0 ≤ c.ct) (hx : ∀ x ∈ cs, 0 ≤ x.ct) {i : Nat} (hi : i < cs.length) : 0 ≤ pdAt caps cs i ∧ pdAt caps cs i ≤ (chAt cs i).ct := by
  obtain ⟨k, hk⟩ := ordN_mem hi
  rw [pdAt_pay hk]
  have := payN_bounds (x := chAt cs i) (histK_inv hc hx k) (hx _ (chAt_mem hi))
  exact ⟨this.1, this.2.1⟩

/-! ### the same once more -/
/-- the same charge, but for what is to be paid -/
def SmC (x y : CV) : Prop := x.key = y.key ∧ x.tm = y.tm ∧ x.sys = y.sys
theorem SmC.refl (x : CV) : SmC x x := ⟨rfl, rfl, rfl⟩
theorem SmC.mat {x y : CV} (h : SmC x y) (c : Cp) : matB c x = matB c y := by unfold matB; rw [h.2.2]
theorem SmC.inP {x y : CV} (h : SmC x y) (c : Cp) (p : Int) : inP c p x = inP c p y := by unfold Go.Proofs.YtlnnbkpcnhlfcaaDoor.inP; rw [h.mat c, h.2.1]
theorem ltI_same {cs ds : List CV} (h : ∀ i, SmC (chAt cs i) (chAt ds i)) : ltI cs = ltI ds := by
  funext i k
  unfold ltI ltOf cmpCh
  simp only [(h i).1, (h i).2.1, (h k).1, (h k).2.1]
theorem ordN_same {cs ds : List CV} (hl : cs.length = ds.length) (h : ∀ i, SmC (chAt cs i) (chAt ds i)) : ordN cs = ordN ds := by
  unfold ordN ordK
  rw [hl, ltI_same h]
theorem sumP_same (c : Cp) (p : Int) {l : List Nat} {f g : Nat → CV × Int} (h : ∀ i ∈ l, SmC (f i).1 (g i).1 ∧ (f i).2 = (g i).2) : sumP c p (l.map f) = sumP c p (l.map g) := by
  unfold sumP
  congr 1
  rw [List.map_map, List.map_map]
  refine List.map_congr_left fun i hi => ?_
  obtain ⟨h1, h2⟩ := h i hi
  show (if inP c p (f i).1 = true then (f i).2 else 0) = if inP c p (g i).1 = true then (g i).2 else 0
  rw [h1.inP c p, h2]
/-- nothing more is taken off what can be paid -/
theorem fold_keep {caps : List Cp} {h : Hs} {x : CV} {n : Int} (hn : ∀ c ∈ caps, matB c x = true → n ≤ leftN c h x) : caps.foldl (payS h x) n = n := by
  induction caps with
  | nil => rfl
  | cons c l ih =>
    rw [List.foldl_cons]
    have : payS h x n c = n := by
      unfold payS
      split
      · rename_i q
        have := hn c (List.mem_cons_self ..) q
        omega
      · rfl
    rw [this]
    exact ih fun d hd => hn d (List.mem_cons_of_mem _ hd)
theorem paid_again {caps : List Cp} {cs ds : List CV} (hc : ∀ c ∈ caps, 0 ≤ c.ct) (hx : ∀ x ∈ cs, 0 ≤ x.ct) (hl : ds.length = cs.length) (hs : ∀ i, SmC (chAt ds i) (chAt cs i)) (ht : ∀ i, i < cs.length → (chAt ds i).ct = pdAt caps cs i) :
    ∀ i, i < cs.length → pdAt caps ds i = pdAt caps cs i := by
  have ho : ordN ds = ordN cs := ordN_same hl hs
  have hlen : (ordN cs).length = cs.length := ordN_len cs
  have H : ∀ k, k ≤ cs.length → ∀ i ∈ (ordN cs).take k, pdAt caps ds i = pdAt caps cs i := by
    intro k
    induction k with
    | zero => intro _ i hi; simp at hi
    | succ k ih =>
      intro hk i hi
      have ihk := ih (by omega)
      obtain ⟨j, hj⟩ : ∃ j, (ordN cs)[k]? = some j := ⟨_, List.getElem?_eq_getElem (by omega)⟩
      rw [take_snoc hj] at hi
      rcases List.mem_append.1 hi with hi | hi
      · exact ihk i hi
      · rw [List.mem_singleton] at hi
        subst hi
        have hin : i < cs.length := ordN_lt (List.mem_of_getElem? hj)
        have hb := payN_bounds (x := chAt cs i) (histK_inv hc hx k) (hx _ (chAt_mem hin))
        rw [pdAt_pay (cs := ds) (by rw [ho]; exact hj)]
        unfold payN
        rw [ht i hin, pdAt_pay hj]
        refine fold_keep fun c hcm hm => ?_
        have hmc : matB c (chAt cs i) = true := by rw [← (hs i).mat c]; exact hm
        have e : leftN c (histK caps ds k) (chAt ds i) = leftN c (histK caps cs k) (chAt cs i) := by
          unfold leftN
          rw [(hs i).2.1]
          congr 1
          unfold histK
          rw [ho]
          exact sumP_same c _ fun m hm2 => ⟨hs m, ihk m hm2⟩
        rw [e]
        exact hb.2.2 c hcm hmc
  intro i hi
  obtain ⟨k, hk⟩ := ordN_mem hi
  have hkl : k < (ordN cs).length := (List.getElem?_eq_some_iff.1 hk).1
  exact H cs.length (Nat.le_refl _) i (by rw [← hlen, List.take_length]; exact List.mem_of_getElem? hk)

/-! ### capping twice -/
theorem lessC_sm (x : CV) (n : Int) : SmC (lessC x n) x ∧ (lessC x n).veh = x.veh ∧ (lessC x n).cls = x.cls := by
  unfold lessC; split <;> exact ⟨⟨rfl, rfl, rfl⟩, rfl, rfl⟩
theorem lessC_ct {x : CV} {n : Int} (h : n ≤ x.ct) : (lessC x n).ct = n := by
  unfold lessC
  split
  · rfl
  · omega
theorem lessC_same {x : CV} {n : Int} (h : x.ct ≤ n) : lessC x n = x := by unfold lessC; rw [if_neg (by omega)]
theorem capOne_sm (ac : List Av) (caps : List Cp) (cs : List CV) (i : Nat) : SmC (capOne ac caps cs i) (chAt cs i) ∧ (capOne ac caps cs i).veh = (chAt cs i).veh ∧ (capOne ac caps cs i).cls = (chAt cs i).cls := by
  unfold capOne
  split
  · exact lessC_sm _ _
  · exact ⟨SmC.refl _, rfl, rfl⟩
theorem capped_at (ac : List Av) (caps : List Cp) {cs : List CV} {i : Nat} (h : i < cs.length) : chAt (cappedL ac caps cs) i = capOne ac caps cs i := chAt_of (cappedL_at h)
theorem isO_same {ac : List Av} {nm : ByteArray} {x y : CV} (h : x.veh = y.veh) (h2 : x.tm = y.tm) : isO ac nm x = isO ac nm y := by unfold isO hasO ownO; rw [h, h2]
theorem idxL_same {ac : List Av} {nm : ByteArray} {cs ds : List CV} {k : Nat} (h : ∀ i, i < k → isO ac nm (chAt cs i) = isO ac nm (chAt ds i)) : idxL ac nm cs k = idxL ac nm ds k := by
  unfold idxL
  refine List.filter_congr fun i hi => ?_
  exact h i (List.mem_range.1 hi)
theorem idxL_capped (ac : List Av) (caps : List Cp) (nm : ByteArray) (cs : List CV) {k : Nat} (hk : k ≤ cs.length) : idxL ac nm (cappedL ac caps cs) k = idxL ac nm cs k := by
  refine idxL_same fun i hi => ?_
  rw [capped_at ac caps (by omega)]
  exact isO_same (capOne_sm ac caps cs i).2.1 (capOne_sm ac caps cs i).1.2.1
theorem ofL_idx (ac : List Av) (nm : ByteArray) (cs : List CV) : ofL ac nm cs = (idxL ac nm cs cs.length).map (chAt cs) := by
  rw [idxL_map ac nm cs _ (Nat.le_refl _), List.take_length]
theorem chAt_map {l : List Nat} {f : Nat → CV} {j i : Nat} (h : l[j]? = some i) : chAt (l.map f) j = f i := chAt_of (by rw [List.getElem?_map, h]; rfl)
theorem chAt_none {cs : List CV} {i : Nat} (h : cs.length ≤ i) : chAt cs i = zeroC := by unfold chAt; rw [List.getElem?_eq_none h]; rfl
theorem paid_of_capped {ac : List Av} {caps : List Cp} {cs : List CV} (hc : ∀ c ∈ caps, 0 ≤ c.ct) (hx : ∀ x ∈ cs, 0 ≤ x.ct) (nm : ByteArray) :
    ∀ j, j < (ofL ac nm cs).length → pdAt caps (ofL ac nm (cappedL ac caps cs)) j = pdAt caps (ofL ac nm cs) j := by
  have hlc := cappedL_len ac caps cs
  have e2 : ofL ac nm (cappedL ac caps cs) = (idxL ac nm cs cs.length).map (capOne ac caps cs) := by
    rw [ofL_idx, hlc, idxL_capped ac caps nm cs (Nat.le_refl _)]
    refine List.map_congr_left fun i hi => ?_
    exact capped_at ac caps (idxL_lt hi).1
  have e1 := ofL_idx ac nm cs
  have hl : (ofL ac nm (cappedL ac caps cs)).length = (ofL ac nm cs).length := by rw [e2, e1, List.length_map, List.length_map]
  have hxo : ∀ x ∈ ofL ac nm cs, 0 ≤ x.ct := fun x h => hx x (ofL_sub x h)
  refine paid_again hc hxo hl (fun j => ?_) (fun j hj => ?_)
  · by_cases hj : j < (idxL ac nm cs cs.length).length
    · obtain ⟨i, hi⟩ : ∃ i, (idxL ac nm cs cs.length)[j]? = some i := ⟨_, List.getElem?_eq_getElem hj⟩
      rw [e2, e1, chAt_map hi, chAt_map hi]
      exact (capOne_sm ac caps cs i).1
    · rw [chAt_none (by rw [e2, List.length_map]; omega), chAt_none (by rw [e1, List.length_map]; omega)]
      exact SmC.refl _
  · have hj2 : j < (idxL ac nm cs cs.length).length := by rw [e1, List.length_map] at hj; exact hj
    obtain ⟨i, hi⟩ : ∃ i, (idxL ac nm cs cs.length)[j]? = some i := ⟨_, List.getElem?_eq_getElem hj2⟩
    rw [e2, chAt_map hi, (paidAt_idx (caps := caps) hi).2.1]
    have hb := (pdAt_bnd (caps := caps) hc hxo hj).2
    have e3 : chAt (ofL ac nm cs) j = chAt cs i := by rw [e1, chAt_map hi]
    rw [e3] at hb
    exact lessC_ct hb
/-- the amount of a capped charge -/
theorem capOne_ct {ac : List Av} {caps : List Cp} {cs : List CV} (hc : ∀ c ∈ caps, 0 ≤ c.ct) (hx : ∀ x ∈ cs, 0 ≤ x.ct) {i : Nat} (hi : i < cs.length) :
    0 ≤ (capOne ac caps cs i).ct ∧ (capOne ac caps cs i).ct ≤ (chAt cs i).ct := by
  unfold capOne
  split
  · rename_i ho
    have hp : isO ac (ownO ac (chAt cs i)) (chAt cs i) = true := by unfold isO; rw [ho, (eqS_iff _ _).2 rfl]; rfl
    have hm : i ∈ idxL ac (ownO ac (chAt cs i)) cs cs.length := by unfold idxL; rw [List.mem_filter, List.mem_range]; exact ⟨hi, hp⟩
    obtain ⟨j, hj⟩ := List.mem_iff_getElem?.1 hm
    have hjl : j < (ofL ac (ownO ac (chAt cs i)) cs).length := by rw [ofL_idx, List.length_map]; exact (List.getElem?_eq_some_iff.1 hj).1
    have hb := pdAt_bnd (caps := caps) hc (fun x h => hx x (ofL_sub x h)) hjl
    have e3 : chAt (ofL ac (ownO ac (chAt cs i)) cs) j = chAt cs i := by rw [ofL_idx, chAt_map hj]
    rw [e3] at hb
    rw [(paidAt_idx (caps := caps) hj).1]
    unfold pdAt at hb
    rw [lessC_ct hb.2]
    exact hb
  · exact ⟨hx _ (chAt_mem hi), Int.le_refl _⟩
theorem cappedL_ok {ac : List Av} {caps : List Cp} {cs : List CV} (h : applyE caps cs = 0) (hk : ∀ c ∈ caps, 0 ≤ c.ct) (hxs : ∀ x ∈ cs, chE x = 0) (hxb : ∀ x ∈ cs, 0 ≤ x.ct ∧ x.ct ≤ 1125899906842624) : applyE caps (cappedL ac caps cs) = 0 := by
  unfold applyE at *
  rw [cappedL_len]
  split at h
  · exact absurd h (by decide)
  · rename_i q
    split at h
    · rename_i q2; exact absurd h q2
    · rename_i q2
      rw [if_neg q, if_neg q2, firstI_zero]
      intro y hy
      obtain ⟨x, hxm, rfl⟩ := List.mem_map.1 hy
      unfold cappedL at hxm
      obtain ⟨i, hi, rfl⟩ := List.mem_map.1 hxm
      have hi := List.mem_range.1 hi
      have hb := capOne_ct (ac := ac) (caps := caps) (cs := cs) hk (fun x hx => (hxb x hx).1) hi
      have hm := chAt_mem hi
      have h0 := hxs _ hm
      have h1 := hxb _ hm
      unfold chE at h0 ⊢
      rw [(capOne_sm ac caps cs i).1.2.1]
      rw [if_neg (by unfold amB; simp; omega)] at h0 ⊢
      exact h0
/-- capping what has been capped changes nothing -/
theorem capped_twice {ac : List Av} {caps : List Cp} {cs : List CV} (hc : ∀ c ∈ caps, 0 ≤ c.ct) (hx : ∀ x ∈ cs, 0 ≤ x.ct) : cappedL ac caps (cappedL ac caps cs) = cappedL ac caps cs := by
  have hlc := cappedL_len ac caps cs
  apply List.ext_getElem?
  intro i
  by_cases hi : i < cs.length
  · rw [cappedL_at (by omega), cappedL_at hi]
    congr 1
    have ea := capped_at ac caps (cs := cs) hi
    have hs := capOne_sm ac caps cs i
    have hh : hasO ac (capOne ac caps cs i) = hasO ac (chAt cs i) := by unfold hasO; rw [hs.2.1, hs.1.2.1]
    have hn : ownO ac (capOne ac caps cs i) = ownO ac (chAt cs i) := by unfold ownO; rw [hs.2.1, hs.1.2.1]
    rw [show capOne ac caps (cappedL ac caps cs) i = if hasO ac (chAt (cappedL ac caps cs) i) = true then lessC (chAt (cappedL ac caps cs) i) (paidAt ac caps (cappedL ac caps cs) i (chAt (cappedL ac caps cs) i)) else chAt (cappedL ac caps cs) i from rfl, ea, hh]
    split
    · rename_i ho
      have hp : isO ac (ownO ac (chAt cs i)) (chAt cs i) = true := by unfold isO; rw [ho, (eqS_iff _ _).2 rfl]; rfl
      have hm : i ∈ idxL ac (ownO ac (chAt cs i)) cs cs.length := by unfold idxL; rw [List.mem_filter, List.mem_range]; exact ⟨hi, hp⟩
      obtain ⟨j, hj⟩ := List.mem_iff_getElem?.1 hm
      have hjl : j < (ofL ac (ownO ac (chAt cs i)) cs).length := by rw [ofL_idx, List.length_map]; exact (List.getElem?_eq_some_iff.1 hj).1
      have hj2 : (idxL ac (ownO ac (chAt cs i)) (cappedL ac caps cs) (cappedL ac caps cs).length)[j]? = some i := by
        rw [hlc, idxL_capped ac caps _ cs (Nat.le_refl _)]; exact hj
      have e4 := (paidAt_idx (caps := caps) hj2).1
      rw [ea] at e4
      rw [e4]
      have e5 := paid_of_capped (ac := ac) (caps := caps) (cs := cs) hc hx (ownO ac (chAt cs i)) j hjl
      unfold pdAt at e5
      rw [e5]
      refine lessC_same ?_
      have hb := pdAt_bnd (caps := caps) hc (fun x h => hx x (ofL_sub x h)) hjl
      have e3 : chAt (ofL ac (ownO ac (chAt cs i)) cs) j = chAt cs i := by rw [ofL_idx, chAt_map hj]
      rw [e3] at hb
      have e6 : capOne ac caps cs i = lessC (chAt cs i) (((paidL caps (ofL ac (ownO ac (chAt cs i)) cs))[j]?).getD 0) := (paidAt_idx (caps := caps) hj).2.1
      rw [e6]
      unfold pdAt at hb
      rw [lessC_ct hb.2]
      exact Int.le_refl _
    · rfl
  · rw [List.getElem?_eq_none (by rw [cappedL_len, hlc]; omega), List.getElem?_eq_none (by omega)]
end Go.Proofs.YtlnnbkpcnhlfcaaDoor
