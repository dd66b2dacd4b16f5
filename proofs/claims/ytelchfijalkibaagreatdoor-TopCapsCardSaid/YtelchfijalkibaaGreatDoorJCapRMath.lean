/- Joined texts: CapRMath, BillMath, CapHist, TopCapM. -/
import Derived.Test.YtelchfijalkibaaGreatDoorJCapOrd
import Derived.Test.YtelchfijalkibaaGreatDoorJBillDate
/- The reference's Apply in plain words: the choice of the next charge, what is left. No program in sight. -/
namespace Go.Proofs.YtelchfijalkibaaGreatDoor
open Go.Sort

/-- whether the charge at i is paid before that at k -/
def firstB (cs : List CV) (i k : Nat) : Bool := ltI cs i k || (!ltI cs k i && decide (i < k))
/-- the place of the first that is not done, of the first k -/
def bestN (cs : List CV) (dn : Nat → Bool) : Nat → Int
  | 0 => -1
  | k + 1 => if dn k = false ∧ (bestN cs dn k < 0 ∨ firstB cs k (bestN cs dn k).toNat = true) then (k : Int) else bestN cs dn k
/-- what is done after n rounds -/
def doneB (cs : List CV) (n j : Nat) : Bool := decide (j ∈ (ordN cs).take n)
def doneL (cs : List CV) (n : Nat) : List Bool := (List.range cs.length).map (doneB cs n)
/-- the charges done, with what was paid as their amounts -/
def paidC (h : Hs) : List CV := h.map fun y => { y.1 with ct := y.2 }
def sumQ (c : Cp) (p : Int) (l : List CV) : Int := (l.map fun x => if inP c p x = true then x.ct else 0).sum
/-- what a cap still permits -/
def leftR (c : Cp) (l : List CV) (t : Int) : Int := if perN c.days t < 0 then 0 else max (c.ct - sumQ c (perN c.days t) l) 0
end Go.Proofs.YtelchfijalkibaaGreatDoor
/- Bills in plain words: owners, what is due under caps. No program in sight. -/
namespace Go.Proofs.YtelchfijalkibaaGreatDoor
open Go.Sort

def hasO (ac : List Av) (x : CV) : Bool := ownerB ac x.veh x.tm
def ownO (ac : List Av) (x : CV) : ByteArray := ownerN ac x.veh x.tm
/-- whether a charge is an account's -/
def isO (ac : List Av) (nm : ByteArray) (x : CV) : Bool := hasO ac x && eqS (ownO ac x) nm
def ofL (ac : List Av) (nm : ByteArray) (cs : List CV) : List CV := cs.filter (isO ac nm)
/-- the word "cap" -/
abbrev capS : ByteArray := ⟨#[99, 97, 112]⟩
def lessC (x : CV) (n : Int) : CV := if n < x.ct then { x with lns := x.lns ++ [(capS, n - x.ct)], ct := n } else x
/-- what is paid for the charge at i -/
def paidAt (ac : List Av) (caps : List Cp) (cs : List CV) (i : Nat) (x : CV) : Int :=
  ((paidL caps (ofL ac (ownO ac x) cs))[(ofL ac (ownO ac x) (cs.take i)).length]?).getD 0
def capOne (ac : List Av) (caps : List Cp) (cs : List CV) (i : Nat) : CV :=
  if hasO ac (chAt cs i) = true then lessC (chAt cs i) (paidAt ac caps cs i (chAt cs i)) else chAt cs i
def cappedL (ac : List Av) (caps : List Cp) (cs : List CV) : List CV := (List.range cs.length).map (capOne ac caps cs)
/-- the places of an account's charges -/
def idxL (ac : List Av) (nm : ByteArray) (cs : List CV) (k : Nat) : List Nat := (List.range k).filter fun i => isO ac nm (chAt cs i)
end Go.Proofs.YtelchfijalkibaaGreatDoor
/- What is paid, charge by charge; capping twice; caps are reached. No program in sight. -/
namespace Go.Proofs.YtelchfijalkibaaGreatDoor
open Go.Sort

/-- what the charge at i pays -/
def pdAt (caps : List Cp) (cs : List CV) (i : Nat) : Int := ((paidL caps cs)[i]?).getD 0
theorem runF_other (caps : List Cp) (cs : List CV) (l : List Nat) (a : Hs × List Int) {i : Nat} (h : i ∉ l) : (l.foldl (stp caps cs) a).2[i]? = a.2[i]? := by
  induction l generalizing a with
  | nil => rfl
  | cons k l ih =>
    rw [List.foldl_cons, ih _ fun q => h (List.mem_cons_of_mem _ q)]
    unfold stp
    rw [List.getElem?_set_ne (fun e => h (by rw [e]; exact List.mem_cons_self ..))]
/-- the history of a part of the order, in what is paid at last -/
theorem runF_hist (caps : List Cp) (cs : List CV) : ∀ (l : List Nat) (a : Hs × List Int), l.Nodup → (∀ i ∈ l, i < a.2.length) →
    (l.foldl (stp caps cs) a).1 = a.1 ++ l.map fun i => (chAt cs i, ((l.foldl (stp caps cs) a).2[i]?).getD 0)
  | [], a, _, _ => by simp
  | i :: l, a, hn, hl => by
    obtain ⟨h1, h2⟩ := List.nodup_cons.1 hn
    rw [List.foldl_cons, runF_hist caps cs l _ h2 (fun k hk => by
      unfold stp; rw [List.length_set]; exact hl k (List.mem_cons_of_mem _ hk))]
    rw [List.map_cons, runF_other caps cs l _ h1]
    unfold stp
    simp only [List.getElem?_set_self (hl i (List.mem_cons_self ..)), Option.getD_some, List.append_assoc, List.cons_append, List.nil_append]
theorem ordN_nodup (cs : List CV) : (ordN cs).Nodup := (ordN_perm cs).nodup_iff.2 List.nodup_range
/-- the history before the k-th -/
def histK (caps : List Cp) (cs : List CV) (k : Nat) : Hs := ((ordN cs).take k).map fun i => (chAt cs i, pdAt caps cs i)
theorem hist_take (caps : List Cp) (cs : List CV) (k : Nat) : (runF caps cs ((ordN cs).take k)).1 = histK caps cs k := by
  have h := runF_hist caps cs ((ordN cs).take k) ([], List.replicate cs.length 0) ((ordN_nodup cs).sublist (List.take_sublist ..)) (fun i hi => by rw [List.length_replicate]; exact ordN_lt (List.mem_of_mem_take hi))
  rw [List.nil_append] at h
  show (((ordN cs).take k).foldl (stp caps cs) ([], List.replicate cs.length 0)).1 = _
  rw [h]
  unfold histK
  refine List.map_congr_left fun i hi => ?_
  congr 2
  have hsp : runF caps cs (ordN cs) = ((ordN cs).drop k).foldl (stp caps cs) (((ordN cs).take k).foldl (stp caps cs) ([], List.replicate cs.length 0)) := by
    rw [← List.foldl_append, List.take_append_drop]; rfl
  unfold paidL
  rw [hsp, runF_other caps cs ((ordN cs).drop k)]
  intro q
  have hnd := ordN_nodup cs
  rw [← List.take_append_drop k (ordN cs)] at hnd
  exact (List.nodup_append.1 hnd).2.2 i hi i q rfl
theorem histK_succ {caps : List Cp} {cs : List CV} {k i : Nat} (h : (ordN cs)[k]? = some i) : histK caps cs (k + 1) = histK caps cs k ++ [(chAt cs i, pdAt caps cs i)] := by
  unfold histK
  rw [take_snoc h, List.map_append]
  rfl
/-- what the k-th of the order pays -/
theorem pdAt_pay {caps : List Cp} {cs : List CV} {k i : Nat} (h : (ordN cs)[k]? = some i) : pdAt caps cs i = payN caps (histK caps cs k) (chAt cs i) := by
  have h1 := hist_take caps cs (k + 1)
  rw [take_snoc h, runF_snoc, histK_succ h] at h1
  unfold stp at h1
  rw [hist_take] at h1
  have := (List.append_inj h1 rfl).2
  injection this with this _
  injection this with _ this
  exact this.symm
theorem ordN_mem {cs : List CV} {i : Nat} (h : i < cs.length) : ∃ k : Nat, (ordN cs)[k]? = some i := List.mem_iff_getElem?.1 ((ordN_perm cs).mem_iff.2 (List.mem_range.2 h))
theorem histK_inv {caps : List Cp} {cs : List CV} (hc : ∀ c ∈ caps, 0 ≤ c.ct) (hx : ∀ x ∈ cs, 0 ≤ x.ct) (k : Nat) : HInv caps (histK caps cs k) := by
  rw [← hist_take]
  exact runF_inv hc hx _ fun i hi => ordN_lt (List.mem_of_mem_take hi)
theorem chAt_mem {cs : List CV} {i : Nat} (h : i < cs.length) : chAt cs i ∈ cs := by rw [chAt_of (List.getElem?_eq_getElem h)]; exact List.getElem_mem h
theorem pdAt_bnd {caps : List Cp} {cs : List CV} (hc : ∀ c ∈ caps, 0 ≤ c.ct) (hx : ∀ x ∈ cs, 0 ≤ x.ct) {i : Nat} (hi : i < cs.length) : 0 ≤ pdAt caps cs i ∧ pdAt caps cs i ≤ (chAt cs i).ct := by
  obtain ⟨k, hk⟩ := ordN_mem hi
  rw [pdAt_pay hk]
  have := payN_bounds (x := chAt cs i) (histK_inv hc hx k) (hx _ (chAt_mem hi))
  exact ⟨this.1, this.2.1⟩

/-! ### the same once more -/
/-- the same charge, but for what is to be paid -/
def SmC (x y : CV) : Prop := x.key = y.key ∧ x.tm = y.tm ∧ x.sys = y.sys
theorem SmC.refl (x : CV) : SmC x x := ⟨rfl, rfl, rfl⟩
theorem SmC.mat {x y : CV} (h : SmC x y) (c : Cp) : matB c x = matB c y := by unfold matB; rw [h.2.2]
theorem SmC.inP {x y : CV} (h : SmC x y) (c : Cp) (p : Int) : inP c p x = inP c p y := by unfold Go.Proofs.YtelchfijalkibaaGreatDoor.inP; rw [h.mat c, h.2.1]
/-! ### capping twice -/
end Go.Proofs.YtelchfijalkibaaGreatDoor
/- What is paid under caps: no cap is exceeded, and a charge is reduced only if a cap is reached; in plain words. No program in sight. -/
namespace Go.Proofs.YtelchfijalkibaaGreatDoor
open Go.Sort

/-- what is paid toward a cap in a period, of the first k charges -/
def sumC (caps : List Cp) (cs : List CV) (c : Cp) (p : Int) (k : Nat) : Int := ((List.range k).map fun m => if inP c p (chAt cs m) = true then pdAt caps cs m else 0).sum
theorem sumC_zero (caps : List Cp) (cs : List CV) (c : Cp) (p : Int) : sumC caps cs c p 0 = 0 := rfl
theorem sumC_succ (caps : List Cp) (cs : List CV) (c : Cp) (p : Int) (k : Nat) : sumC caps cs c p (k + 1) = sumC caps cs c p k + if inP c p (chAt cs k) = true then pdAt caps cs k else 0 := by
  unfold sumC
  rw [List.range_succ, List.map_append, List.sum_append]
  simp
theorem perm_sum {f : Nat → Int} {l l' : List Nat} (h : l.Perm l') : (l.map f).sum = (l'.map f).sum := by
  induction h with
  | nil => rfl
  | cons x _ ih => simp [ih]
  | swap x y l => simp; omega
  | trans _ _ ih1 ih2 => exact ih1.trans ih2
theorem sumC_hist (caps : List Cp) (cs : List CV) (c : Cp) (p : Int) : sumC caps cs c p cs.length = sumP c p (histK caps cs cs.length) := by
  have h : histK caps cs cs.length = (ordN cs).map fun i => (chAt cs i, pdAt caps cs i) := by
    unfold histK
    rw [← ordN_len cs, List.take_length]
  rw [h]
  unfold sumC sumP
  rw [List.map_map]
  exact (perm_sum (ordN_perm cs)).symm
theorem fold_pay (h : Hs) (x : CV) : ∀ (l : List Cp) (n : Int), l.foldl (payS h x) n = n ∨ ∃ c ∈ l, matB c x = true ∧ l.foldl (payS h x) n = leftN c h x
  | [], n => .inl rfl
  | c :: l, n => by
    rw [List.foldl_cons]
    rcases fold_pay h x l (payS h x n c) with q | ⟨d, hd, hm, q⟩
    · rw [q]
      by_cases hm : matB c x = true
      · have e : payS h x n c = min n (leftN c h x) := by unfold payS; rw [if_pos hm]
        rw [e]
        by_cases hn : n ≤ leftN c h x
        · left; omega
        · exact .inr ⟨c, by simp, hm, by omega⟩
      · left
        unfold payS
        rw [if_neg hm]
    · exact .inr ⟨d, by simp [hd], hm, q⟩
theorem sumP_le_hist {caps : List Cp} {cs : List CV} (hc : ∀ c ∈ caps, 0 ≤ c.ct) (hx : ∀ x ∈ cs, 0 ≤ x.ct) (c : Cp) (p : Int) : ∀ (d k : Nat), k + d ≤ cs.length → sumP c p (histK caps cs k) ≤ sumP c p (histK caps cs (k + d))
  | 0, k, _ => Int.le_refl _
  | d + 1, k, h => by
    have h1 := sumP_le_hist hc hx c p d k (by omega)
    have hk : k + d < (ordN cs).length := by rw [ordN_len]; omega
    have h2 := histK_succ (caps := caps) (List.getElem?_eq_getElem hk)
    have hb := pdAt_bnd hc hx (ordN_lt (List.getElem_mem hk))
    rw [show k + (d + 1) = (k + d) + 1 by omega, h2, sumP_snoc]
    split <;> omega
/-- each cap is kept -/
theorem cap_kept {caps : List Cp} {cs : List CV} (hc : ∀ c ∈ caps, 0 ≤ c.ct) (hx : ∀ x ∈ cs, 0 ≤ x.ct) {c : Cp} (hm : c ∈ caps) (p : Int) : sumC caps cs c p cs.length ≤ c.ct := by
  rw [sumC_hist]
  exact (histK_inv hc hx cs.length).2 c hm p
/-- a charge is reduced only where a cap is reached -/
theorem cap_reached {caps : List Cp} {cs : List CV} (hc : ∀ c ∈ caps, 0 ≤ c.ct) (hx : ∀ x ∈ cs, 0 ≤ x.ct) {i : Nat} (hi : i < cs.length) (hne : pdAt caps cs i ≠ (chAt cs i).ct) :
    ∃ c ∈ caps, matB c (chAt cs i) = true ∧ sumC caps cs c (perN c.days (chAt cs i).tm) cs.length = c.ct := by
  obtain ⟨k, hk⟩ := ordN_mem hi
  have hkl : k < cs.length := by have := (List.getElem?_eq_some_iff.1 hk).1; rwa [ordN_len] at this
  have hp := pdAt_pay (caps := caps) hk
  rcases fold_pay (histK caps cs k) (chAt cs i) caps (chAt cs i).ct with q | ⟨c, hcm, hm, q⟩
  · exact absurd (hp.trans q) hne
  · refine ⟨c, hcm, hm, ?_⟩
    have h1 : pdAt caps cs i = leftN c (histK caps cs k) (chAt cs i) := hp.trans q
    have h2 := histK_succ (caps := caps) hk
    have h3 : sumP c (perN c.days (chAt cs i).tm) (histK caps cs (k + 1)) = c.ct := by
      rw [h2, sumP_snoc, if_pos (by unfold inP; rw [hm]; simp), h1]
      unfold leftN
      omega
    have h4 := sumP_le_hist hc hx c (perN c.days (chAt cs i).tm) (cs.length - (k + 1)) (k + 1) (by omega)
    rw [show k + 1 + (cs.length - (k + 1)) = cs.length by omega, h3, ← sumC_hist] at h4
    have h5 := cap_kept hc hx hcm (perN c.days (chAt cs i).tm)
    omega
/-- a cap that is reached, among the first j -/
def reachB (caps : List Cp) (cs : List CV) (i j : Nat) : Bool := decide (pdAt caps cs i = (chAt cs i).ct) || (caps.take j).any fun c => matB c (chAt cs i) && decide (sumC caps cs c (perN c.days (chAt cs i).tm) cs.length = c.ct)
theorem reach_all {caps : List Cp} {cs : List CV} (hc : ∀ c ∈ caps, 0 ≤ c.ct) (hx : ∀ x ∈ cs, 0 ≤ x.ct) {i : Nat} (hi : i < cs.length) : reachB caps cs i caps.length = true := by
  unfold reachB
  rw [List.take_length]
  by_cases h : pdAt caps cs i = (chAt cs i).ct
  · simp [h]
  · obtain ⟨c, hcm, hm, hs⟩ := cap_reached hc hx hi h
    rw [Bool.or_eq_true]
    right
    rw [List.any_eq_true]
    exact ⟨c, hcm, by simp [hm, hs]⟩
end Go.Proofs.YtelchfijalkibaaGreatDoor
