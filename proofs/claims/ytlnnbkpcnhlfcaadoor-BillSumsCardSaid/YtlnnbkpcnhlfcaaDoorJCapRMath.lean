/- Joined texts: CapRMath, BillMath, BillConf. -/
import Derived.Test.YtlnnbkpcnhlfcaaDoorJDevEnc
import Derived.Test.YtlnnbkpcnhlfcaaDoorJAccMath
import Derived.Test.YtlnnbkpcnhlfcaaDoorJBillCopy
import Derived.Test.YtlnnbkpcnhlfcaaDoorJStrEq
/- The reference's Apply in plain words: the choice of the next charge, what is left. No program in sight. -/
namespace Go.Proofs.YtlnnbkpcnhlfcaaDoor
open Go.Sort

/-- whether the charge at i is paid before that at k -/
def firstB (cs : List CV) (i k : Nat) : Bool := ltI cs i k || (!ltI cs k i && decide (i < k))
theorem firstB_asym {cs : List CV} {i k : Nat} (h : firstB cs i k = true) : firstB cs k i = false := by
  unfold firstB at *
  cases h1 : ltI cs i k
  · rw [h1] at h
    cases h2 : ltI cs k i
    · rw [h2] at h; simp at h ⊢; omega
    · rw [h2] at h; simp at h
  · have h2 : ltI cs k i = false := (ltI_swo cs).asymmA h1
    rw [h2]; simp
theorem firstB_lex (cs : List CV) (i k : Nat) : firstB cs i k = lexB (ltI cs) (i, i) (k, k) := rfl
theorem firstB_trans {cs : List CV} {i k j : Nat} (h : firstB cs i k = true) (h2 : firstB cs k j = true) : firstB cs i j = true := by
  rw [firstB_lex] at *
  exact (lexB_swo (ltI_swo cs)).trans _ _ _ h h2
theorem firstB_total {cs : List CV} {i k : Nat} (h : i ≠ k) (h2 : firstB cs i k = false) : firstB cs k i = true := by
  unfold firstB at *
  cases h1 : ltI cs i k <;> cases h3 : ltI cs k i <;> simp [h1, h3] at h2 ⊢
  omega
theorem ordN_pair (cs : List CV) : (ordN cs).Pairwise fun x y => firstB cs x y = true := by
  have hnd : (ordN cs).Nodup := (ordN_perm cs).nodup_iff.2 List.nodup_range
  obtain ⟨t, hp, hs, he⟩ := ordN_stab cs
  have ht : ∀ p ∈ t, p = (p.1, p.1) := fun p hp' => by
    have := hp.subset hp'
    obtain ⟨a, b⟩ := p
    have := List.mem_zipIdx_iff_getElem?.1 this
    simp only at this
    have e := (List.getElem?_eq_some_iff.1 this).2
    rw [List.getElem_range] at e
    simp [e]
  have h1 : (ordN cs).Pairwise fun x y => firstB cs y x = false := by
    rw [he, List.pairwise_map]
    refine hs.imp_of_mem fun {x y} hx hy h => ?_
    rw [firstB_lex, ← ht x hx, ← ht y hy]
    exact h
  refine List.Pairwise.imp₂ (R := fun x y => firstB cs y x = false) (S := fun x y => x ≠ y) (fun x y h h2 => firstB_total (Ne.symm h2) h) h1 hnd
/-- the place of the first that is not done, of the first k -/
def bestN (cs : List CV) (dn : Nat → Bool) : Nat → Int
  | 0 => -1
  | k + 1 => if dn k = false ∧ (bestN cs dn k < 0 ∨ firstB cs k (bestN cs dn k).toNat = true) then (k : Int) else bestN cs dn k
theorem bestN_spec (cs : List CV) (dn : Nat → Bool) : ∀ k, (bestN cs dn k = -1 ∧ ∀ i, i < k → dn i = true) ∨ ∃ a : Nat, bestN cs dn k = (a : Int) ∧ a < k ∧ dn a = false ∧ ∀ i, i < k → dn i = false → i ≠ a → firstB cs a i = true
  | 0 => .inl ⟨rfl, fun i h => absurd h (Nat.not_lt_zero _)⟩
  | k + 1 => by
    have ih := bestN_spec cs dn k
    unfold bestN
    cases hd : dn k
    · rcases ih with ⟨h1, h2⟩ | ⟨a, h1, h2, h3, h4⟩
      · rw [if_pos ⟨rfl, .inl (by omega)⟩]
        refine .inr ⟨k, rfl, by omega, hd, fun i hi hdi hne => ?_⟩
        rw [h2 i (by omega)] at hdi; cases hdi
      · by_cases hf : firstB cs k a = true
        · rw [h1, if_pos ⟨rfl, .inr (by simpa using hf)⟩]
          refine .inr ⟨k, rfl, by omega, hd, fun i hi hdi hne => ?_⟩
          by_cases e : i = a
          · rw [e]; exact hf
          · exact firstB_trans hf (h4 i (by omega) hdi e)
        · rw [h1, if_neg (by rintro ⟨-, q | q⟩; · omega
                             · exact hf (by simpa using q))]
          refine .inr ⟨a, rfl, by omega, h3, fun i hi hdi hne => ?_⟩
          by_cases e : i = k
          · rw [e]; exact firstB_total (by omega) (by simpa using hf)
          · exact h4 i (by omega) hdi hne
    · rw [if_neg (by simp)]
      rcases ih with ⟨h1, h2⟩ | ⟨a, h1, h2, h3, h4⟩
      · refine .inl ⟨h1, fun i hi => ?_⟩
        by_cases e : i = k
        · rw [e]; exact hd
        · exact h2 i (by omega)
      · refine .inr ⟨a, h1, by omega, h3, fun i hi hdi hne => ?_⟩
        by_cases e : i = k
        · rw [e, hd] at hdi; cases hdi
        · exact h4 i (by omega) hdi hne
/-- what is done after n rounds -/
def doneB (cs : List CV) (n j : Nat) : Bool := decide (j ∈ (ordN cs).take n)
theorem best_next {cs : List CV} {n i : Nat} (hn : (ordN cs)[n]? = some i) : bestN cs (doneB cs n) cs.length = (i : Int) := by
  have hlt : n < (ordN cs).length := (List.getElem?_eq_some_iff.1 hn).1
  have hpr := ordN_pair cs
  have hsplit : ordN cs = (ordN cs).take n ++ i :: (ordN cs).drop (n + 1) := by
    have h1 := (List.getElem?_eq_some_iff.1 hn).2
    rw [← h1, List.getElem_cons_drop, List.take_append_drop]
  have hnd : (ordN cs).Nodup := (ordN_perm cs).nodup_iff.2 List.nodup_range
  have hi : i < cs.length := ordN_lt (List.mem_of_getElem? hn)
  have hin : doneB cs n i = false := by
    unfold doneB
    refine decide_eq_false fun q => ?_
    rw [hsplit] at hnd
    exact (List.nodup_append.1 hnd).2.2 i q i (by simp) rfl
  rcases bestN_spec cs (doneB cs n) cs.length with ⟨h1, h2⟩ | ⟨a, h1, h2, h3, h4⟩
  · rw [h2 i hi] at hin; cases hin
  · rw [h1]
    by_cases e : a = i
    · rw [e]
    · exfalso
      have hf := h4 i hi hin (Ne.symm e)
      have ha : a ∈ ordN cs := (ordN_perm cs).mem_iff.2 (List.mem_range.2 h2)
      rw [hsplit] at ha hpr
      rcases List.mem_append.1 ha with ha | ha
      · have : doneB cs n a = true := decide_eq_true ha
        rw [this] at h3; cases h3
      · rcases List.mem_cons.1 ha with ha | ha
        · exact e ha
        · have := (List.pairwise_cons.1 (List.pairwise_append.1 hpr).2.1).1 a ha
          rw [firstB_asym hf] at this; cases this
def doneL (cs : List CV) (n : Nat) : List Bool := (List.range cs.length).map (doneB cs n)
theorem doneL_len (cs : List CV) (n : Nat) : (doneL cs n).length = cs.length := by simp [doneL]
theorem doneL_at {cs : List CV} {n j : Nat} (h : j < cs.length) : (doneL cs n)[j]? = some (doneB cs n j) := by
  unfold doneL; rw [List.getElem?_map, List.getElem?_range h]; rfl
theorem doneL_0 (cs : List CV) : doneL cs 0 = List.replicate cs.length false := by
  apply List.ext_getElem?
  intro j
  by_cases h : j < cs.length
  · rw [doneL_at h, List.getElem?_replicate, if_pos h]; simp [doneB]
  · rw [List.getElem?_eq_none (by rw [doneL_len]; omega), List.getElem?_eq_none (by simp; omega)]
theorem doneL_succ {cs : List CV} {n i : Nat} (hn : (ordN cs)[n]? = some i) : (doneL cs n).set i true = doneL cs (n + 1) := by
  have hi : i < cs.length := ordN_lt (List.mem_of_getElem? hn)
  apply List.ext_getElem?
  intro j
  by_cases h : j < cs.length
  · rw [List.getElem?_set, doneL_at h, doneL_at h]
    have e : (ordN cs).take (n + 1) = (ordN cs).take n ++ [i] := take_snoc hn
    by_cases hj : i = j
    · subst hj
      rw [if_pos rfl, if_pos (by rw [doneL_len]; exact hi)]
      unfold doneB; rw [e]; simp
    · rw [if_neg hj]
      unfold doneB; rw [e]; simp [Ne.symm hj]
  · rw [List.getElem?_eq_none (by rw [List.length_set, doneL_len]; omega), List.getElem?_eq_none (by rw [doneL_len]; omega)]
/-- the charges done, with what was paid as their amounts -/
def paidC (h : Hs) : List CV := h.map fun y => { y.1 with ct := y.2 }
def sumQ (c : Cp) (p : Int) (l : List CV) : Int := (l.map fun x => if inP c p x = true then x.ct else 0).sum
theorem sumQ_paid (c : Cp) (p : Int) (h : Hs) : sumQ c p (paidC h) = sumP c p h := by
  unfold sumQ sumP paidC
  rw [List.map_map]
  rfl
theorem sumQ_snoc (c : Cp) (p : Int) (l : List CV) (x : CV) : sumQ c p (l ++ [x]) = sumQ c p l + if inP c p x = true then x.ct else 0 := by simp [sumQ]
theorem sumQ_bnd (c : Cp) (p : Int) : ∀ {l : List CV}, (∀ x ∈ l, 0 ≤ x.ct ∧ x.ct ≤ 1125899906842624) → 0 ≤ sumQ c p l ∧ sumQ c p l ≤ 1125899906842624 * (l.length : Int)
  | [], _ => by simp [sumQ]
  | x :: l, h => by
    have a := h x (by simp)
    have b := sumQ_bnd c p (l := l) fun y hy => h y (by simp [hy])
    unfold sumQ at b ⊢
    rw [List.map_cons, List.sum_cons, List.length_cons]
    split <;> omega
/-- what a cap still permits -/
def leftR (c : Cp) (l : List CV) (t : Int) : Int := if perN c.days t < 0 then 0 else max (c.ct - sumQ c (perN c.days t) l) 0
theorem leftR_paid {c : Cp} {h : Hs} {x : CV} (hi : sumP c (perN c.days x.tm) h ≤ c.ct) (hp : 0 ≤ perN c.days x.tm) : leftR c (paidC h) x.tm = leftN c h x := by
  unfold leftR leftN
  rw [if_neg (by omega), sumQ_paid]
  omega
theorem capE_days {c : Cp} (h : capE c = 0) : c.days = 0 ∨ c.days = 1 := by
  unfold capE at h
  split at h
  · exact absurd h (by decide)
  · split at h
    · exact absurd h (by decide)
    · omega
theorem btm_perN {d t : Int} (hd : d = 0 ∨ d = 1) (h : btmB t = true) : 0 ≤ perN d t := by
  have := (btmB_per t).1 h
  rcases hd with rfl | rfl
  · exact this.2
  · exact this.1
theorem paidC_snoc (h : Hs) (x : CV) (n : Int) : paidC (h ++ [(x, n)]) = paidC h ++ [{ x with ct := n }] := by simp [paidC]
end Go.Proofs.YtlnnbkpcnhlfcaaDoor
/- Bills in plain words: owners, what is due under caps. No program in sight. -/
namespace Go.Proofs.YtlnnbkpcnhlfcaaDoor
open Go.Sort

def hasO (ac : List Av) (x : CV) : Bool := ownerB ac x.veh x.tm
def ownO (ac : List Av) (x : CV) : ByteArray := ownerN ac x.veh x.tm
/-- whether a charge is an account's -/
def isO (ac : List Av) (nm : ByteArray) (x : CV) : Bool := hasO ac x && eqS (ownO ac x) nm
def ofL (ac : List Av) (nm : ByteArray) (cs : List CV) : List CV := cs.filter (isO ac nm)
/-- the word "cap" -/
abbrev capS : ByteArray := ⟨#[99, 97, 112]⟩
def lessC (x : CV) (n : Int) : CV := if n < x.ct then { x with lns := x.lns ++ [(capS, n - x.ct)], ct := n } else x
/-- what is paid for the charge at i -/
def paidAt (ac : List Av) (caps : List Cp) (cs : List CV) (i : Nat) (x : CV) : Int :=
  ((paidL caps (ofL ac (ownO ac x) cs))[(ofL ac (ownO ac x) (cs.take i)).length]?).getD 0
def capOne (ac : List Av) (caps : List Cp) (cs : List CV) (i : Nat) : CV :=
  if hasO ac (chAt cs i) = true then lessC (chAt cs i) (paidAt ac caps cs i (chAt cs i)) else chAt cs i
def cappedL (ac : List Av) (caps : List Cp) (cs : List CV) : List CV := (List.range cs.length).map (capOne ac caps cs)
theorem cappedL_len (ac : List Av) (caps : List Cp) (cs : List CV) : (cappedL ac caps cs).length = cs.length := by simp [cappedL]
theorem cappedL_at {ac : List Av} {caps : List Cp} {cs : List CV} {i : Nat} (h : i < cs.length) : (cappedL ac caps cs)[i]? = some (capOne ac caps cs i) := by
  unfold cappedL; rw [List.getElem?_map, List.getElem?_range h]; rfl
/-- the places of an account's charges -/
def idxL (ac : List Av) (nm : ByteArray) (cs : List CV) (k : Nat) : List Nat := (List.range k).filter fun i => isO ac nm (chAt cs i)
theorem chAt_take {cs : List CV} {i k : Nat} (h : i < k) : chAt (cs.take k) i = chAt cs i := by
  unfold chAt; rw [List.getElem?_take, if_pos h]
theorem idxL_map (ac : List Av) (nm : ByteArray) (cs : List CV) : ∀ k, k ≤ cs.length → (idxL ac nm cs k).map (chAt cs) = ofL ac nm (cs.take k)
  | 0, _ => by simp [idxL, ofL]
  | k + 1, h => by
    have ih := idxL_map ac nm cs k (by omega)
    have hx : cs[k]? = some (chAt cs k) := by unfold chAt; rw [List.getElem?_eq_getElem (by omega)]; rfl
    unfold idxL ofL at *
    rw [List.range_succ, List.filter_append, List.map_append, ih, take_snoc hx, List.filter_append]
    congr 1
    cases hi : isO ac nm (chAt cs k) <;> simp [List.filter_cons, hi]
theorem idxL_lt {ac : List Av} {nm : ByteArray} {cs : List CV} {k i : Nat} (h : i ∈ idxL ac nm cs k) : i < k ∧ isO ac nm (chAt cs i) = true := by
  unfold idxL at h
  rw [List.mem_filter, List.mem_range] at h
  exact h
theorem idxL_succ (ac : List Av) (nm : ByteArray) (cs : List CV) (k : Nat) : idxL ac nm cs (k + 1) = idxL ac nm cs k ++ (if isO ac nm (chAt cs k) = true then [k] else []) := by
  unfold idxL
  rw [List.range_succ, List.filter_append]
  cases hi : isO ac nm (chAt cs k) <;> simp [List.filter_cons, hi]
/-- the place of i among the places -/
theorem idxL_place {ac : List Av} {nm : ByteArray} {cs : List CV} : ∀ {k j i : Nat}, (idxL ac nm cs k)[j]? = some i → j = (idxL ac nm cs i).length
  | 0, j, i, h => by simp [idxL] at h
  | k + 1, j, i, h => by
    rw [idxL_succ] at h
    by_cases hj : j < (idxL ac nm cs k).length
    · rw [List.getElem?_append_left hj] at h
      exact idxL_place h
    · rw [List.getElem?_append_right (by omega)] at h
      split at h
      · have hjk : j - (idxL ac nm cs k).length = 0 := by
          have := (List.getElem?_eq_some_iff.1 h).1
          simp at this; omega
        rw [hjk] at h
        simp at h
        subst h
        omega
      · simp at h
theorem idxL_nodup (ac : List Av) (nm : ByteArray) (cs : List CV) (k : Nat) : (idxL ac nm cs k).Nodup := List.Nodup.sublist List.filter_sublist List.nodup_range
/-- what the j-th of an account's charges pays -/
theorem paidAt_idx {ac : List Av} {caps : List Cp} {nm : ByteArray} {cs : List CV} {j i : Nat} (h : (idxL ac nm cs cs.length)[j]? = some i) :
    paidAt ac caps cs i (chAt cs i) = ((paidL caps (ofL ac nm cs))[j]?).getD 0 ∧ capOne ac caps cs i = lessC (chAt cs i) (((paidL caps (ofL ac nm cs))[j]?).getD 0) ∧ i < cs.length := by
  obtain ⟨hi, ho⟩ := idxL_lt (List.mem_of_getElem? h)
  have hpl := idxL_place h
  unfold isO at ho
  simp only [Bool.and_eq_true] at ho
  have hnm : ownO ac (chAt cs i) = nm := (eqS_iff _ _).1 ho.2
  have e1 : paidAt ac caps cs i (chAt cs i) = ((paidL caps (ofL ac nm cs))[j]?).getD 0 := by
    unfold paidAt
    rw [hnm, ← idxL_map ac nm cs i (by omega), List.length_map, ← hpl]
  refine ⟨e1, ?_, hi⟩
  unfold capOne
  rw [if_pos ho.1, e1]
theorem paidL_len (caps : List Cp) (cs : List CV) : (paidL caps cs).length = cs.length := runF_len caps cs _
/-- a part of valid charges is valid -/
theorem applyE_part {caps : List Cp} {cs ds : List CV} (h : applyE caps cs = 0) (hs : ∀ x ∈ ds, x ∈ cs) (hl : ds.length ≤ cs.length) : applyE caps ds = 0 := by
  unfold applyE at *
  split at h
  · exact absurd h (by decide)
  · rename_i q
    split at h
    · rename_i q2; exact absurd h q2
    · rename_i q2
      rw [if_neg (by omega), if_neg q2]
      rw [firstI_zero] at h ⊢
      intro y hy
      obtain ⟨x, hx, rfl⟩ := List.mem_map.1 hy
      exact h _ (List.mem_map.2 ⟨x, hs x hx, rfl⟩)
theorem ofL_sub {ac : List Av} {nm : ByteArray} {cs : List CV} : ∀ x ∈ ofL ac nm cs, x ∈ cs := fun x hx => (List.mem_filter.1 hx).1
theorem ofL_len (ac : List Av) (nm : ByteArray) (cs : List CV) : (ofL ac nm cs).length ≤ cs.length := List.length_filter_le _ _
end Go.Proofs.YtlnnbkpcnhlfcaaDoor
/- The law's conf, walked; what lies in memory when bills are made. -/
set_option linter.unusedSimpArgs false
namespace Go.Proofs.YtlnnbkpcnhlfcaaDoor
open Go.RowKit Go.Lib

/-- accounts, caps, charges, the months, in memory -/
structure BLO (w : World) (aA : Option Addr) (ac : Nat) (acs : List Ac) (cA : Option Addr) (caps : List Cp) (A : Option Addr) (l : List Cg) : Prop where
  al : AL w aA ac acs
  sm : smL acs
  cp : Rd encCp 4 w w.heap.size cA caps
  cl : Rd encCg 7 w w.heap.size A l
  rs : CgRs w l
  mon : Mon w
  cpl : caps.length ≤ 1000
  cll : l.length ≤ 1000
  nms : ∀ a ∈ acs, a.v.name.size ≤ 1000
theorem BLO.st {w w' : World} {aA : Option Addr} {ac : Nat} {acs : List Ac} {cA : Option Addr} {caps : List Cp} {A : Option Addr} {l : List Cg} (h : BLO w aA ac acs cA caps A l) (hb : Below w.heap.size w w') : BLO w' aA ac acs cA caps A l :=
  ⟨h.al.st hb, h.sm, h.cp.st hb, h.cl.st hb, h.rs.st hb, h.mon.st hb h.mon.1, h.cpl, h.cll, h.nms⟩

set_option maxRecDepth 100000 in
set_option maxHeartbeats 4000000 in
theorem conf_any {aA cA A : Option Addr} {acs : List Ac} {caps : List Cp} {l : List Cg} (ac cc c : Nat) (w : World) :
    Calls Tryd.prog 19 #[.agg #[.slice aA acs.length ac, .slice cA caps.length cc, .slice A l.length c]] w fun e w' => e = .returned (.agg #[.slice none 0 0, .slice none 0 0, .slice none 0 0, .slice none 0 0, .slice none 0 0, .slice none 0 0, .int .i64 0, .int .i64 0, .slice none 0 0, .int .i64 0, .slice none 0 0, .slice none 0 0, .slice none 0 0, .slice none 0 0, .slice cA caps.length cc, .slice none 0 0, .slice none 0 0, .slice aA acs.length ac, .slice none 0 0, .slice none 0 0, .slice none 0 0, .slice none 0 0, .int .i64 0, .slice none 0 0, .string ⟨#[]⟩]) ∧ Below w.heap.size w w' := by
  obtain ⟨Y1, hY1⟩ : ∃ Y, w.alloc (.cells #[.slice aA acs.length ac, .slice cA caps.length cc, .slice A l.length c] 35) = Y := ⟨_, rfl⟩
  obtain ⟨Y2, hY2⟩ : ∃ Y, Y1.alloc (.cells #[.slice none 0 0, .slice none 0 0, .slice none 0 0, .slice none 0 0, .slice none 0 0, .slice none 0 0, .int .i64 0, .int .i64 0, .slice none 0 0, .int .i64 0, .slice none 0 0, .slice none 0 0, .slice none 0 0, .slice none 0 0, .slice none 0 0, .slice none 0 0, .slice none 0 0, .slice none 0 0, .slice none 0 0, .slice none 0 0, .slice none 0 0, .slice none 0 0, .int .i64 0, .slice none 0 0, .string ⟨#[]⟩] 62) = Y := ⟨_, rfl⟩
  have s1 : Y1.heap.size = w.heap.size + 1 := by rw [← hY1]; simp
  have bW : Below w.heap.size w Y2 := by rw [← hY2, ← hY1]; exact ((Below.refl _ w).al _).al _
  have BA : Blk Y2 w.heap.size #[.slice aA acs.length ac, .slice cA caps.length cc, .slice A l.length c] 35 := by rw [← hY2, ← hY1]; exact (Blk.new w _ _).alloc _
  have BZ : Blk Y2 (w.heap.size + 1) #[.slice none 0 0, .slice none 0 0, .slice none 0 0, .slice none 0 0, .slice none 0 0, .slice none 0 0, .int .i64 0, .int .i64 0, .slice none 0 0, .int .i64 0, .slice none 0 0, .slice none 0 0, .slice none 0 0, .slice none 0 0, .slice none 0 0, .slice none 0 0, .slice none 0 0, .slice none 0 0, .slice none 0 0, .slice none 0 0, .slice none 0 0, .slice none 0 0, .int .i64 0, .slice none 0 0, .string ⟨#[]⟩] 62 := by rw [← hY2, ← s1]; exact Blk.new Y1 _ _
  have a0 := BA.cell 0 (v := .slice aA acs.length ac) rfl
  have a1 := BA.cell 1 (v := .slice cA caps.length cc) rfl
  go_enter Tryd.func19, Tryd.ntmps19
  go_wp2_with (first | (refine wpList_boxBuild rfl (cells := #[.slice none 0 0, .slice none 0 0, .slice none 0 0, .slice none 0 0, .slice none 0 0, .slice none 0 0, .int .i64 0, .int .i64 0, .slice none 0 0, .int .i64 0, .slice none 0 0, .slice none 0 0, .slice none 0 0, .slice none 0 0, .slice cA caps.length cc, .slice none 0 0, .slice none 0 0, .slice aA acs.length ac, .slice none 0 0, .slice none 0 0, .slice none 0 0, .slice none 0 0, .int .i64 0, .slice none 0 0, .string ⟨#[]⟩]) rfl (by kernel_rfl) ?_) | (refine wpList_boxStore rfl (ty := 62) (x := .tmp 2) (y := .tmp 7) (cells := #[.slice none 0 0, .slice none 0 0, .slice none 0 0, .slice none 0 0, .slice none 0 0, .slice none 0 0, .int .i64 0, .int .i64 0, .slice none 0 0, .int .i64 0, .slice none 0 0, .slice none 0 0, .slice none 0 0, .slice none 0 0, .slice cA caps.length cc, .slice none 0 0, .slice none 0 0, .slice aA acs.length ac, .slice none 0 0, .slice none 0 0, .slice none 0 0, .slice none 0 0, .int .i64 0, .slice none 0 0, .string ⟨#[]⟩]) rfl BZ rfl rfl (by kernel_rfl) rfl (by kernel_rfl) ?_; intro w6 BZ6 hoz6 hbz6))
  refine bodyPost_ret (v := .agg #[.slice none 0 0, .slice none 0 0, .slice none 0 0, .slice none 0 0, .slice none 0 0, .slice none 0 0, .int .i64 0, .int .i64 0, .slice none 0 0, .int .i64 0, .slice none 0 0, .slice none 0 0, .slice none 0 0, .slice none 0 0, .slice cA caps.length cc, .slice none 0 0, .slice none 0 0, .slice aA acs.length ac, .slice none 0 0, .slice none 0 0, .slice none 0 0, .slice none 0 0, .int .i64 0, .slice none 0 0, .string ⟨#[]⟩]) ?_ rfl ⟨rfl, hbz6 _ _ (by omega) bW⟩
  exact results_box Tryd.results19 _ rfl BZ6 ⟨_, Tryd.underlying62, by kernel_rfl⟩
end Go.Proofs.YtlnnbkpcnhlfcaaDoor
