/- Joined texts: CapMath, CapMap2, CapRMath, BillMath, DayMath. -/
import Derived.Test.YtlnnbkpcnhlfcaaDoorJBox
import Derived.Test.YtlnnbkpcnhlfcaaDoorJStabList
import Derived.Test.YtlnnbkpcnhlfcaaDoorJName
import Derived.KernelRfl
/- What is paid under caps, in plain words. No program in sight. -/
namespace Go.Proofs.YtlnnbkpcnhlfcaaDoor
open Go.Sort

def cmpCh (a b : CV) : Int := firstI [cmpI a.tm b.tm, cmpS a.key b.key]
theorem cmpCh_pre : PreC cmpCh := (cmpI_pre.on CV.tm).cons (pre_one (cmpS_pre.on CV.key))
def chAt (cs : List CV) (i : Nat) : CV := (cs[i]?).getD zeroC
theorem chAt_of {cs : List CV} {i : Nat} {x : CV} (h : cs[i]? = some x) : chAt cs i = x := by unfold chAt; rw [h]; rfl
def ltI (cs : List CV) (i k : Nat) : Bool := ltOf cmpCh (chAt cs i) (chAt cs k)
theorem ltI_swo (cs : List CV) : SWO (ltI cs) := ⟨fun x => cmpCh_pre.swo.irrefl _, fun x y z => cmpCh_pre.swo.trans _ _ _, fun x y z => cmpCh_pre.swo.ntrans _ _ _⟩
/-- the order in which charges are paid -/
def ordK (cs : List CV) (k : Nat) : List Nat := (List.range k).foldl (fun r i => insS (ltI cs) i r) []
def ordN (cs : List CV) : List Nat := ordK cs cs.length
theorem ordK_stab (cs : List CV) : ∀ k, StabOf (ltI cs) (List.range k) (ordK cs k)
  | 0 => StabOf.nil
  | k + 1 => by
    have := StabOf.snoc (ltI_swo cs) (ordK_stab cs k) k
    unfold ordK
    rw [List.range_succ, List.foldl_append]
    exact this
theorem ordN_stab (cs : List CV) : StabOf (ltI cs) (List.range cs.length) (ordN cs) := ordK_stab cs _
theorem ordN_perm (cs : List CV) : (ordN cs).Perm (List.range cs.length) := (ordN_stab cs).perm
theorem ordN_len (cs : List CV) : (ordN cs).length = cs.length := by have := (ordN_perm cs).length_eq; simpa using this
theorem ordN_lt {cs : List CV} {i : Nat} (h : i ∈ ordN cs) : i < cs.length := List.mem_range.1 ((ordN_perm cs).mem_iff.1 h)
theorem stab_map {α β : Type} {lt : α → α → Bool} {lt' : β → β → Bool} (f : α → β) (hf : ∀ x y, lt' (f x) (f y) = lt x y) {l l' : List α} (h : StabOf lt l l') : StabOf lt' (l.map f) (l'.map f) := by
  obtain ⟨t, h1, h2, h3⟩ := h
  refine ⟨t.map (fun p => (f p.1, p.2)), ?_, ?_, ?_⟩
  · have : (l.map f).zipIdx = l.zipIdx.map (fun p => (f p.1, p.2)) := by rw [List.zipIdx_map]; rfl
    rw [this]; exact h1.map _
  · rw [List.pairwise_map]
    refine h2.imp fun {x y} h => ?_
    unfold lexB at h ⊢
    simp only [hf]
    exact h
  · rw [h3]; simp [List.map_map, Function.comp_def]

/-- charges done, with what was paid -/
abbrev Hs := List (CV × Int)
def inP (c : Cp) (p : Int) (x : CV) : Bool := matB c x && decide (perN c.days x.tm = p)
def sumP (c : Cp) (p : Int) (h : Hs) : Int := (h.map fun y => if inP c p y.1 = true then y.2 else 0).sum
theorem sumP_snoc (c : Cp) (p : Int) (h : Hs) (x : CV) (n : Int) : sumP c p (h ++ [(x, n)]) = sumP c p h + if inP c p x = true then n else 0 := by simp [sumP]
theorem sumP_nil (c : Cp) (p : Int) : sumP c p [] = 0 := rfl
def leftN (c : Cp) (h : Hs) (x : CV) : Int := c.ct - sumP c (perN c.days x.tm) h
def payS (h : Hs) (x : CV) (n : Int) (c : Cp) : Int := if matB c x = true then min n (leftN c h x) else n
def payN (caps : List Cp) (h : Hs) (x : CV) : Int := caps.foldl (payS h x) x.ct
/-- what holds of the charges done -/
def HInv (caps : List Cp) (h : Hs) : Prop := (∀ y ∈ h, 0 ≤ y.2) ∧ ∀ c ∈ caps, ∀ p, sumP c p h ≤ c.ct
theorem sumP_nonneg {h : Hs} (hh : ∀ y ∈ h, 0 ≤ y.2) (c : Cp) (p : Int) : 0 ≤ sumP c p h := by
  induction h with
  | nil => exact Int.le_refl _
  | cons y h ih =>
    have h1 := ih fun z hz => hh z (List.mem_cons_of_mem _ hz)
    have h2 := hh y (by simp)
    unfold sumP at h1 ⊢
    rw [List.map_cons, List.sum_cons]
    split <;> omega
theorem payN_bounds {caps : List Cp} {h : Hs} {x : CV} (hi : HInv caps h) (hx : 0 ≤ x.ct) : 0 ≤ payN caps h x ∧ payN caps h x ≤ x.ct ∧ ∀ c ∈ caps, matB c x = true → payN caps h x ≤ leftN c h x := by
  suffices H : ∀ (l : List Cp) (n : Int), (∀ c ∈ l, c ∈ caps) → 0 ≤ n → 0 ≤ l.foldl (payS h x) n ∧ l.foldl (payS h x) n ≤ n ∧ ∀ c ∈ l, matB c x = true → l.foldl (payS h x) n ≤ leftN c h x by
    exact H caps x.ct (fun _ h => h) hx
  intro l
  induction l with
  | nil => intro n _ h0; exact ⟨h0, Int.le_refl _, fun c hc => by cases hc⟩
  | cons c l ih =>
    intro n hl h0
    rw [List.foldl_cons]
    have hc := hl c (by simp)
    have hleft : 0 ≤ leftN c h x := by unfold leftN; have := hi.2 c hc (perN c.days x.tm); omega
    have hs : 0 ≤ payS h x n c ∧ payS h x n c ≤ n ∧ (matB c x = true → payS h x n c ≤ leftN c h x) := by
      unfold payS
      split
      · exact ⟨by omega, by omega, fun _ => by omega⟩
      · rename_i q; exact ⟨h0, Int.le_refl _, fun q2 => absurd q2 q⟩
    obtain ⟨a1, a2, a3⟩ := ih (payS h x n c) (fun d hd => hl d (List.mem_cons_of_mem _ hd)) hs.1
    refine ⟨a1, by omega, fun d hd hm => ?_⟩
    rcases List.mem_cons.1 hd with rfl | hd
    · have := hs.2.2 hm; omega
    · exact a3 d hd hm
theorem HInv.nil {caps : List Cp} (h : ∀ c ∈ caps, 0 ≤ c.ct) : HInv caps [] := ⟨fun y hy => (by cases hy), fun c hc p => by rw [sumP_nil]; exact h c hc⟩
theorem HInv.snoc {caps : List Cp} {h : Hs} {x : CV} (hi : HInv caps h) (hx : 0 ≤ x.ct) : HInv caps (h ++ [(x, payN caps h x)]) := by
  have hb := payN_bounds hi hx
  refine ⟨fun y hy => ?_, fun c hc p => ?_⟩
  · rcases List.mem_append.1 hy with hy | hy
    · exact hi.1 y hy
    · rw [List.mem_singleton] at hy; subst hy; exact hb.1
  · rw [sumP_snoc]
    have := hi.2 c hc p
    split
    · rename_i q
      unfold inP at q
      simp only [Bool.and_eq_true, decide_eq_true_eq] at q
      have := hb.2.2 c hc q.1
      unfold leftN at this
      rw [q.2] at this
      omega
    · omega
/-- the fold over the order -/
def stp (caps : List Cp) (cs : List CV) (a : Hs × List Int) (i : Nat) : Hs × List Int := (a.1 ++ [(chAt cs i, payN caps a.1 (chAt cs i))], a.2.set i (payN caps a.1 (chAt cs i)))
def runF (caps : List Cp) (cs : List CV) (l : List Nat) : Hs × List Int := l.foldl (stp caps cs) ([], List.replicate cs.length 0)
theorem runF_snoc (caps : List Cp) (cs : List CV) (l : List Nat) (i : Nat) : runF caps cs (l ++ [i]) = stp caps cs (runF caps cs l) i := by unfold runF; rw [List.foldl_append]; rfl
theorem runF_len (caps : List Cp) (cs : List CV) (l : List Nat) : (runF caps cs l).2.length = cs.length := by
  unfold runF
  suffices h : ∀ (l : List Nat) (a : Hs × List Int), (l.foldl (stp caps cs) a).2.length = a.2.length by rw [h]; simp
  intro l
  induction l with
  | nil => intro a; rfl
  | cons i l ih => intro a; rw [List.foldl_cons, ih]; simp [stp]
theorem runF_inv {caps : List Cp} {cs : List CV} (hc : ∀ c ∈ caps, 0 ≤ c.ct) (hx : ∀ x ∈ cs, 0 ≤ x.ct) (l : List Nat) (hl : ∀ i ∈ l, i < cs.length) : HInv caps (runF caps cs l).1 := by
  unfold runF
  suffices h : ∀ (l : List Nat) (a : Hs × List Int), (∀ i ∈ l, i < cs.length) → HInv caps a.1 → HInv caps (l.foldl (stp caps cs) a).1 by exact h l _ hl (HInv.nil hc)
  clear hl l
  intro l
  induction l with
  | nil => intro a _ h; exact h
  | cons i l ih =>
    intro a hl h
    rw [List.foldl_cons]
    have hi : i < cs.length := hl i (by simp)
    have hxi : chAt cs i ∈ cs := by rw [chAt_of (List.getElem?_eq_getElem hi)]; exact List.getElem_mem hi
    exact ih _ (fun j hj => hl j (List.mem_cons_of_mem _ hj)) (h.snoc (hx _ hxi))
/-- the error of Apply, what it pays -/
def chE (x : CV) : Int := if amB x.ct = false then 13 else if btmB x.tm = false then 12 else 0
def applyE (caps : List Cp) (cs : List CV) : Int := if 12 < caps.length ∨ 1024 < cs.length then 3 else if firstI (caps.map capE) ≠ 0 then firstI (caps.map capE) else firstI (cs.map chE)
def paidL (caps : List Cp) (cs : List CV) : List Int := (runF caps cs (ordN cs)).2
end Go.Proofs.YtlnnbkpcnhlfcaaDoor
/- What the map of cap.Apply says: plain. -/
namespace Go.Proofs.YtlnnbkpcnhlfcaaDoor

def gOf (caps : List Cp) (h : Hs) (s : Int × Int) : Int := if 0 ≤ s.1 then ((caps[s.1.toNat]?).map fun c => sumP c s.2 h).getD 0 else 0
def gMid (caps : List Cp) (h h' : Hs) (j : Nat) (s : Int × Int) : Int := if 0 ≤ s.1 ∧ s.1 < j then gOf caps h' s else gOf caps h s
theorem gOf_nil (caps : List Cp) : gOf caps [] = fun _ => 0 := by
  funext s
  unfold gOf
  split
  · cases caps[s.1.toNat]? <;> simp [sumP_nil]
  · rfl
theorem gMid_0 (caps : List Cp) (h h' : Hs) : gMid caps h h' 0 = gOf caps h := by
  funext s; unfold gMid; rw [if_neg (by omega)]
theorem gMid_n (caps : List Cp) (h h' : Hs) : gMid caps h h' caps.length = gOf caps h' := by
  funext s
  unfold gMid
  split
  · rfl
  · rename_i q
    unfold gOf
    split
    · rw [List.getElem?_eq_none (by omega)]; rfl
    · rfl
theorem gOf_at {caps : List Cp} {h : Hs} {j : Nat} {c : Cp} (hc : caps[j]? = some c) (p : Int) : gOf caps h ((j : Int), p) = sumP c p h := by
  unfold gOf; simp [hc]
theorem gMid_at {caps : List Cp} {h h' : Hs} {j : Nat} {c : Cp} (hc : caps[j]? = some c) (p : Int) : gMid caps h h' j ((j : Int), p) = sumP c p h := by
  unfold gMid; rw [if_neg (by simp), gOf_at hc]
theorem gMid_new {caps : List Cp} {h : Hs} {x : CV} {n : Int} {j : Nat} {c : Cp} (hc : caps[j]? = some c) (hm : matB c x = true) :
    gMid caps h (h ++ [(x, n)]) (j + 1) ((j : Int), perN c.days x.tm) = gMid caps h (h ++ [(x, n)]) j ((j : Int), perN c.days x.tm) + n := by
  rw [gMid_at hc]
  unfold gMid
  rw [if_pos (by simp; omega), gOf_at hc, sumP_snoc, if_pos (by unfold inP; simp [hm])]
theorem gMid_oth {caps : List Cp} {h : Hs} {x : CV} {n : Int} {j : Nat} {c : Cp} (hc : caps[j]? = some c) (s : Int × Int) (hs : s ≠ ((j : Int), perN c.days x.tm)) :
    gMid caps h (h ++ [(x, n)]) (j + 1) s = gMid caps h (h ++ [(x, n)]) j s := by
  obtain ⟨s1, s2⟩ := s
  by_cases e : s1 = (j : Int)
  · subst e
    rw [gMid_at hc]
    unfold gMid
    rw [if_pos (by simp; omega), gOf_at hc, sumP_snoc, if_neg]
    · omega
    · intro q
      unfold inP at q
      simp only [Bool.and_eq_true, decide_eq_true_eq] at q
      exact hs (by rw [q.2])
  · unfold gMid
    by_cases q : 0 ≤ s1 ∧ s1 < (j : Int)
    · rw [if_pos q, if_pos (by simp only; omega)]
    · rw [if_neg q, if_neg (by simp only; omega)]
theorem gMid_skip {caps : List Cp} {h : Hs} {x : CV} {n : Int} {j : Nat} {c : Cp} (hc : caps[j]? = some c) (hm : matB c x = false) :
    gMid caps h (h ++ [(x, n)]) (j + 1) = gMid caps h (h ++ [(x, n)]) j := by
  funext s
  by_cases q : s = ((j : Int), perN c.days x.tm)
  · subst q
    rw [gMid_at hc]
    unfold gMid
    rw [if_pos (by simp; omega), gOf_at hc, sumP_snoc, if_neg (by unfold inP; simp [hm])]
    omega
  · exact gMid_oth hc s q
theorem gMid_bnd {caps : List Cp} {h : Hs} (hi : HInv caps h) {j : Nat} {c : Cp} (hc : caps[j]? = some c) (h' : Hs) (p : Int) : 0 ≤ gMid caps h h' j ((j : Int), p) ∧ gMid caps h h' j ((j : Int), p) ≤ c.ct := by
  rw [gMid_at hc]
  exact ⟨sumP_nonneg hi.1 c p, hi.2 c (List.mem_of_getElem? hc) p⟩
def payK (caps : List Cp) (h : Hs) (x : CV) (j : Nat) : Int := (caps.take j).foldl (payS h x) x.ct
theorem payK_0 (caps : List Cp) (h : Hs) (x : CV) : payK caps h x 0 = x.ct := rfl
theorem payK_n (caps : List Cp) (h : Hs) (x : CV) : payK caps h x caps.length = payN caps h x := by unfold payK; rw [List.take_length]; rfl
theorem payK_succ {caps : List Cp} {h : Hs} {x : CV} {j : Nat} {c : Cp} (hc : caps[j]? = some c) : payK caps h x (j + 1) = payS h x (payK caps h x j) c := by
  unfold payK; rw [take_snoc hc, List.foldl_append]; rfl
theorem payK_bnd {caps : List Cp} {h : Hs} {x : CV} (hi : HInv caps h) (hx : 0 ≤ x.ct) (j : Nat) : 0 ≤ payK caps h x j ∧ payK caps h x j ≤ x.ct := by
  have hi2 : HInv (caps.take j) h := ⟨hi.1, fun c hc p => hi.2 c (List.mem_of_mem_take hc) p⟩
  have := payN_bounds hi2 hx
  exact ⟨this.1, this.2.1⟩
theorem perN_bnd (days t : Int) : -1 ≤ perN days t ∧ perN days t ≤ 1000000 := by
  have hd : -1 ≤ dayN t ∧ dayN t ≤ 795364 := by unfold dayN; split <;> omega
  unfold perN
  split
  · omega
  · split
    · unfold monN monD
      split
      · rename_i q
        have h := month_rng q.1 q.2
        omega
      · omega
    · omega
end Go.Proofs.YtlnnbkpcnhlfcaaDoor
/- The reference's Apply in plain words: the choice of the next charge, what is left. No program in sight. -/
namespace Go.Proofs.YtlnnbkpcnhlfcaaDoor
open Go.Sort

/-- whether the charge at i is paid before that at k -/
def firstB (cs : List CV) (i k : Nat) : Bool := ltI cs i k || (!ltI cs k i && decide (i < k))
theorem firstB_asym {cs : List CV} {i k : Nat} (h : firstB cs i k = true) : firstB cs k i = false := by
  unfold firstB at *
  cases h1 : ltI cs i k
  · rw [h1] at h
    cases h2 : ltI cs k i
    · rw [h2] at h; simp at h ⊢; omega
    · rw [h2] at h; simp at h
  · have h2 : ltI cs k i = false := (ltI_swo cs).asymmA h1
    rw [h2]; simp
theorem firstB_lex (cs : List CV) (i k : Nat) : firstB cs i k = lexB (ltI cs) (i, i) (k, k) := rfl
theorem firstB_trans {cs : List CV} {i k j : Nat} (h : firstB cs i k = true) (h2 : firstB cs k j = true) : firstB cs i j = true := by
  rw [firstB_lex] at *
  exact (lexB_swo (ltI_swo cs)).trans _ _ _ h h2
theorem firstB_total {cs : List CV} {i k : Nat} (h : i ≠ k) (h2 : firstB cs i k = false) : firstB cs k i = true := by
  unfold firstB at *
  cases h1 : ltI cs i k <;> cases h3 : ltI cs k i <;> simp [h1, h3] at h2 ⊢
  omega
theorem ordN_pair (cs : List CV) : (ordN cs).Pairwise fun x y => firstB cs x y = true := by
  have hnd : (ordN cs).Nodup := (ordN_perm cs).nodup_iff.2 List.nodup_range
  obtain ⟨t, hp, hs, he⟩ := ordN_stab cs
  have ht : ∀ p ∈ t, p = (p.1, p.1) := fun p hp' => by
    have := hp.subset hp'
    obtain ⟨a, b⟩ := p
    have := List.mem_zipIdx_iff_getElem?.1 this
    simp only at this
    have e := (List.getElem?_eq_some_iff.1 this).2
    rw [List.getElem_range] at e
    simp [e]
  have h1 : (ordN cs).Pairwise fun x y => firstB cs y x = false := by
    rw [he, List.pairwise_map]
    refine hs.imp_of_mem fun {x y} hx hy h => ?_
    rw [firstB_lex, ← ht x hx, ← ht y hy]
    exact h
  refine List.Pairwise.imp₂ (R := fun x y => firstB cs y x = false) (S := fun x y => x ≠ y) (fun x y h h2 => firstB_total (Ne.symm h2) h) h1 hnd
/-- the place of the first that is not done, of the first k -/
def bestN (cs : List CV) (dn : Nat → Bool) : Nat → Int
  | 0 => -1
  | k + 1 => if dn k = false ∧ (bestN cs dn k < 0 ∨ firstB cs k (bestN cs dn k).toNat = true) then (k : Int) else bestN cs dn k
theorem bestN_spec (cs : List CV) (dn : Nat → Bool) : ∀ k, (bestN cs dn k = -1 ∧ ∀ i, i < k → dn i = true) ∨ ∃ a : Nat, bestN cs dn k = (a : Int) ∧ a < k ∧ dn a = false ∧ ∀ i, i < k → dn i = false → i ≠ a → firstB cs a i = true
  | 0 => .inl ⟨rfl, fun i h => absurd h (Nat.not_lt_zero _)⟩
  | k + 1 => by
    have ih := bestN_spec cs dn k
    unfold bestN
    cases hd : dn k
    · rcases ih with ⟨h1, h2⟩ | ⟨a, h1, h2, h3, h4⟩
      · rw [if_pos ⟨rfl, .inl (by omega)⟩]
        refine .inr ⟨k, rfl, by omega, hd, fun i hi hdi hne => ?_⟩
        rw [h2 i (by omega)] at hdi; cases hdi
      · by_cases hf : firstB cs k a = true
        · rw [h1, if_pos ⟨rfl, .inr (by simpa using hf)⟩]
          refine .inr ⟨k, rfl, by omega, hd, fun i hi hdi hne => ?_⟩
          by_cases e : i = a
          · rw [e]; exact hf
          · exact firstB_trans hf (h4 i (by omega) hdi e)
        · rw [h1, if_neg (by rintro ⟨-, q | q⟩; · omega
                             · exact hf (by simpa using q))]
          refine .inr ⟨a, rfl, by omega, h3, fun i hi hdi hne => ?_⟩
          by_cases e : i = k
          · rw [e]; exact firstB_total (by omega) (by simpa using hf)
          · exact h4 i (by omega) hdi hne
    · rw [if_neg (by simp)]
      rcases ih with ⟨h1, h2⟩ | ⟨a, h1, h2, h3, h4⟩
      · refine .inl ⟨h1, fun i hi => ?_⟩
        by_cases e : i = k
        · rw [e]; exact hd
        · exact h2 i (by omega)
      · refine .inr ⟨a, h1, by omega, h3, fun i hi hdi hne => ?_⟩
        by_cases e : i = k
        · rw [e, hd] at hdi; cases hdi
        · exact h4 i (by omega) hdi hne
/-- what is done after n rounds -/
def doneB (cs : List CV) (n j : Nat) : Bool := decide (j ∈ (ordN cs).take n)
theorem best_next {cs : List CV} {n i : Nat} (hn : (ordN cs)[n]? = some i) : bestN cs (doneB cs n) cs.length = (i : Int) := by
  have hlt : n < (ordN cs).length := (List.getElem?_eq_some_iff.1 hn).1
  have hpr := ordN_pair cs
  have hsplit : ordN cs = (ordN cs).take n ++ i :: (ordN cs).drop (n + 1) := by
    have h1 := (List.getElem?_eq_some_iff.1 hn).2
    rw [← h1, List.getElem_cons_drop, List.take_append_drop]
  have hnd : (ordN cs).Nodup := (ordN_perm cs).nodup_iff.2 List.nodup_range
  have hi : i < cs.length := ordN_lt (List.mem_of_getElem? hn)
  have hin : doneB cs n i = false := by
    unfold doneB
    refine decide_eq_false fun q => ?_
    rw [hsplit] at hnd
    exact (List.nodup_append.1 hnd).2.2 i q i (by simp) rfl
  rcases bestN_spec cs (doneB cs n) cs.length with ⟨h1, h2⟩ | ⟨a, h1, h2, h3, h4⟩
  · rw [h2 i hi] at hin; cases hin
  · rw [h1]
    by_cases e : a = i
    · rw [e]
    · exfalso
      have hf := h4 i hi hin (Ne.symm e)
      have ha : a ∈ ordN cs := (ordN_perm cs).mem_iff.2 (List.mem_range.2 h2)
      rw [hsplit] at ha hpr
      rcases List.mem_append.1 ha with ha | ha
      · have : doneB cs n a = true := decide_eq_true ha
        rw [this] at h3; cases h3
      · rcases List.mem_cons.1 ha with ha | ha
        · exact e ha
        · have := (List.pairwise_cons.1 (List.pairwise_append.1 hpr).2.1).1 a ha
          rw [firstB_asym hf] at this; cases this
def doneL (cs : List CV) (n : Nat) : List Bool := (List.range cs.length).map (doneB cs n)
theorem doneL_len (cs : List CV) (n : Nat) : (doneL cs n).length = cs.length := by simp [doneL]
theorem doneL_at {cs : List CV} {n j : Nat} (h : j < cs.length) : (doneL cs n)[j]? = some (doneB cs n j) := by
  unfold doneL; rw [List.getElem?_map, List.getElem?_range h]; rfl
theorem doneL_0 (cs : List CV) : doneL cs 0 = List.replicate cs.length false := by
  apply List.ext_getElem?
  intro j
  by_cases h : j < cs.length
  · rw [doneL_at h, List.getElem?_replicate, if_pos h]; simp [doneB]
  · rw [List.getElem?_eq_none (by rw [doneL_len]; omega), List.getElem?_eq_none (by simp; omega)]
theorem doneL_succ {cs : List CV} {n i : Nat} (hn : (ordN cs)[n]? = some i) : (doneL cs n).set i true = doneL cs (n + 1) := by
  have hi : i < cs.length := ordN_lt (List.mem_of_getElem? hn)
  apply List.ext_getElem?
  intro j
  by_cases h : j < cs.length
  · rw [List.getElem?_set, doneL_at h, doneL_at h]
    have e : (ordN cs).take (n + 1) = (ordN cs).take n ++ [i] := take_snoc hn
    by_cases hj : i = j
    · subst hj
      rw [if_pos rfl, if_pos (by rw [doneL_len]; exact hi)]
      unfold doneB; rw [e]; simp
    · rw [if_neg hj]
      unfold doneB; rw [e]; simp [Ne.symm hj]
  · rw [List.getElem?_eq_none (by rw [List.length_set, doneL_len]; omega), List.getElem?_eq_none (by rw [doneL_len]; omega)]
/-- the charges done, with what was paid as their amounts -/
def paidC (h : Hs) : List CV := h.map fun y => { y.1 with ct := y.2 }
def sumQ (c : Cp) (p : Int) (l : List CV) : Int := (l.map fun x => if inP c p x = true then x.ct else 0).sum
theorem sumQ_paid (c : Cp) (p : Int) (h : Hs) : sumQ c p (paidC h) = sumP c p h := by
  unfold sumQ sumP paidC
  rw [List.map_map]
  rfl
theorem sumQ_snoc (c : Cp) (p : Int) (l : List CV) (x : CV) : sumQ c p (l ++ [x]) = sumQ c p l + if inP c p x = true then x.ct else 0 := by simp [sumQ]
theorem sumQ_bnd (c : Cp) (p : Int) : ∀ {l : List CV}, (∀ x ∈ l, 0 ≤ x.ct ∧ x.ct ≤ 1125899906842624) → 0 ≤ sumQ c p l ∧ sumQ c p l ≤ 1125899906842624 * (l.length : Int)
  | [], _ => by simp [sumQ]
  | x :: l, h => by
    have a := h x (by simp)
    have b := sumQ_bnd c p (l := l) fun y hy => h y (by simp [hy])
    unfold sumQ at b ⊢
    rw [List.map_cons, List.sum_cons, List.length_cons]
    split <;> omega
/-- what a cap still permits -/
def leftR (c : Cp) (l : List CV) (t : Int) : Int := if perN c.days t < 0 then 0 else max (c.ct - sumQ c (perN c.days t) l) 0
theorem leftR_paid {c : Cp} {h : Hs} {x : CV} (hi : sumP c (perN c.days x.tm) h ≤ c.ct) (hp : 0 ≤ perN c.days x.tm) : leftR c (paidC h) x.tm = leftN c h x := by
  unfold leftR leftN
  rw [if_neg (by omega), sumQ_paid]
  omega
theorem capE_days {c : Cp} (h : capE c = 0) : c.days = 0 ∨ c.days = 1 := by
  unfold capE at h
  split at h
  · exact absurd h (by decide)
  · split at h
    · exact absurd h (by decide)
    · omega
theorem btm_perN {d t : Int} (hd : d = 0 ∨ d = 1) (h : btmB t = true) : 0 ≤ perN d t := by
  have := (btmB_per t).1 h
  rcases hd with rfl | rfl
  · exact this.2
  · exact this.1
theorem paidC_snoc (h : Hs) (x : CV) (n : Int) : paidC (h ++ [(x, n)]) = paidC h ++ [{ x with ct := n }] := by simp [paidC]
end Go.Proofs.YtlnnbkpcnhlfcaaDoor
/- Bills in plain words: owners, what is due under caps. No program in sight. -/
namespace Go.Proofs.YtlnnbkpcnhlfcaaDoor
open Go.Sort

def hasO (ac : List Av) (x : CV) : Bool := ownerB ac x.veh x.tm
def ownO (ac : List Av) (x : CV) : ByteArray := ownerN ac x.veh x.tm
/-- whether a charge is an account's -/
def isO (ac : List Av) (nm : ByteArray) (x : CV) : Bool := hasO ac x && eqS (ownO ac x) nm
def ofL (ac : List Av) (nm : ByteArray) (cs : List CV) : List CV := cs.filter (isO ac nm)
/-- the word "cap" -/
abbrev capS : ByteArray := ⟨#[99, 97, 112]⟩
def lessC (x : CV) (n : Int) : CV := if n < x.ct then { x with lns := x.lns ++ [(capS, n - x.ct)], ct := n } else x
/-- what is paid for the charge at i -/
def paidAt (ac : List Av) (caps : List Cp) (cs : List CV) (i : Nat) (x : CV) : Int :=
  ((paidL caps (ofL ac (ownO ac x) cs))[(ofL ac (ownO ac x) (cs.take i)).length]?).getD 0
def capOne (ac : List Av) (caps : List Cp) (cs : List CV) (i : Nat) : CV :=
  if hasO ac (chAt cs i) = true then lessC (chAt cs i) (paidAt ac caps cs i (chAt cs i)) else chAt cs i
def cappedL (ac : List Av) (caps : List Cp) (cs : List CV) : List CV := (List.range cs.length).map (capOne ac caps cs)
theorem cappedL_len (ac : List Av) (caps : List Cp) (cs : List CV) : (cappedL ac caps cs).length = cs.length := by simp [cappedL]
theorem cappedL_at {ac : List Av} {caps : List Cp} {cs : List CV} {i : Nat} (h : i < cs.length) : (cappedL ac caps cs)[i]? = some (capOne ac caps cs i) := by
  unfold cappedL; rw [List.getElem?_map, List.getElem?_range h]; rfl
/-- the places of an account's charges -/
def idxL (ac : List Av) (nm : ByteArray) (cs : List CV) (k : Nat) : List Nat := (List.range k).filter fun i => isO ac nm (chAt cs i)
theorem chAt_take {cs : List CV} {i k : Nat} (h : i < k) : chAt (cs.take k) i = chAt cs i := by
  unfold chAt; rw [List.getElem?_take, if_pos h]
theorem idxL_map (ac : List Av) (nm : ByteArray) (cs : List CV) : ∀ k, k ≤ cs.length → (idxL ac nm cs k).map (chAt cs) = ofL ac nm (cs.take k)
  | 0, _ => by simp [idxL, ofL]
  | k + 1, h => by
    have ih := idxL_map ac nm cs k (by omega)
    have hx : cs[k]? = some (chAt cs k) := by unfold chAt; rw [List.getElem?_eq_getElem (by omega)]; rfl
    unfold idxL ofL at *
    rw [List.range_succ, List.filter_append, List.map_append, ih, take_snoc hx, List.filter_append]
    congr 1
    cases hi : isO ac nm (chAt cs k) <;> simp [List.filter_cons, hi]
theorem idxL_lt {ac : List Av} {nm : ByteArray} {cs : List CV} {k i : Nat} (h : i ∈ idxL ac nm cs k) : i < k ∧ isO ac nm (chAt cs i) = true := by
  unfold idxL at h
  rw [List.mem_filter, List.mem_range] at h
  exact h
theorem idxL_succ (ac : List Av) (nm : ByteArray) (cs : List CV) (k : Nat) : idxL ac nm cs (k + 1) = idxL ac nm cs k ++ (if isO ac nm (chAt cs k) = true then [k] else []) := by
  unfold idxL
  rw [List.range_succ, List.filter_append]
  cases hi : isO ac nm (chAt cs k) <;> simp [List.filter_cons, hi]
/-- the place of i among the places -/
theorem idxL_place {ac : List Av} {nm : ByteArray} {cs : List CV} : ∀ {k j i : Nat}, (idxL ac nm cs k)[j]? = some i → j = (idxL ac nm cs i).length
  | 0, j, i, h => by simp [idxL] at h
  | k + 1, j, i, h => by
    rw [idxL_succ] at h
    by_cases hj : j < (idxL ac nm cs k).length
    · rw [List.getElem?_append_left hj] at h
      exact idxL_place h
    · rw [List.getElem?_append_right (by omega)] at h
      split at h
      · have hjk : j - (idxL ac nm cs k).length = 0 := by
          have := (List.getElem?_eq_some_iff.1 h).1
          simp at this; omega
        rw [hjk] at h
        simp at h
        subst h
        omega
      · simp at h
theorem idxL_nodup (ac : List Av) (nm : ByteArray) (cs : List CV) (k : Nat) : (idxL ac nm cs k).Nodup := List.Nodup.sublist List.filter_sublist List.nodup_range
/-- what the j-th of an account's charges pays -/
theorem paidAt_idx {ac : List Av} {caps : List Cp} {nm : ByteArray} {cs : List CV} {j i : Nat} (h : (idxL ac nm cs cs.length)[j]? = some i) :
    paidAt ac caps cs i (chAt cs i) = ((paidL caps (ofL ac nm cs))[j]?).getD 0 ∧ capOne ac caps cs i = lessC (chAt cs i) (((paidL caps (ofL ac nm cs))[j]?).getD 0) ∧ i < cs.length := by
  obtain ⟨hi, ho⟩ := idxL_lt (List.mem_of_getElem? h)
  have hpl := idxL_place h
  unfold isO at ho
  simp only [Bool.and_eq_true] at ho
  have hnm : ownO ac (chAt cs i) = nm := (eqS_iff _ _).1 ho.2
  have e1 : paidAt ac caps cs i (chAt cs i) = ((paidL caps (ofL ac nm cs))[j]?).getD 0 := by
    unfold paidAt
    rw [hnm, ← idxL_map ac nm cs i (by omega), List.length_map, ← hpl]
  refine ⟨e1, ?_, hi⟩
  unfold capOne
  rw [if_pos ho.1, e1]
theorem paidL_len (caps : List Cp) (cs : List CV) : (paidL caps cs).length = cs.length := runF_len caps cs _
/-- a part of valid charges is valid -/
theorem applyE_part {caps : List Cp} {cs ds : List CV} (h : applyE caps cs = 0) (hs : ∀ x ∈ ds, x ∈ cs) (hl : ds.length ≤ cs.length) : applyE caps ds = 0 := by
  unfold applyE at *
  split at h
  · exact absurd h (by decide)
  · rename_i q
    split at h
    · rename_i q2; exact absurd h q2
    · rename_i q2
      rw [if_neg (by omega), if_neg q2]
      rw [firstI_zero] at h ⊢
      intro y hy
      obtain ⟨x, hx, rfl⟩ := List.mem_map.1 hy
      exact h _ (List.mem_map.2 ⟨x, hs x hx, rfl⟩)
theorem ofL_sub {ac : List Av} {nm : ByteArray} {cs : List CV} : ∀ x ∈ ofL ac nm cs, x ∈ cs := fun x hx => (List.mem_filter.1 hx).1
theorem ofL_len (ac : List Av) (nm : ByteArray) (cs : List CV) : (ofL ac nm cs).length ≤ cs.length := List.length_filter_le _ _
end Go.Proofs.YtlnnbkpcnhlfcaaDoor
/- Years, months and days of a calendar, in plain Lean. No program in sight. -/
namespace Go.Proofs.YtlnnbkpcnhlfcaaDoor

def leapB (y : Int) : Bool := (decide (y % 4 = 0) && !decide (y % 100 = 0)) || decide (y % 400 = 0)
def yearN (y : Int) : Int := if leapB y = true then 366 else 365
def lenM (y m : Int) : Int := if m = 2 then (if leapB y = true then 29 else 28) else if m = 4 ∨ m = 6 ∨ m = 9 ∨ m = 11 then 30 else 31
theorem yearN_pos (y : Int) : 365 ≤ yearN y ∧ yearN y ≤ 366 := by unfold yearN; split <;> omega
theorem lenM_pos (y m : Int) : 28 ≤ lenM y m ∧ lenM y m ≤ 31 := by
  unfold lenM
  split
  · split <;> omega
  · split <;> omega
/-- days of n years from 2001 on -/
def cumY : Nat → Int
  | 0 => 0
  | n + 1 => cumY n + yearN (2001 + n)
theorem cumY_lt (n k : Nat) : cumY n + 365 * k ≤ cumY (n + k) := by
  induction k with
  | zero => simp
  | succ k ih =>
    have := (yearN_pos (2001 + ((n + k : Nat) : Int))).1
    show cumY n + 365 * ((k + 1 : Nat) : Int) ≤ cumY (n + k) + yearN (2001 + ((n + k : Nat) : Int))
    omega
theorem leapB_400 (y : Int) : leapB (y + 400) = leapB y := by
  unfold leapB
  rw [show (y + 400) % 4 = y % 4 by omega, show (y + 400) % 100 = y % 100 by omega, show (y + 400) % 400 = y % 400 by omega]
theorem cumY_400 (n : Nat) : cumY (n + 400) = cumY n + 146097 := by
  induction n with
  | zero => kernel_rfl
  | succ n ih =>
    rw [show n + 1 + 400 = (n + 400) + 1 by omega]
    show cumY (n + 400) + yearN (2001 + ((n + 400 : Nat) : Int)) = cumY n + yearN (2001 + (n : Int)) + 146097
    rw [ih]
    have : yearN (2001 + ((n + 400 : Nat) : Int)) = yearN (2001 + (n : Int)) := by
      unfold yearN
      rw [show (2001 + ((n + 400 : Nat) : Int)) = 2001 + (n : Int) + 400 by omega, leapB_400]
    omega
theorem cumY_cycle (k : Nat) : cumY (400 * k) = 146097 * k := by
  induction k with
  | zero => rfl
  | succ k ih => rw [show 400 * (k + 1) = 400 * k + 400 by omega, cumY_400, ih]; omega
/-- days of m months -/
def cumM (y : Int) : Nat → Int
  | 0 => 0
  | m + 1 => cumM y m + lenM y ((m : Int) + 1)
theorem cumM_12 (y : Int) : cumM y 12 = yearN y := by
  have h : cumM y 12 = 0 + lenM y (0 + 1) + lenM y (1 + 1) + lenM y (2 + 1) + lenM y (3 + 1) + lenM y (4 + 1) + lenM y (5 + 1) + lenM y (6 + 1) + lenM y (7 + 1) + lenM y (8 + 1) + lenM y (9 + 1) + lenM y (10 + 1) + lenM y (11 + 1) := rfl
  rw [h]
  unfold lenM yearN
  cases leapB y <;> rfl
theorem cumM_lt (y : Int) (m k : Nat) : cumM y m + 28 * k ≤ cumM y (m + k) := by
  induction k with
  | zero => simp
  | succ k ih =>
    have := (lenM_pos y (((m + k : Nat) : Int) + 1)).1
    show cumM y m + 28 * ((k + 1 : Nat) : Int) ≤ cumM y (m + k) + lenM y (((m + k : Nat) : Int) + 1)
    omega
/-- the date of a day: year 2001 + n, month m + 1, r days of it gone -/
structure DR (d : Int) (n m : Nat) (r : Int) : Prop where
  day : cumY n + (cumM (2001 + n) m + r) = d
  m12 : m < 12
  r0 : 0 ≤ r
  r1 : r < lenM (2001 + n) (m + 1)
theorem cumM_bound {y : Int} {m : Nat} {r : Int} (hm : m < 12) (h0 : 0 ≤ r) (h1 : r < lenM y (m + 1)) : 0 ≤ cumM y m + r ∧ cumM y m + r < yearN y := by
  have a := cumM_lt y 0 m
  have b := cumM_lt y (m + 1) (11 - m)
  rw [show m + 1 + (11 - m) = 12 by omega, cumM_12] at b
  have c : cumM y (m + 1) = cumM y m + lenM y ((m : Int) + 1) := rfl
  have e : cumM y 0 = 0 := rfl
  rw [Nat.zero_add] at a
  omega
theorem DR.unique {d : Int} {n n' m m' : Nat} {r r' : Int} (h : DR d n m r) (k : DR d n' m' r') : n = n' ∧ m = m' ∧ r = r' := by
  have hb := cumM_bound h.m12 h.r0 h.r1
  have kb := cumM_bound k.m12 k.r0 k.r1
  have hd := h.day
  have kd := k.day
  have e : n = n' := by
    rcases Nat.lt_trichotomy n n' with q | q | q
    · have a := cumY_lt (n + 1) (n' - (n + 1))
      rw [show n + 1 + (n' - (n + 1)) = n' by omega] at a
      have c : cumY (n + 1) = cumY n + yearN (2001 + n) := rfl
      omega
    · exact q
    · have a := cumY_lt (n' + 1) (n - (n' + 1))
      rw [show n' + 1 + (n - (n' + 1)) = n by omega] at a
      have c : cumY (n' + 1) = cumY n' + yearN (2001 + n') := rfl
      omega
  subst e
  have hr1 := h.r1
  have kr1 := k.r1
  have hr0 := h.r0
  have kr0 := k.r0
  have e2 : m = m' := by
    rcases Nat.lt_trichotomy m m' with q | q | q
    · have a := cumM_lt (2001 + n) (m + 1) (m' - (m + 1))
      rw [show m + 1 + (m' - (m + 1)) = m' by omega] at a
      have c : cumM (2001 + n) (m + 1) = cumM (2001 + n) m + lenM (2001 + n) ((m : Int) + 1) := rfl
      omega
    · exact q
    · have a := cumM_lt (2001 + n) (m' + 1) (m - (m' + 1))
      rw [show m' + 1 + (m - (m' + 1)) = m by omega] at a
      have c : cumM (2001 + n) (m' + 1) = cumM (2001 + n) m' + lenM (2001 + n) ((m' : Int) + 1) := rfl
      omega
  subst e2
  exact ⟨rfl, rfl, by omega⟩
/-- the search for the year and for the month -/
def yl : Nat → Nat → Int → Nat × Int
  | 0, n, l => (n, l)
  | f + 1, n, l => if l < yearN (2001 + n) then (n, l) else yl f (n + 1) (l - yearN (2001 + n))
def ml (y : Int) : Nat → Nat → Int → Nat × Int
  | 0, m, l => (m, l)
  | f + 1, m, l => if l < lenM y (m + 1) then (m, l) else ml y f (m + 1) (l - lenM y (m + 1))
theorem yl_holds : ∀ (f n : Nat) (l : Int), 0 ≤ l → l < 365 * f → 0 ≤ (yl f n l).2 ∧ (yl f n l).2 < yearN (2001 + (yl f n l).1) ∧ cumY (yl f n l).1 + (yl f n l).2 = cumY n + l
  | 0, n, l, h0, h1 => by omega
  | f + 1, n, l, h0, h1 => by
    unfold yl
    split
    · rename_i h; exact ⟨h0, h, rfl⟩
    · rename_i h
      have p := yearN_pos (2001 + n)
      have := yl_holds f (n + 1) (l - yearN (2001 + n)) (by omega) (by omega)
      have c : cumY (n + 1) = cumY n + yearN (2001 + n) := rfl
      refine ⟨this.1, this.2.1, ?_⟩
      omega
theorem ml_holds (y : Int) : ∀ (f m : Nat) (l : Int), 0 ≤ l → m + f = 12 → cumM y m + l < yearN y → (ml y f m l).1 < 12 ∧ 0 ≤ (ml y f m l).2 ∧ (ml y f m l).2 < lenM y ((ml y f m l).1 + 1) ∧ cumM y (ml y f m l).1 + (ml y f m l).2 = cumM y m + l
  | 0, m, l, h0, h1, h2 => by
    obtain rfl : m = 12 := by omega
    rw [cumM_12] at h2; omega
  | f + 1, m, l, h0, h1, h2 => by
    unfold ml
    split
    · rename_i h; exact ⟨by omega, h0, h, rfl⟩
    · rename_i h
      have c : cumM y (m + 1) = cumM y m + lenM y ((m : Int) + 1) := rfl
      have := ml_holds y f (m + 1) (l - lenM y ((m : Int) + 1)) (by omega) (by omega) (by omega)
      refine ⟨this.1, this.2.1, this.2.2.1, ?_⟩
      omega
def ymd (d : Int) : Nat × Nat × Int :=
  let a := yl 2200 0 d
  let b := ml (2001 + a.1) 12 0 a.2
  (a.1, b.1, b.2)
theorem ymd_holds {d : Int} (h0 : 0 ≤ d) (h1 : d < 795364) : DR d (ymd d).1 (ymd d).2.1 (ymd d).2.2 := by
  have a := yl_holds 2200 0 d h0 (by omega)
  have b := ml_holds (2001 + (yl 2200 0 d).1) 12 0 (yl 2200 0 d).2 a.1 (by omega) (by rw [show cumM (2001 + ((yl 2200 0 d).1 : Int)) 0 = 0 from rfl]; omega)
  have z : cumM (2001 + ((yl 2200 0 d).1 : Int)) 0 = 0 := rfl
  have z2 : cumY 0 = 0 := rfl
  exact ⟨by show cumY (yl 2200 0 d).1 + (cumM _ _ + _) = d; have e := b.2.2.2; unfold ymd; simp only; omega, b.1, b.2.1, b.2.2.1⟩
/-- the day of a time, the number of its month; -1: none -/
def dayN (t : Int) : Int := if 0 ≤ t ∧ t < 68719476736 then t / 86400 else -1
def monD (d : Int) : Int := if 0 ≤ d ∧ d < 795364 then 12 * ((ymd d).1 : Int) + (ymd d).2.1 else -1
def monN (t : Int) : Int := monD (dayN t)
theorem DR.n_le {d : Int} {n m : Nat} {r : Int} (h : DR d n m r) (h1 : d < 795364) : n ≤ 2200 := by
  have hb := cumM_bound h.m12 h.r0 h.r1
  have a := cumY_lt 0 n
  have hd := h.day
  have z : cumY 0 = 0 := rfl
  rw [Nat.zero_add] at a
  omega
end Go.Proofs.YtlnnbkpcnhlfcaaDoor
