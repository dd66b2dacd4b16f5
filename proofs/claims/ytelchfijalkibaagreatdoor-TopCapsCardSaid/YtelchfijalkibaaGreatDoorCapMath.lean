/- What is paid under caps, in plain words. No program in sight. -/
import Derived.Test.YtelchfijalkibaaGreatDoorJAccEnc
import Derived.Test.YtelchfijalkibaaGreatDoorJDetMath
import Derived.Test.YtelchfijalkibaaGreatDoorJStabMath
namespace Go.Proofs.YtelchfijalkibaaGreatDoor
open Go.Sort

def cmpCh (a b : CV) : Int := firstI [cmpI a.tm b.tm, cmpS a.key b.key]
theorem cmpCh_pre : PreC cmpCh := (cmpI_pre.on CV.tm).cons (pre_one (cmpS_pre.on CV.key))
def chAt (cs : List CV) (i : Nat) : CV := (cs[i]?).getD zeroC
theorem chAt_of {cs : List CV} {i : Nat} {x : CV} (h : cs[i]? = some x) : chAt cs i = x := by unfold chAt; rw [h]; rfl
def ltI (cs : List CV) (i k : Nat) : Bool := ltOf cmpCh (chAt cs i) (chAt cs k)
theorem ltI_swo (cs : List CV) : SWO (ltI cs) := ⟨fun x => cmpCh_pre.swo.irrefl _, fun x y z => cmpCh_pre.swo.trans _ _ _, fun x y z => cmpCh_pre.swo.ntrans _ _ _⟩
/-- the order in which charges are paid -/
def ordK (cs : List CV) (k : Nat) : List Nat := (List.range k).foldl (fun r i => insS (ltI cs) i r) []
def ordN (cs : List CV) : List Nat := ordK cs cs.length
theorem ordK_stab (cs : List CV) : ∀ k, StabOf (ltI cs) (List.range k) (ordK cs k)
  | 0 => StabOf.nil
  | k + 1 => by
    have := StabOf.snoc (ltI_swo cs) (ordK_stab cs k) k
    unfold ordK
    rw [List.range_succ, List.foldl_append]
    exact this
theorem ordN_stab (cs : List CV) : StabOf (ltI cs) (List.range cs.length) (ordN cs) := ordK_stab cs _
theorem ordN_perm (cs : List CV) : (ordN cs).Perm (List.range cs.length) := (ordN_stab cs).perm
theorem ordN_len (cs : List CV) : (ordN cs).length = cs.length := by have := (ordN_perm cs).length_eq; simpa using this
theorem ordN_lt {cs : List CV} {i : Nat} (h : i ∈ ordN cs) : i < cs.length := List.mem_range.1 ((ordN_perm cs).mem_iff.1 h)
theorem stab_map {α β : Type} {lt : α → α → Bool} {lt' : β → β → Bool} (f : α → β) (hf : ∀ x y, lt' (f x) (f y) = lt x y) {l l' : List α} (h : StabOf lt l l') : StabOf lt' (l.map f) (l'.map f) := by
  obtain ⟨t, h1, h2, h3⟩ := h
  refine ⟨t.map (fun p => (f p.1, p.2)), ?_, ?_, ?_⟩
  · have : (l.map f).zipIdx = l.zipIdx.map (fun p => (f p.1, p.2)) := by rw [List.zipIdx_map]; rfl
    rw [this]; exact h1.map _
  · rw [List.pairwise_map]
    refine h2.imp fun {x y} h => ?_
    unfold lexB at h ⊢
    simp only [hf]
    exact h
  · rw [h3]; simp [List.map_map, Function.comp_def]

/-- charges done, with what was paid -/
abbrev Hs := List (CV × Int)
def inP (c : Cp) (p : Int) (x : CV) : Bool := matB c x && decide (perN c.days x.tm = p)
def sumP (c : Cp) (p : Int) (h : Hs) : Int := (h.map fun y => if inP c p y.1 = true then y.2 else 0).sum
theorem sumP_snoc (c : Cp) (p : Int) (h : Hs) (x : CV) (n : Int) : sumP c p (h ++ [(x, n)]) = sumP c p h + if inP c p x = true then n else 0 := by simp [sumP]
theorem sumP_nil (c : Cp) (p : Int) : sumP c p [] = 0 := rfl
def leftN (c : Cp) (h : Hs) (x : CV) : Int := c.ct - sumP c (perN c.days x.tm) h
def payS (h : Hs) (x : CV) (n : Int) (c : Cp) : Int := if matB c x = true then min n (leftN c h x) else n
def payN (caps : List Cp) (h : Hs) (x : CV) : Int := caps.foldl (payS h x) x.ct
/-- what holds of the charges done -/
def HInv (caps : List Cp) (h : Hs) : Prop := (∀ y ∈ h, 0 ≤ y.2) ∧ ∀ c ∈ caps, ∀ p, sumP c p h ≤ c.ct
theorem sumP_nonneg {h : Hs} (hh : ∀ y ∈ h, 0 ≤ y.2) (c : Cp) (p : Int) : 0 ≤ sumP c p h := by
  induction h with
  | nil => exact Int.le_refl _
  | cons y h ih =>
    have h1 := ih fun z hz => hh z (List.mem_cons_of_mem _ hz)
    have h2 := hh y (by simp)
    unfold sumP at h1 ⊢
    rw [List.map_cons, List.sum_cons]
    split <;> omega
theorem payN_bounds {caps : List Cp} {h : Hs} {x : CV} (hi : HInv caps h) (hx : 0 ≤ x.ct) : 0 ≤ payN caps h x ∧ payN caps h x ≤ x.ct ∧ ∀ c ∈ caps, matB c x = true → payN caps h x ≤ leftN c h x := by
  suffices H : ∀ (l : List Cp) (n : Int), (∀ c ∈ l, c ∈ caps) → 0 ≤ n → 0 ≤ l.foldl (payS h x) n ∧ l.foldl (payS h x) n ≤ n ∧ ∀ c ∈ l, matB c x = true → l.foldl (payS h x) n ≤ leftN c h x by
    exact H caps x.ct (fun _ h => h) hx
  intro l
  induction l with
  | nil => intro n _ h0; exact ⟨h0, Int.le_refl _, fun c hc => by cases hc⟩
  | cons c l ih =>
    intro n hl h0
    rw [List.foldl_cons]
    have hc := hl c (by simp)
    have hleft : 0 ≤ leftN c h x := by unfold leftN; have := hi.2 c hc (perN c.days x.tm); omega
    have hs : 0 ≤ payS h x n c ∧ payS h x n c ≤ n ∧ (matB c x = true → payS h x n c ≤ leftN c h x) := by
      unfold payS
      split
      · exact ⟨by omega, by omega, fun _ => by omega⟩
      · rename_i q; exact ⟨h0, Int.le_refl _, fun q2 => absurd q2 q⟩
    obtain ⟨a1, a2, a3⟩ := ih (payS h x n c) (fun d hd => hl d (List.mem_cons_of_mem _ hd)) hs.1
    refine ⟨a1, by omega, fun d hd hm => ?_⟩
    rcases List.mem_cons.1 hd with rfl | hd
    · have := hs.2.2 hm; omega
    · exact a3 d hd hm
theorem HInv.nil {caps : List Cp} (h : ∀ c ∈ caps, 0 ≤ c.ct) : HInv caps [] := ⟨fun y hy => (by cases hy), fun c hc p => by rw [sumP_nil]; exact h c hc⟩
theorem HInv.snoc {caps : List Cp} {h : Hs} {x : CV} (hi : HInv caps h) (hx : 0 ≤ x.ct) : HInv caps (h ++ [(x, payN caps h x)]) := by
  have hb := payN_bounds hi hx
  refine ⟨fun y hy => ?_, fun c hc p => ?_⟩
  · rcases List.mem_append.1 hy with hy | hy
    · exact hi.1 y hy
    · rw [List.mem_singleton] at hy; subst hy; exact hb.1
  · rw [sumP_snoc]
    have := hi.2 c hc p
    split
    · rename_i q
      unfold inP at q
      simp only [Bool.and_eq_true, decide_eq_true_eq] at q
      have := hb.2.2 c hc q.1
      unfold leftN at this
      rw [q.2] at this
      omega
    · omega
/-- the fold over the order -/
def stp (caps : List Cp) (cs : List CV) (a : Hs × List Int) (i : Nat) : Hs × List Int := (a.1 ++ [(chAt cs i, payN caps a.1 (chAt cs i))], a.2.set i (payN caps a.1 (chAt cs i)))
def runF (caps : List Cp) (cs : List CV) (l : List Nat) : Hs × List Int := l.foldl (stp caps cs) ([], List.replicate cs.length 0)
theorem runF_snoc (caps : List Cp) (cs : List CV) (l : List Nat) (i : Nat) : runF caps cs (l ++ [i]) = stp caps cs (runF caps cs l) i := by unfold runF; rw [List.foldl_append]; rfl
theorem runF_len (caps : List Cp) (cs : List CV) (l : List Nat) : (runF caps cs l).2.length = cs.length := by
  unfold runF
  suffices h : ∀ (l : List Nat) (a : Hs × List Int), (l.foldl (stp caps cs) a).2.length = a.2.length by rw [h]; simp
  intro l
  induction l with
  | nil => intro a; rfl
  | cons i l ih => intro a; rw [List.foldl_cons, ih]; simp [stp]
theorem runF_inv {caps : List Cp} {cs : List CV} (hc : ∀ c ∈ caps, 0 ≤ c.ct) (hx : ∀ x ∈ cs, 0 ≤ x.ct) (l : List Nat) (hl : ∀ i ∈ l, i < cs.length) : HInv caps (runF caps cs l).1 := by
  unfold runF
  suffices h : ∀ (l : List Nat) (a : Hs × List Int), (∀ i ∈ l, i < cs.length) → HInv caps a.1 → HInv caps (l.foldl (stp caps cs) a).1 by exact h l _ hl (HInv.nil hc)
  clear hl l
  intro l
  induction l with
  | nil => intro a _ h; exact h
  | cons i l ih =>
    intro a hl h
    rw [List.foldl_cons]
    have hi : i < cs.length := hl i (by simp)
    have hxi : chAt cs i ∈ cs := by rw [chAt_of (List.getElem?_eq_getElem hi)]; exact List.getElem_mem hi
    exact ih _ (fun j hj => hl j (List.mem_cons_of_mem _ hj)) (h.snoc (hx _ hxi))
/-- the error of Apply, what it pays -/
def chE (x : CV) : Int := if cmB x.ct = false then 13 else if btmB x.tm = false then 12 else 0
def applyE (caps : List Cp) (cs : List CV) : Int := if 12 < caps.length ∨ 1024 < cs.length then 3 else if firstI (caps.map capE) ≠ 0 then firstI (caps.map capE) else firstI (cs.map chE)
def paidL (caps : List Cp) (cs : List CV) : List Int := (runF caps cs (ordN cs)).2
end Go.Proofs.YtelchfijalkibaaGreatDoor
