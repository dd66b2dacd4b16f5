/- Joined texts: RelApz, RelAwakeMath, RelDownMath. -/
import Derived.Test.YtekdppnlgkfcdaaJRelEnc
/- The three ways of Apply, in plain words. -/
namespace Go.Proofs.Ytekdppnlgkfcdaa
open Go.RowKit Go.Lib
theorem apz1 {rls : List Iv} {ks : List Int} {c : CV} (q : relsE rls ≠ 0) : apC rls ks c = zeroC ∧ apE rls c.ct = relsE rls := by
  have e : apE rls c.ct = relsE rls := by unfold apE; rw [if_pos q]
  exact ⟨by unfold apC; rw [if_pos (by rw [e]; exact q)], e⟩
theorem apz2 {rls : List Iv} {ks : List Int} {c : CV} (q : relsE rls = 0) (r : c.ct < 0 ∨ 1125899906842624 < c.ct) : apC rls ks c = zeroC ∧ apE rls c.ct = 13 := by
  have e : apE rls c.ct = 13 := by unfold apE; rw [if_neg (by omega), if_neg (by omega)]
  exact ⟨by unfold apC; rw [if_pos (by rw [e]; decide)], e⟩
theorem apz3 {rls : List Iv} {ks : List Int} {c : CV} (q : relsE rls = 0) (r : ¬ c.ct < 0) (s : ¬ 1125899906842624 < c.ct) : apC rls ks c = cutC c (lessN rls ks c.ct) ∧ apE rls c.ct = 0 := by
  have e : apE rls c.ct = 0 := by unfold apE; rw [if_neg (by omega), if_pos (by omega)]
  exact ⟨by unfold apC; rw [if_neg (by rw [e]; decide)], e⟩
theorem lessN_bounds (rls : List Iv) (ks : List Int) {ct : Int} (h : 0 ≤ ct) : 0 ≤ lessN rls ks ct ∧ lessN rls ks ct ≤ ct := by
  have hp := partN_bounds rls ks
  exact upN_bounds h hp.1 hp.2
theorem cutC_0 (c : CV) {n : Int} (h : n = 0) : cutC c n = c := by unfold cutC; rw [if_pos h]
theorem cutC_1 (key veh sys : ByteArray) (cls tm : Int) (lns : List Ln) (ct : Int) {n : Int} (h : n ≠ 0) : cutC ⟨key, veh, sys, cls, tm, lns, ct⟩ n = ⟨key, veh, sys, cls, tm, lns ++ [(outS, -n)], ct - n⟩ := by unfold cutC; rw [if_neg h]
end Go.Proofs.Ytekdppnlgkfcdaa
/- What the chapter's examples are in plain words. -/
namespace Go.Proofs.Ytekdppnlgkfcdaa
open Go.RowKit Go.Lib

abbrev sCam : ByteArray := ⟨#[99, 97, 109]⟩
abbrev sP : ByteArray := ⟨#[112]⟩
abbrev sQ : ByteArray := ⟨#[113]⟩
abbrev sK : ByteArray := ⟨#[107]⟩
abbrev s0 : ByteArray := ⟨#[]⟩
def exV (dA : Option Addr) : Dv := ⟨sCam, sP, 2, 0, none, 0, [], dA, 1, [(50, 60)]⟩
def exSt : List St := [⟨sQ, 5, s0⟩, ⟨sP, 55, s0⟩]
def exR2 : List Iv := [(0, 100), (2, 1000)]
def exR1 : List Iv := [(0, 100)]
def exC (n : Int) : CV := ⟨sK, s0, s0, 0, 0, [], n⟩
theorem exDown (a : Option Addr) : downL [exV a] exSt = [2] := by
  have q0 : eqS sP sQ = false := by decide +kernel
  have q1 : eqS sP sP = true := by decide +kernel
  have h1 : ∀ k, selB sQ k (exV a) = false := by intro k; simp [selB, exV, q0]
  have h2 : selB sP 1 (exV a) = false ∧ selB sP 2 (exV a) = true ∧ selB sP 3 (exV a) = false := by simp [selB, exV, q1]
  have h3 : noneB [exV a] 55 = true := by simp [noneB, worksB, tB, hasB, exV, validB]
  simp [downL, exSt, downB, h1, h2, h3]
theorem exE : relsE exR2 = 0 ∧ relsE exR1 = 0 ∧ relsE [(4, 0)] = 1 := by decide +kernel
theorem exPart : partN exR2 [1] = 100 ∧ partN exR2 [2] = 1000 ∧ partN exR2 [] = 0 := by decide +kernel
theorem exA2 : apE exR2 205 = 0 ∧ apE exR1 205 = 0 ∧ apE exR2 (-1) = 13 ∧ apE exR1 (-1) = 13 := by decide +kernel
theorem exY : apC exR2 [2] (exC 205) = ⟨sK, s0, s0, 0, 0, [(outS, -205)], 0⟩ := by
  have h : lessN exR2 [2] (exC 205).ct = 205 := by decide +kernel
  rw [(apz3 (c := exC 205) exE.1 (by decide) (by decide)).1, h, exC, cutC_1 _ _ _ _ _ _ _ (by decide)]; rfl
theorem exZ : apC exR1 [2] (exC 205) = ⟨sK, s0, s0, 0, 0, [(outS, -21)], 184⟩ := by
  have h : lessN exR1 [2] (exC 205).ct = 21 := by decide +kernel
  rw [(apz3 (c := exC 205) exE.2.1 (by decide) (by decide)).1, h, exC, cutC_1 _ _ _ _ _ _ _ (by decide)]; rfl
theorem exN : apC exR1 [2] (exC (-1)) = zeroC := (apz2 (c := exC (-1)) exE.2.1 (.inl (by decide))).1
theorem exW : wvB ⟨sK, s0, s0, 0, 0, [(outS, -205)], 0⟩ = true ∧ wvB ⟨sK, s0, s0, 0, 0, [(outS, -21)], 184⟩ = false := by
  constructor
  · show ((0 : Int) == 0 && (eqS outS outS || false)) = true
    have : eqS outS outS = true := by simp [eqS]
    rw [this]; rfl
  · show ((184 : Int) == 0 && _) = false
    rfl
end Go.Proofs.Ytekdppnlgkfcdaa
/- The kinds that were down, kind by kind. -/
namespace Go.Proofs.Ytekdppnlgkfcdaa
open Go.RowKit Go.Lib

/-- whether a kind was down at one of the stops -/
def dnK (l : List Dv) (kd : Int) (ss : List St) : Bool := ss.any fun s => downB l s.pt kd s.t
theorem dnK_snoc {l : List Dv} {kd : Int} {ss : List St} {k : Nat} {s : St} (h : ss[k]? = some s) : dnK l kd (ss.take (k + 1)) = (dnK l kd (ss.take k) || downB l s.pt kd s.t) := by
  unfold dnK; rw [take_snoc h]; simp
/-- the kinds that are done -/
def dnN (l : List Dv) (ss : List St) (n : Nat) : List Int := (([1, 2, 3] : List Int).take n).filter fun k => dnK l k ss
theorem dnN_yes {l : List Dv} {ss : List St} {n : Nat} (hn : n < 3) (h : dnK l ((n : Int) + 1) ss = true) : dnN l ss (n + 1) = dnN l ss n ++ [(n : Int) + 1] := by
  have : ([1, 2, 3] : List Int)[n]? = some ((n : Int) + 1) := by match n, hn with | 0, _ => rfl | 1, _ => rfl | 2, _ => rfl
  unfold dnN; rw [take_snoc this, List.filter_append]; simp [h]
theorem dnN_no {l : List Dv} {ss : List St} {n : Nat} (hn : n < 3) (h : dnK l ((n : Int) + 1) ss = false) : dnN l ss (n + 1) = dnN l ss n := by
  have : ([1, 2, 3] : List Int)[n]? = some ((n : Int) + 1) := by match n, hn with | 0, _ => rfl | 1, _ => rfl | 2, _ => rfl
  unfold dnN; rw [take_snoc this, List.filter_append]; simp [h]
theorem dnN_length (l : List Dv) (ss : List St) (n : Nat) : (dnN l ss n).length ≤ 3 := by
  unfold dnN
  refine Nat.le_trans (List.length_filter_le _ _) ?_
  simp; omega
/-- at how many stops a kind was down -/
def cntK (l : List Dv) (kd : Int) (ss : List St) : Int := ((ss.countP fun s => downB l s.pt kd s.t : Nat) : Int)
theorem cntK_snoc {l : List Dv} {kd : Int} {ss : List St} {k : Nat} {s : St} (h : ss[k]? = some s) : cntK l kd (ss.take (k + 1)) = if downB l s.pt kd s.t = true then cntK l kd (ss.take k) + 1 else cntK l kd (ss.take k) := by
  unfold cntK; rw [take_snoc h, List.countP_append]
  cases hq : downB l s.pt kd s.t <;> simp [hq]
theorem cntK_pos (l : List Dv) (kd : Int) (ss : List St) : decide (0 < cntK l kd ss) = dnK l kd ss := by
  unfold cntK dnK
  rw [Bool.eq_iff_iff, decide_eq_true_eq, List.any_eq_true, Int.natCast_pos, List.countP_pos_iff]
theorem cntK_bounds (l : List Dv) (kd : Int) (ss : List St) : 0 ≤ cntK l kd ss ∧ cntK l kd ss ≤ ss.length := by
  unfold cntK
  have := List.countP_le_length (p := fun s : St => downB l s.pt kd s.t) (l := ss)
  omega
/-- the counts when the first n kinds of stop k are done -/
def arrC (l : List Dv) (ss : List St) (k n : Nat) : Array Value := #[.int .i64 0, .int .i64 (cntK l 1 (ss.take (if 1 ≤ n then k + 1 else k))), .int .i64 (cntK l 2 (ss.take (if 2 ≤ n then k + 1 else k))), .int .i64 (cntK l 3 (ss.take (if 3 ≤ n then k + 1 else k)))]
theorem arrC_next (l : List Dv) (ss : List St) (k : Nat) : arrC l ss k 3 = arrC l ss (k + 1) 0 := by simp [arrC]
theorem arrC_zero (l : List Dv) (ss : List St) : arrC l ss 0 0 = #[.int .i64 0, .int .i64 0, .int .i64 0, .int .i64 0] := by simp [arrC, cntK]
theorem arrC_end (l : List Dv) (ss : List St) : arrC l ss ss.length 0 = #[.int .i64 0, .int .i64 (cntK l 1 ss), .int .i64 (cntK l 2 ss), .int .i64 (cntK l 3 ss)] := by simp [arrC]
theorem arrC_no {l : List Dv} {ss : List St} {k n : Nat} {s : St} (h : ss[k]? = some s) (hn : n < 3) (hd : downB l s.pt ((n : Int) + 1) s.t = false) : arrC l ss k n = arrC l ss k (n + 1) := by
  have e := cntK_snoc (l := l) (kd := (n : Int) + 1) h
  rw [if_neg (by rw [hd]; simp)] at e
  match n, hn with
  | 0, _ => simp [arrC] at e ⊢; exact e.symm
  | 1, _ => simp [arrC] at e ⊢; exact e.symm
  | 2, _ => simp [arrC] at e ⊢; exact e.symm
theorem arrC_yes {l : List Dv} {ss : List St} {k n : Nat} {s : St} (h : ss[k]? = some s) (hn : n < 3) (hd : downB l s.pt ((n : Int) + 1) s.t = true) : (arrC l ss k n).setIfInBounds (n + 1) (.int .i64 (cntK l ((n : Int) + 1) (ss.take k) + 1)) = arrC l ss k (n + 1) := by
  have e := cntK_snoc (l := l) (kd := (n : Int) + 1) h
  rw [if_pos hd] at e
  match n, hn with
  | 0, _ => simp [arrC] at e ⊢; exact e.symm
  | 1, _ => simp [arrC] at e ⊢; exact e.symm
  | 2, _ => simp [arrC] at e ⊢; exact e.symm
theorem dnN_all (l : List Dv) (ss : List St) : dnN l ss 3 = downL l ss := rfl
end Go.Proofs.Ytekdppnlgkfcdaa
