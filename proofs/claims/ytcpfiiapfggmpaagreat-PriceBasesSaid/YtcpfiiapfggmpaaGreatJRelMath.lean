/- Joined texts: RelMath, Ints, RelLn, RelClone. -/
import Derived.Test.YtcpfiiapfggmpaaGreatJFirst
import Derived.Test.YtcpfiiapfggmpaaGreatSpanMath
import Derived.Test.YtcpfiiapfggmpaaGreatProg
import Derived.Test.YtcpfiiapfggmpaaGreatBase
import Derived.Outline
import Derived.Test.YtcpfiiapfggmpaaGreatJStrEq
import Derived.Shelf.SlicesE.Clone
import Derived.Deep.RegionWith
import Derived.Deep.RegionHeld3
/- Compensating rules in plain words: the error, the reduction. No program in sight. -/
namespace Go.Proofs.YtcpfiiapfggmpaaGreat

/-- a rule: its kind, its part -/
def badR (r : Iv) : Bool := !decide (0 ≤ r.1 ∧ r.1 ≤ 3 ∧ 0 ≤ r.2 ∧ r.2 ≤ 1000)
theorem badR_no {r : Iv} (h : badR r = false) : 0 ≤ r.1 ∧ r.1 ≤ 3 ∧ 0 ≤ r.2 ∧ r.2 ≤ 1000 := by simpa [badR] using h
theorem badR_yes {r : Iv} (h : badR r = true) : ¬ (0 ≤ r.1 ∧ r.1 ≤ 3 ∧ 0 ≤ r.2 ∧ r.2 ≤ 1000) := by unfold badR at h; intro k; rw [decide_eq_true k] at h; cases h
def relE (l : List Iv) (i : Nat) : Int := ((l[i]?).map fun r => if badR r then 1 else if (l.take i).any (fun y => y.1 == r.1) then 9 else 0).getD 0
def relsE (l : List Iv) : Int := if 12 < l.length then 3 else firstE (relE l) l.length
theorem relE_at {l : List Iv} {i : Nat} {r : Iv} (h : l[i]? = some r) : relE l i = if badR r then 1 else if (l.take i).any (fun y => y.1 == r.1) then 9 else 0 := by unfold relE; rw [h]; rfl
/-- firstE is 0: all are -/
theorem firstE_zero {f : Nat → Int} {n : Nat} (h : firstE f n = 0) : ∀ j, j < n → f j = 0 := by
  intro j
  induction j using Nat.strongRecOn with
  | ind j ih =>
    intro hj
    by_cases hf : f j = 0
    · exact hf
    · have := firstE_some (fun m hm => ih m hm (by omega)) hj hf
      rw [h] at this
      exact absurd this.symm hf
theorem relsE_ok {l : List Iv} (h : relsE l = 0) : l.length ≤ 12 ∧ ∀ r ∈ l, 0 ≤ r.1 ∧ r.1 ≤ 3 ∧ 0 ≤ r.2 ∧ r.2 ≤ 1000 := by
  unfold relsE at h
  split at h
  · exact absurd h (by decide)
  · refine ⟨by omega, fun r hr => ?_⟩
    obtain ⟨i, hi, rfl⟩ := List.getElem_of_mem hr
    have h1 := firstE_zero h i hi
    rw [relE_at (List.getElem?_eq_getElem hi)] at h1
    split at h1
    · exact absurd h1 (by decide)
    · rename_i q
      exact badR_no (by simpa using q)
def hasK (l : List Iv) (j : Int) : Bool := l.any fun y => y.1 == j
theorem hasK_snoc (l : List Iv) (r : Iv) (j : Int) : hasK (l ++ [r]) j = (hasK l j || (r.1 == j)) := by simp [hasK]
theorem relE_1 {l : List Iv} {i : Nat} {r : Iv} (h : l[i]? = some r) (hb : badR r = true) : relE l i = 1 := by rw [relE_at h, if_pos hb]
theorem relE_9 {l : List Iv} {i : Nat} {r : Iv} (h : l[i]? = some r) (hb : badR r = false) (hk : hasK (l.take i) r.1 = true) : relE l i = 9 := by
  rw [relE_at h, if_neg (by rw [hb]; simp)]
  exact if_pos hk
theorem relE_0 {l : List Iv} {i : Nat} {r : Iv} (h : l[i]? = some r) (hb : badR r = false) (hk : hasK (l.take i) r.1 = false) : relE l i = 0 := by
  rw [relE_at h, if_neg (by rw [hb]; simp)]
  exact if_neg (by unfold hasK at hk; rw [hk]; simp)
/-- a kind of devices -/
def knK (k : Int) : Bool := decide (1 ≤ k ∧ k ≤ 3)
def dnB (ks : List Int) (j : Int) : Bool := ks.any fun k => knK k && (j == 0 || j == k)
theorem dnB_snoc (ks : List Int) (x j : Int) : dnB (ks ++ [x]) j = (dnB ks j || (knK x && (j == 0 || j == x))) := by simp [dnB]
def partF (ks : List Int) (n : Int) (r : Iv) : Int := if dnB ks r.1 = true then max n r.2 else n
def partL (ks : List Int) (l : List Iv) : Int := l.foldl (partF ks) 0
def partN (l : List Iv) (ks : List Int) : Int := if relsE l ≠ 0 then 0 else partL ks l
theorem partL_snoc (ks : List Int) (l : List Iv) (r : Iv) : partL ks (l ++ [r]) = partF ks (partL ks l) r := by simp [partL]
theorem partL_bounds (ks : List Int) : ∀ (l : List Iv) (n : Int), (∀ r ∈ l, 0 ≤ r.2 ∧ r.2 ≤ 1000) → 0 ≤ n ∧ n ≤ 1000 → n ≤ l.foldl (partF ks) n ∧ l.foldl (partF ks) n ≤ 1000
  | [], n, _, h => ⟨Int.le_refl _, h.2⟩
  | r :: l, n, h, hn => by
    rw [List.foldl_cons]
    have hr := h r (by simp)
    have hp : n ≤ partF ks n r ∧ partF ks n r ≤ 1000 := by
      unfold partF
      split <;> omega
    have := partL_bounds ks l (partF ks n r) (fun x hx => h x (by simp [hx])) (by omega)
    omega
theorem partN_bounds (l : List Iv) (ks : List Int) : 0 ≤ partN l ks ∧ partN l ks ≤ 1000 := by
  unfold partN
  split
  · omega
  · rename_i h
    have := partL_bounds ks l 0 (fun r hr => by have := (relsE_ok (by omega)).2 r hr; omega) (by omega)
    exact this
/-- a tenth of a tenth of a tenth, rounded up -/
def upN (n m : Int) : Int := (n * m + 999) / 1000
theorem upN_bounds {n m : Int} (h0 : 0 ≤ n) (h1 : 0 ≤ m) (h2 : m ≤ 1000) : 0 ≤ upN n m ∧ upN n m ≤ n := by
  unfold upN
  have a : 0 ≤ n * m := Int.mul_nonneg h0 h1
  have b : n * m ≤ n * 1000 := Int.mul_le_mul_of_nonneg_left h2 h0
  omega
end Go.Proofs.YtcpfiiapfggmpaaGreat
/- Integers as elements of slices. -/
namespace Go.Proofs.YtcpfiiapfggmpaaGreat
open Go.RowKit Go.Lib

def encI (x : Int) : List Value := [.int .i64 x]
theorem encI_ok : Enc encI 1 := ⟨fun _ => rfl, fun x u hu => by simp [encI] at hu; subst hu; rfl⟩
theorem tyI : TyS Tryz.prog 33 3 1 8 := TyS.mk' (z := .int .i64 0) Tryz.underlying33 (by kernel_rfl) rfl (by omega)
theorem Rd.i {w : World} {B : Nat} {A : Option Addr} {l : List Int} (h : Rd encI 1 w B A l) {i : Nat} (hi : i < l.length) :
    ∃ b off x, A = some ⟨b, off, none⟩ ∧ b < B ∧ l[i]? = some x ∧ w.cell? ⟨b, off + i, none⟩ = some (.int .i64 x) := by
  obtain ⟨b, off, x, hA, hb, hx, hc⟩ := h.at_ hi
  exact ⟨b, off, x, hA, hb, hx, by simpa using hc 0 _ rfl⟩
end Go.Proofs.YtcpfiiapfggmpaaGreat
/- Lines and charges as values. -/
namespace Go.Proofs.YtcpfiiapfggmpaaGreat
open Go.RowKit Go.Lib

abbrev Ln := ByteArray × Int
def encLn (l : Ln) : List Value := [.string l.1, .int .i64 l.2]
theorem encLn_ok : Enc encLn 2 := ⟨fun _ => rfl, fun x u hu => by simp [encLn] at hu; rcases hu with rfl | rfl <;> rfl⟩
theorem Rd.ln {w : World} {B : Nat} {A : Option Addr} {l : List Ln} (h : Rd encLn 2 w B A l) {i : Nat} (hi : i < l.length) :
    ∃ b off s n, A = some ⟨b, off, none⟩ ∧ b < B ∧ l[i]? = some (s, n) ∧ w.cell? ⟨b, off + i * 2, none⟩ = some (.string s) ∧ w.cell? ⟨b, off + i * 2 + 1, none⟩ = some (.int .i64 n) := by
  obtain ⟨b, off, x, hA, hb, hx, hc⟩ := h.at_ hi
  exact ⟨b, off, x.1, x.2, hA, hb, hx, hc 0 _ rfl, hc 1 _ rfl⟩
theorem tyLn : TyS Tryz.prog 64 123 2 24 := TyS.mk' (z := .agg #[.string ⟨#[]⟩, .int .i64 0]) Tryz.underlying64 (by kernel_rfl) rfl (by omega)
/-- a charge's values -/
structure CV where
  key : ByteArray
  veh : ByteArray
  sys : ByteArray
  cls : Int
  tm : Int
  lns : List Ln
  ct : Int
def zeroC : CV := ⟨⟨#[]⟩, ⟨#[]⟩, ⟨#[]⟩, 0, 0, [], 0⟩
def CHV (c : CV) (A : Option Addr) (cap : Nat) : Value := .agg #[.string c.key, .string c.veh, .string c.sys, .int .i64 c.cls, .int .i64 c.tm, .slice A c.lns.length cap, .int .i64 c.ct]
/-- the word "outage" -/
abbrev outS : ByteArray := ⟨#[111, 117, 116, 97, 103, 101]⟩
/-- the error, the reduction, the reduced charge -/
def apE (rls : List Iv) (ct : Int) : Int := if relsE rls ≠ 0 then relsE rls else if 0 ≤ ct ∧ ct ≤ 1125899906842624 then 0 else 13
def lessN (rls : List Iv) (ks : List Int) (ct : Int) : Int := upN ct (partN rls ks)
def cutC (c : CV) (n : Int) : CV := if n = 0 then c else { c with lns := c.lns ++ [(outS, -n)], ct := c.ct - n }
def apC (rls : List Iv) (ks : List Int) (c : CV) : CV := if apE rls c.ct ≠ 0 then zeroC else cutC c (lessN rls ks c.ct)
/-- whether a rule has reduced a charge to 0 -/
def wvB (c : CV) : Bool := (c.ct == 0) && c.lns.any (fun l => eqS l.1 outS)
/-- the post of both Applies -/
def ApR (c : CV) (E : Int) (w : World) (e : Ending) (w' : World) : Prop := ∃ A cap, e = .returned (.tuple #[CHV c A cap, .int .i64 E]) ∧ Own 123 encLn 2 w' w.heap.size A cap c.lns ∧ Below w.heap.size w w'

end Go.Proofs.YtcpfiiapfggmpaaGreat
/- slices.Clone at lines. -/
namespace Go.Proofs.YtcpfiiapfggmpaaGreat
open Go.RowKit Go.Lib

set_option maxRecDepth 100000 in
set_option maxHeartbeats 2000000 in
theorem cloneL_any {A : Option Addr} (c : Nat) {l : List Ln} {w : World} (h : Rd encLn 2 w w.heap.size A l) (hl : l.length ≤ 1000000) :
    Calls Tryz.prog 69 #[.slice A l.length c] w fun e w' => ∃ A' c', e = .returned (.slice A' l.length c') ∧ Own 123 encLn 2 w' w.heap.size A' c' l ∧ Below w.heap.size w w' := by
  have qn : ∀ (w : World) (a : Option Addr) (n c n' c' : Nat), (binOp .eql 64 (.slice a n c) (.slice none n' c')).run Tryz.prog w = .ok (.bool a.isNone) w := fun w a n c n' c' => Lib.run_eql_slice_nil w _ _ a n c n' c' Tryz.underlying64
  have H := Lib.hid h
  clear h
  cases A with
  | none =>
    have hl0 : l = [] := by
      rcases Classical.em (l = []) with q | q
      · exact q
      · obtain ⟨_, _, hA, _⟩ := H.out q
        cases hA
    subst hl0
    clear H hl
    go_enter Tryz.func69, Tryz.ntmps69
    go_wp2
    go_ret
    exact ⟨none, 0, rfl, Own.nil _ _, Below.refl _ _⟩
  | some a =>
    have hown := Own.lit (e := 123) (cs := #[]) w w.heap.size ([] : List Ln) (g := w.heap.size) encLn_ok rfl rfl (Nat.le_refl _) (by simp)
    have hb0 := (Below.refl w.heap.size w).al (.cells #[] 123)
    have hr := H.out.st hb0
    have hbs : w.heap.size ≤ (w.alloc (.cells #[] 123)).heap.size := by simp
    go_enter Tryz.func69, Tryz.ntmps69
    go_wp2_with (at_builtin; refine wpList_appS rfl (.tmp 5) (.tmp 6) tyLn encLn_ok rfl _ rfl (by first | rfl | simp) hown l rfl (by first | rfl | simp) hr (by first | omega | (simp; done) | (simp; omega)) (by first | omega | (simp; done) | (simp; omega)) hbs ?_; intro A4 c4 w4 hown4 hb4 hs4 hf4)
    go_ret
    exact ⟨A4, c4, by simp, by simpa using hown4, hb0.trans hb4⟩
end Go.Proofs.YtcpfiiapfggmpaaGreat
