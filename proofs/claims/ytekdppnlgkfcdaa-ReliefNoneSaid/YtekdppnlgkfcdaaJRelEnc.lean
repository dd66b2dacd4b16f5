/- Joined texts: RelEnc, RelMath, RelLn. -/
import Derived.Test.YtekdppnlgkfcdaaJHas
import Derived.Test.YtekdppnlgkfcdaaDevROut
import Derived.Test.YtekdppnlgkfcdaaJFirst
import Derived.Test.YtekdppnlgkfcdaaSpanMath
import Derived.Test.YtekdppnlgkfcdaaBlk
import Derived.Test.YtekdppnlgkfcdaaJStrEq
/- Stops, trips, configurations as values; when a kind was down, in plain words. -/
namespace Go.Proofs.Ytekdppnlgkfcdaa
open Go.RowKit Go.Lib

structure St where
  pt : ByteArray
  t : Int
  pg : ByteArray
instance : Inhabited St := ⟨⟨⟨#[]⟩, 0, ⟨#[]⟩⟩⟩
def encSt (s : St) : List Value := [.string s.pt, .int .i64 s.t, .string s.pg]
theorem encSt_ok : Enc encSt 3 := ⟨fun _ => rfl, fun x u hu => by simp [encSt] at hu; rcases hu with rfl | rfl | rfl <;> rfl⟩
theorem Rd.st3 {w : World} {B : Nat} {A : Option Addr} {l : List St} (h : Rd encSt 3 w B A l) {i : Nat} (hi : i < l.length) :
    ∃ b off d, A = some ⟨b, off, none⟩ ∧ b < B ∧ l[i]? = some d ∧ w.cell? ⟨b, off + i * 3, none⟩ = some (.string d.pt) ∧ w.cell? ⟨b, off + i * 3 + 1, none⟩ = some (.int .i64 d.t) ∧ w.cell? ⟨b, off + i * 3 + 2, none⟩ = some (.string d.pg) := by
  obtain ⟨b, off, d, hA, hb, hx, hc⟩ := h.at_ hi
  exact ⟨b, off, d, hA, hb, hx, hc 0 _ rfl, hc 1 _ rfl, hc 2 _ rfl⟩
/-- whether devices of a kind at a point were all down -/
def downB (l : List Dv) (pt : ByteArray) (kd t : Int) : Bool := !(l.filter (selB pt kd)).isEmpty && noneB (l.filter (selB pt kd)) t
theorem at_empty {pt : ByteArray} {kd : Int} {l r : List Dv} (h : AtOf pt kd l r) : (l.filter (selB pt kd)).isEmpty = decide (r.length = 0) := by
  have := h.perm.length_eq
  simp only [List.length_map] at this
  rw [Bool.eq_iff_iff, List.isEmpty_iff, decide_eq_true_eq, this]
  exact List.length_eq_zero_iff.symm
theorem NoneAt.ofR {pt : ByteArray} {kd : Int} {l r : List Dv} (h : AtOf pt kd l r) (t : Int) : NoneAt r t ↔ NoneAt (l.filter (selB pt kd)) t := by
  have hp := h.perm
  have e : ∀ d2 ∈ r, ∃ d ∈ l.filter (selB pt kd), d.ds = d2.ds := by
    intro d2 hd2
    have := hp.subset (List.mem_map_of_mem (f := vD) hd2)
    obtain ⟨d, hd, e⟩ := List.mem_map.1 this
    exact ⟨d, hd, congrArg (fun v : Val => v.2.2.2.2.2) e⟩
  have e2 : ∀ d ∈ l.filter (selB pt kd), ∃ d2 ∈ r, d2.ds = d.ds := by
    intro d hd
    have := hp.symm.subset (List.mem_map_of_mem (f := vD) hd)
    obtain ⟨d2, hd2, e⟩ := List.mem_map.1 this
    exact ⟨d2, hd2, congrArg (fun v : Val => v.2.2.2.2.2) e⟩
  unfold NoneAt
  refine and_congr_right fun _ => ⟨fun k d hd => ?_, fun k d hd => ?_⟩
  · obtain ⟨d2, hd2, q⟩ := e2 d hd
    rw [← q]; exact k d2 hd2
  · obtain ⟨d2, hd2, q⟩ := e d hd
    rw [← q]; exact k d2 hd2
theorem out_has {pt : ByteArray} {kd : Int} {l r : List Dv} {n : List Iv} (h : AtOf pt kd l r) (hm : ∀ t, Mem n t ↔ NoneAt r t) (t : Int) : hasB n t = noneB (l.filter (selB pt kd)) t := by
  rw [Bool.eq_iff_iff, hasB_iff, hm, NoneAt.ofR h, noneB_iff]
/-- the kinds that were down at one of the stops -/
def downL (l : List Dv) (ss : List St) : List Int := [1, 2, 3].filter fun k => ss.any fun s => downB l s.pt k s.t
end Go.Proofs.Ytekdppnlgkfcdaa
/- Compensating rules in plain words: the error, the reduction. No program in sight. -/
namespace Go.Proofs.Ytekdppnlgkfcdaa

/-- a rule: its kind, its part -/
def badR (r : Iv) : Bool := !decide (0 ≤ r.1 ∧ r.1 ≤ 3 ∧ 0 ≤ r.2 ∧ r.2 ≤ 1000)
theorem badR_no {r : Iv} (h : badR r = false) : 0 ≤ r.1 ∧ r.1 ≤ 3 ∧ 0 ≤ r.2 ∧ r.2 ≤ 1000 := by simpa [badR] using h
theorem badR_yes {r : Iv} (h : badR r = true) : ¬ (0 ≤ r.1 ∧ r.1 ≤ 3 ∧ 0 ≤ r.2 ∧ r.2 ≤ 1000) := by unfold badR at h; intro k; rw [decide_eq_true k] at h; cases h
def relE (l : List Iv) (i : Nat) : Int := ((l[i]?).map fun r => if badR r then 1 else if (l.take i).any (fun y => y.1 == r.1) then 9 else 0).getD 0
def relsE (l : List Iv) : Int := if 12 < l.length then 3 else firstE (relE l) l.length
theorem relE_at {l : List Iv} {i : Nat} {r : Iv} (h : l[i]? = some r) : relE l i = if badR r then 1 else if (l.take i).any (fun y => y.1 == r.1) then 9 else 0 := by unfold relE; rw [h]; rfl
/-- firstE is 0: all are -/
theorem firstE_zero {f : Nat → Int} {n : Nat} (h : firstE f n = 0) : ∀ j, j < n → f j = 0 := by
  intro j
  induction j using Nat.strongRecOn with
  | ind j ih =>
    intro hj
    by_cases hf : f j = 0
    · exact hf
    · have := firstE_some (fun m hm => ih m hm (by omega)) hj hf
      rw [h] at this
      exact absurd this.symm hf
theorem relsE_ok {l : List Iv} (h : relsE l = 0) : l.length ≤ 12 ∧ ∀ r ∈ l, 0 ≤ r.1 ∧ r.1 ≤ 3 ∧ 0 ≤ r.2 ∧ r.2 ≤ 1000 := by
  unfold relsE at h
  split at h
  · exact absurd h (by decide)
  · refine ⟨by omega, fun r hr => ?_⟩
    obtain ⟨i, hi, rfl⟩ := List.getElem_of_mem hr
    have h1 := firstE_zero h i hi
    rw [relE_at (List.getElem?_eq_getElem hi)] at h1
    split at h1
    · exact absurd h1 (by decide)
    · rename_i q
      exact badR_no (by simpa using q)
def hasK (l : List Iv) (j : Int) : Bool := l.any fun y => y.1 == j
theorem hasK_snoc (l : List Iv) (r : Iv) (j : Int) : hasK (l ++ [r]) j = (hasK l j || (r.1 == j)) := by simp [hasK]
theorem relE_1 {l : List Iv} {i : Nat} {r : Iv} (h : l[i]? = some r) (hb : badR r = true) : relE l i = 1 := by rw [relE_at h, if_pos hb]
theorem relE_9 {l : List Iv} {i : Nat} {r : Iv} (h : l[i]? = some r) (hb : badR r = false) (hk : hasK (l.take i) r.1 = true) : relE l i = 9 := by
  rw [relE_at h, if_neg (by rw [hb]; simp)]
  exact if_pos hk
theorem relE_0 {l : List Iv} {i : Nat} {r : Iv} (h : l[i]? = some r) (hb : badR r = false) (hk : hasK (l.take i) r.1 = false) : relE l i = 0 := by
  rw [relE_at h, if_neg (by rw [hb]; simp)]
  exact if_neg (by unfold hasK at hk; rw [hk]; simp)
/-- a kind of devices -/
def knK (k : Int) : Bool := decide (1 ≤ k ∧ k ≤ 3)
def dnB (ks : List Int) (j : Int) : Bool := ks.any fun k => knK k && (j == 0 || j == k)
theorem dnB_snoc (ks : List Int) (x j : Int) : dnB (ks ++ [x]) j = (dnB ks j || (knK x && (j == 0 || j == x))) := by simp [dnB]
def partF (ks : List Int) (n : Int) (r : Iv) : Int := if dnB ks r.1 = true then max n r.2 else n
def partL (ks : List Int) (l : List Iv) : Int := l.foldl (partF ks) 0
def partN (l : List Iv) (ks : List Int) : Int := if relsE l ≠ 0 then 0 else partL ks l
theorem partL_snoc (ks : List Int) (l : List Iv) (r : Iv) : partL ks (l ++ [r]) = partF ks (partL ks l) r := by simp [partL]
theorem partL_bounds (ks : List Int) : ∀ (l : List Iv) (n : Int), (∀ r ∈ l, 0 ≤ r.2 ∧ r.2 ≤ 1000) → 0 ≤ n ∧ n ≤ 1000 → n ≤ l.foldl (partF ks) n ∧ l.foldl (partF ks) n ≤ 1000
  | [], n, _, h => ⟨Int.le_refl _, h.2⟩
  | r :: l, n, h, hn => by
    rw [List.foldl_cons]
    have hr := h r (by simp)
    have hp : n ≤ partF ks n r ∧ partF ks n r ≤ 1000 := by
      unfold partF
      split <;> omega
    have := partL_bounds ks l (partF ks n r) (fun x hx => h x (by simp [hx])) (by omega)
    omega
theorem partN_bounds (l : List Iv) (ks : List Int) : 0 ≤ partN l ks ∧ partN l ks ≤ 1000 := by
  unfold partN
  split
  · omega
  · rename_i h
    have := partL_bounds ks l 0 (fun r hr => by have := (relsE_ok (by omega)).2 r hr; omega) (by omega)
    exact this
/-- a tenth of a tenth of a tenth, rounded up -/
def upN (n m : Int) : Int := (n * m + 999) / 1000
theorem upN_bounds {n m : Int} (h0 : 0 ≤ n) (h1 : 0 ≤ m) (h2 : m ≤ 1000) : 0 ≤ upN n m ∧ upN n m ≤ n := by
  unfold upN
  have a : 0 ≤ n * m := Int.mul_nonneg h0 h1
  have b : n * m ≤ n * 1000 := Int.mul_le_mul_of_nonneg_left h2 h0
  omega
end Go.Proofs.Ytekdppnlgkfcdaa
/- Lines and charges as values. -/
namespace Go.Proofs.Ytekdppnlgkfcdaa
open Go.RowKit Go.Lib

abbrev Ln := ByteArray × Int
def encLn (l : Ln) : List Value := [.string l.1, .int .i64 l.2]
theorem encLn_ok : Enc encLn 2 := ⟨fun _ => rfl, fun x u hu => by simp [encLn] at hu; rcases hu with rfl | rfl <;> rfl⟩
theorem Rd.ln {w : World} {B : Nat} {A : Option Addr} {l : List Ln} (h : Rd encLn 2 w B A l) {i : Nat} (hi : i < l.length) :
    ∃ b off s n, A = some ⟨b, off, none⟩ ∧ b < B ∧ l[i]? = some (s, n) ∧ w.cell? ⟨b, off + i * 2, none⟩ = some (.string s) ∧ w.cell? ⟨b, off + i * 2 + 1, none⟩ = some (.int .i64 n) := by
  obtain ⟨b, off, x, hA, hb, hx, hc⟩ := h.at_ hi
  exact ⟨b, off, x.1, x.2, hA, hb, hx, hc 0 _ rfl, hc 1 _ rfl⟩
theorem tyLn : TyS Try.prog 62 86 2 24 := TyS.mk' (z := .agg #[.string ⟨#[]⟩, .int .i64 0]) Try.underlying62 (by kernel_rfl) rfl (by omega)
/-- a charge's values -/
structure CV where
  key : ByteArray
  veh : ByteArray
  sys : ByteArray
  cls : Int
  tm : Int
  lns : List Ln
  ct : Int
def zeroC : CV := ⟨⟨#[]⟩, ⟨#[]⟩, ⟨#[]⟩, 0, 0, [], 0⟩
def CHV (c : CV) (A : Option Addr) (cap : Nat) : Value := .agg #[.string c.key, .string c.veh, .string c.sys, .int .i64 c.cls, .int .i64 c.tm, .slice A c.lns.length cap, .int .i64 c.ct]
/-- the word "outage" -/
abbrev outS : ByteArray := ⟨#[111, 117, 116, 97, 103, 101]⟩
/-- the error, the reduction, the reduced charge -/
def apE (rls : List Iv) (ct : Int) : Int := if relsE rls ≠ 0 then relsE rls else if 0 ≤ ct ∧ ct ≤ 1125899906842624 then 0 else 13
def lessN (rls : List Iv) (ks : List Int) (ct : Int) : Int := upN ct (partN rls ks)
def cutC (c : CV) (n : Int) : CV := if n = 0 then c else { c with lns := c.lns ++ [(outS, -n)], ct := c.ct - n }
def apC (rls : List Iv) (ks : List Int) (c : CV) : CV := if apE rls c.ct ≠ 0 then zeroC else cutC c (lessN rls ks c.ct)
/-- whether a rule has reduced a charge to 0 -/
def wvB (c : CV) : Bool := (c.ct == 0) && c.lns.any (fun l => eqS l.1 outS)
/-- the post of both Applies -/
def ApR (c : CV) (E : Int) (w : World) (e : Ending) (w' : World) : Prop := ∃ A cap, e = .returned (.tuple #[CHV c A cap, .int .i64 E]) ∧ Own 86 encLn 2 w' w.heap.size A cap c.lns ∧ Below w.heap.size w w'

end Go.Proofs.Ytekdppnlgkfcdaa
