/- Joined texts: RelMath, Ints, RelLn, RelClone, Shelf, MoneyLeaf. -/
import Derived.Test.YtcpfiiapfggmpaaGreatJFirst
import Derived.Test.YtcpfiiapfggmpaaGreatSpanMath
import Derived.Test.YtcpfiiapfggmpaaGreatProg
import Derived.Test.YtcpfiiapfggmpaaGreatBase
import Derived.Outline
import Derived.Test.YtcpfiiapfggmpaaGreatJStrEq
import Derived.Shelf.SlicesE.Clone
import Derived.Deep.RegionWith
import Derived.Deep.RegionHeld3
import Derived.Shelf.SlGeneric
import Derived.Ground.SlgnProg
import Derived.Shelf.SlicesG.Cmp
import Derived.Ground.SlgcProg
import Derived.Shelf.Small.Strs
import Derived.Ground.NamesProg
import Derived.Shelf.Bits.Mul64
import Derived.Shelf.SlicesQ.IndexFunc
import Derived.Ground.SlgfProg
import Derived.Shelf.SlSortCmp.PdqK
import Derived.Ground.SlsfProg
import Derived.Shelf.SlSortCmp.WholeK
import Derived.Shelf.SlSortCmp.NoneTotal
/- Compensating rules in plain words: the error, the reduction. No program in sight. -/
namespace Go.Proofs.YtcpfiiapfggmpaaGreat

/-- a rule: its kind, its part -/
def badR (r : Iv) : Bool := !decide (0 ≤ r.1 ∧ r.1 ≤ 3 ∧ 0 ≤ r.2 ∧ r.2 ≤ 1000)
theorem badR_no {r : Iv} (h : badR r = false) : 0 ≤ r.1 ∧ r.1 ≤ 3 ∧ 0 ≤ r.2 ∧ r.2 ≤ 1000 := by simpa [badR] using h
theorem badR_yes {r : Iv} (h : badR r = true) : ¬ (0 ≤ r.1 ∧ r.1 ≤ 3 ∧ 0 ≤ r.2 ∧ r.2 ≤ 1000) := by unfold badR at h; intro k; rw [decide_eq_true k] at h; cases h
def relE (l : List Iv) (i : Nat) : Int := ((l[i]?).map fun r => if badR r then 1 else if (l.take i).any (fun y => y.1 == r.1) then 9 else 0).getD 0
def relsE (l : List Iv) : Int := if 12 < l.length then 3 else firstE (relE l) l.length
theorem relE_at {l : List Iv} {i : Nat} {r : Iv} (h : l[i]? = some r) : relE l i = if badR r then 1 else if (l.take i).any (fun y => y.1 == r.1) then 9 else 0 := by unfold relE; rw [h]; rfl
/-- firstE is 0: all are -/
theorem firstE_zero {f : Nat → Int} {n : Nat} (h : firstE f n = 0) : ∀ j, j < n → f j = 0 := by
  intro j
  induction j using Nat.strongRecOn with
  | ind j ih =>
    intro hj
    by_cases hf : f j = 0
    · exact hf
    · have := firstE_some (fun m hm => ih m hm (by omega)) hj hf
      rw [h] at this
      exact absurd this.symm hf
theorem relsE_ok {l : List Iv} (h : relsE l = 0) : l.length ≤ 12 ∧ ∀ r ∈ l, 0 ≤ r.1 ∧ r.1 ≤ 3 ∧ 0 ≤ r.2 ∧ r.2 ≤ 1000 := by
  unfold relsE at h
  split at h
  · exact absurd h (by decide)
  · refine ⟨by omega, fun r hr => ?_⟩
    obtain ⟨i, hi, rfl⟩ := List.getElem_of_mem hr
    have h1 := firstE_zero h i hi
    rw [relE_at (List.getElem?_eq_getElem hi)] at h1
    split at h1
    · exact absurd h1 (by decide)
    · rename_i q
      exact badR_no (by simpa using q)
def hasK (l : List Iv) (j : Int) : Bool := l.any fun y => y.1 == j
theorem hasK_snoc (l : List Iv) (r : Iv) (j : Int) : hasK (l ++ [r]) j = (hasK l j || (r.1 == j)) := by simp [hasK]
theorem relE_1 {l : List Iv} {i : Nat} {r : Iv} (h : l[i]? = some r) (hb : badR r = true) : relE l i = 1 := by rw [relE_at h, if_pos hb]
theorem relE_9 {l : List Iv} {i : Nat} {r : Iv} (h : l[i]? = some r) (hb : badR r = false) (hk : hasK (l.take i) r.1 = true) : relE l i = 9 := by
  rw [relE_at h, if_neg (by rw [hb]; simp)]
  exact if_pos hk
theorem relE_0 {l : List Iv} {i : Nat} {r : Iv} (h : l[i]? = some r) (hb : badR r = false) (hk : hasK (l.take i) r.1 = false) : relE l i = 0 := by
  rw [relE_at h, if_neg (by rw [hb]; simp)]
  exact if_neg (by unfold hasK at hk; rw [hk]; simp)
/-- a kind of devices -/
def knK (k : Int) : Bool := decide (1 ≤ k ∧ k ≤ 3)
def dnB (ks : List Int) (j : Int) : Bool := ks.any fun k => knK k && (j == 0 || j == k)
theorem dnB_snoc (ks : List Int) (x j : Int) : dnB (ks ++ [x]) j = (dnB ks j || (knK x && (j == 0 || j == x))) := by simp [dnB]
def partF (ks : List Int) (n : Int) (r : Iv) : Int := if dnB ks r.1 = true then max n r.2 else n
def partL (ks : List Int) (l : List Iv) : Int := l.foldl (partF ks) 0
def partN (l : List Iv) (ks : List Int) : Int := if relsE l ≠ 0 then 0 else partL ks l
theorem partL_snoc (ks : List Int) (l : List Iv) (r : Iv) : partL ks (l ++ [r]) = partF ks (partL ks l) r := by simp [partL]
theorem partL_bounds (ks : List Int) : ∀ (l : List Iv) (n : Int), (∀ r ∈ l, 0 ≤ r.2 ∧ r.2 ≤ 1000) → 0 ≤ n ∧ n ≤ 1000 → n ≤ l.foldl (partF ks) n ∧ l.foldl (partF ks) n ≤ 1000
  | [], n, _, h => ⟨Int.le_refl _, h.2⟩
  | r :: l, n, h, hn => by
    rw [List.foldl_cons]
    have hr := h r (by simp)
    have hp : n ≤ partF ks n r ∧ partF ks n r ≤ 1000 := by
      unfold partF
      split <;> omega
    have := partL_bounds ks l (partF ks n r) (fun x hx => h x (by simp [hx])) (by omega)
    omega
theorem partN_bounds (l : List Iv) (ks : List Int) : 0 ≤ partN l ks ∧ partN l ks ≤ 1000 := by
  unfold partN
  split
  · omega
  · rename_i h
    have := partL_bounds ks l 0 (fun r hr => by have := (relsE_ok (by omega)).2 r hr; omega) (by omega)
    exact this
/-- a tenth of a tenth of a tenth, rounded up -/
def upN (n m : Int) : Int := (n * m + 999) / 1000
theorem upN_bounds {n m : Int} (h0 : 0 ≤ n) (h1 : 0 ≤ m) (h2 : m ≤ 1000) : 0 ≤ upN n m ∧ upN n m ≤ n := by
  unfold upN
  have a : 0 ≤ n * m := Int.mul_nonneg h0 h1
  have b : n * m ≤ n * 1000 := Int.mul_le_mul_of_nonneg_left h2 h0
  omega
end Go.Proofs.YtcpfiiapfggmpaaGreat
/- Integers as elements of slices. -/
namespace Go.Proofs.YtcpfiiapfggmpaaGreat
open Go.RowKit Go.Lib

def encI (x : Int) : List Value := [.int .i64 x]
theorem encI_ok : Enc encI 1 := ⟨fun _ => rfl, fun x u hu => by simp [encI] at hu; subst hu; rfl⟩
theorem tyI : TyS Tryz.prog 33 3 1 8 := TyS.mk' (z := .int .i64 0) Tryz.underlying33 (by kernel_rfl) rfl (by omega)
theorem Rd.i {w : World} {B : Nat} {A : Option Addr} {l : List Int} (h : Rd encI 1 w B A l) {i : Nat} (hi : i < l.length) :
    ∃ b off x, A = some ⟨b, off, none⟩ ∧ b < B ∧ l[i]? = some x ∧ w.cell? ⟨b, off + i, none⟩ = some (.int .i64 x) := by
  obtain ⟨b, off, x, hA, hb, hx, hc⟩ := h.at_ hi
  exact ⟨b, off, x, hA, hb, hx, by simpa using hc 0 _ rfl⟩
end Go.Proofs.YtcpfiiapfggmpaaGreat
/- Lines and charges as values. -/
namespace Go.Proofs.YtcpfiiapfggmpaaGreat
open Go.RowKit Go.Lib

abbrev Ln := ByteArray × Int
def encLn (l : Ln) : List Value := [.string l.1, .int .i64 l.2]
theorem encLn_ok : Enc encLn 2 := ⟨fun _ => rfl, fun x u hu => by simp [encLn] at hu; rcases hu with rfl | rfl <;> rfl⟩
theorem Rd.ln {w : World} {B : Nat} {A : Option Addr} {l : List Ln} (h : Rd encLn 2 w B A l) {i : Nat} (hi : i < l.length) :
    ∃ b off s n, A = some ⟨b, off, none⟩ ∧ b < B ∧ l[i]? = some (s, n) ∧ w.cell? ⟨b, off + i * 2, none⟩ = some (.string s) ∧ w.cell? ⟨b, off + i * 2 + 1, none⟩ = some (.int .i64 n) := by
  obtain ⟨b, off, x, hA, hb, hx, hc⟩ := h.at_ hi
  exact ⟨b, off, x.1, x.2, hA, hb, hx, hc 0 _ rfl, hc 1 _ rfl⟩
theorem tyLn : TyS Tryz.prog 64 123 2 24 := TyS.mk' (z := .agg #[.string ⟨#[]⟩, .int .i64 0]) Tryz.underlying64 (by kernel_rfl) rfl (by omega)
/-- a charge's values -/
structure CV where
  key : ByteArray
  veh : ByteArray
  sys : ByteArray
  cls : Int
  tm : Int
  lns : List Ln
  ct : Int
def zeroC : CV := ⟨⟨#[]⟩, ⟨#[]⟩, ⟨#[]⟩, 0, 0, [], 0⟩
def CHV (c : CV) (A : Option Addr) (cap : Nat) : Value := .agg #[.string c.key, .string c.veh, .string c.sys, .int .i64 c.cls, .int .i64 c.tm, .slice A c.lns.length cap, .int .i64 c.ct]
/-- the word "outage" -/
abbrev outS : ByteArray := ⟨#[111, 117, 116, 97, 103, 101]⟩
/-- the error, the reduction, the reduced charge -/
def apE (rls : List Iv) (ct : Int) : Int := if relsE rls ≠ 0 then relsE rls else if 0 ≤ ct ∧ ct ≤ 1125899906842624 then 0 else 13
def lessN (rls : List Iv) (ks : List Int) (ct : Int) : Int := upN ct (partN rls ks)
def cutC (c : CV) (n : Int) : CV := if n = 0 then c else { c with lns := c.lns ++ [(outS, -n)], ct := c.ct - n }
def apC (rls : List Iv) (ks : List Int) (c : CV) : CV := if apE rls c.ct ≠ 0 then zeroC else cutC c (lessN rls ks c.ct)
/-- whether a rule has reduced a charge to 0 -/
def wvB (c : CV) : Bool := (c.ct == 0) && c.lns.any (fun l => eqS l.1 outS)
/-- the post of both Applies -/
def ApR (c : CV) (E : Int) (w : World) (e : Ending) (w' : World) : Prop := ∃ A cap, e = .returned (.tuple #[CHV c A cap, .int .i64 E]) ∧ Own 123 encLn 2 w' w.heap.size A cap c.lns ∧ Below w.heap.size w w'

end Go.Proofs.YtcpfiiapfggmpaaGreat
/- slices.Clone at lines. -/
namespace Go.Proofs.YtcpfiiapfggmpaaGreat
open Go.RowKit Go.Lib

set_option maxRecDepth 100000 in
set_option maxHeartbeats 2000000 in
theorem cloneL_any {A : Option Addr} (c : Nat) {l : List Ln} {w : World} (h : Rd encLn 2 w w.heap.size A l) (hl : l.length ≤ 1000000) :
    Calls Tryz.prog 69 #[.slice A l.length c] w fun e w' => ∃ A' c', e = .returned (.slice A' l.length c') ∧ Own 123 encLn 2 w' w.heap.size A' c' l ∧ Below w.heap.size w w' := by
  have qn : ∀ (w : World) (a : Option Addr) (n c n' c' : Nat), (binOp .eql 64 (.slice a n c) (.slice none n' c')).run Tryz.prog w = .ok (.bool a.isNone) w := fun w a n c n' c' => Lib.run_eql_slice_nil w _ _ a n c n' c' Tryz.underlying64
  have H := Lib.hid h
  clear h
  cases A with
  | none =>
    have hl0 : l = [] := by
      rcases Classical.em (l = []) with q | q
      · exact q
      · obtain ⟨_, _, hA, _⟩ := H.out q
        cases hA
    subst hl0
    clear H hl
    go_enter Tryz.func69, Tryz.ntmps69
    go_wp2
    go_ret
    exact ⟨none, 0, rfl, Own.nil _ _, Below.refl _ _⟩
  | some a =>
    have hown := Own.lit (e := 123) (cs := #[]) w w.heap.size ([] : List Ln) (g := w.heap.size) encLn_ok rfl rfl (Nat.le_refl _) (by simp)
    have hb0 := (Below.refl w.heap.size w).al (.cells #[] 123)
    have hr := H.out.st hb0
    have hbs : w.heap.size ≤ (w.alloc (.cells #[] 123)).heap.size := by simp
    go_enter Tryz.func69, Tryz.ntmps69
    go_wp2_with (at_builtin; refine wpList_appS rfl (.tmp 5) (.tmp 6) tyLn encLn_ok rfl _ rfl (by first | rfl | simp) hown l rfl (by first | rfl | simp) hr (by first | omega | (simp; done) | (simp; omega)) (by first | omega | (simp; done) | (simp; omega)) hbs ?_; intro A4 c4 w4 hown4 hb4 hs4 hf4)
    go_ret
    exact ⟨A4, c4, by simp, by simpa using hown4, hb0.trans hb4⟩
end Go.Proofs.YtcpfiiapfggmpaaGreat
/-
  DERIVED: THE SHELF's CONTRACTS AT THIS DUMP, IN PLAIN WORDS (tools/lay-plain.mjs out of 'YtcpfiiapfggmpaaGreatShelf.lean', which tools/lay-shelf.mjs wrote): THE SAME DECLARATIONS UNDER THE SAME NAMES: 'import', 'namespace', 'open', 'def', 'theorem' AND NOTHING ELSE: no command of the shelf's: FOR A HAND-IN. Each laying: the table of numbers ('.._ren') and one theorem, a field a fact of the dump's own or the kernel's comparison; each contract: ONE APPLICATION.
-/
namespace Go.Proofs
open Go.Shelf
def Tryz.lay_clone_f69_ren : Go.Shelf.Ren := ⟨fun | 41 => 69 | n => n, fun | 22 => 64 | 23 => 123 | 4 => 4 | n => n, fun | n => n⟩
theorem Tryz.lay_clone_f69 : Go.Proofs.SlLaysE0.n41 Tryz.prog Tryz.lay_clone_f69_ren := {
  mixed := by kernel_rfl
  f41 := ⟨Tryz.f69.name, by decide, Tryz.func69.trans (congrArg some (by kernel_rfl))⟩
  t4 := Tryz.underlying4
  a4 := Tryz.isAgg4
  z4 := Tryz.sizeOf4
  v4 := Tryz.zeroValue4
  t22 := Tryz.underlying64
  a22 := Tryz.isAgg64
  z22 := Tryz.sizeOf64
  v22 := Tryz.zeroValue64 }
def Tryz.lay_cmpint_f73_ren : Go.Shelf.Ren := ⟨fun | 5 => 73 | 7 => 110 | n => n, fun | 22 => 3 | 3 => 3 | 4 => 4 | n => n, fun | n => n⟩
theorem Tryz.lay_cmpint_f73 : Go.Proofs.SlLaysC2.n5 Tryz.prog Tryz.lay_cmpint_f73_ren := {
  mixed := by kernel_rfl
  f5 := ⟨Tryz.f73.name, by decide, Tryz.func73.trans (congrArg some (by kernel_rfl))⟩
  f7 := ⟨Tryz.f110.name, by decide, Tryz.func110.trans (congrArg some (by kernel_rfl))⟩
  t3 := Tryz.underlying3
  a3 := Tryz.isAgg3
  z3 := Tryz.sizeOf3
  v3 := Tryz.zeroValue3
  t4 := Tryz.underlying4
  a4 := Tryz.isAgg4
  z4 := Tryz.sizeOf4
  v4 := Tryz.zeroValue4
  t22 := Tryz.underlying3
  a22 := Tryz.isAgg3
  z22 := Tryz.sizeOf3
  v22 := Tryz.zeroValue3 }
def Tryz.lay_scmp_f74_ren : Go.Shelf.Ren := ⟨fun | 106 => 74 | 213 => 111 | 265 => 149 | n => n, fun | 9 => 9 | 3 => 3 | n => n, fun | n => n⟩
theorem Tryz.lay_scmp_f74 : Go.Proofs.Lays.n106 Tryz.prog Tryz.lay_scmp_f74_ren := {
  mixed := by kernel_rfl
  f106 := Tryz.func74.trans (congrArg some (by kernel_rfl))
  f213 := Tryz.func111.trans (congrArg some (by kernel_rfl))
  f265 := Tryz.func149.trans (congrArg some (by kernel_rfl))
  t3 := Tryz.underlying3
  a3 := Tryz.isAgg3
  z3 := Tryz.sizeOf3
  v3 := Tryz.zeroValue3
  t9 := Tryz.underlying9
  a9 := Tryz.isAgg9
  z9 := Tryz.sizeOf9
  v9 := Tryz.zeroValue9 }
def Tryz.lay_clone_f77_ren : Go.Shelf.Ren := ⟨fun | 41 => 77 | n => n, fun | 22 => 101 | 23 => 166 | 4 => 4 | n => n, fun | n => n⟩
theorem Tryz.lay_clone_f77 : Go.Proofs.SlLaysE0.n41 Tryz.prog Tryz.lay_clone_f77_ren := {
  mixed := by kernel_rfl
  f41 := ⟨Tryz.f77.name, by decide, Tryz.func77.trans (congrArg some (by kernel_rfl))⟩
  t4 := Tryz.underlying4
  a4 := Tryz.isAgg4
  z4 := Tryz.sizeOf4
  v4 := Tryz.zeroValue4
  t22 := Tryz.underlying101
  a22 := Tryz.isAgg101
  z22 := Tryz.sizeOf101
  v22 := Tryz.zeroValue101 }
def Tryz.lay_clone_f78_ren : Go.Shelf.Ren := ⟨fun | 41 => 78 | n => n, fun | 22 => 102 | 23 => 107 | 4 => 4 | n => n, fun | n => n⟩
theorem Tryz.lay_clone_f78 : Go.Proofs.SlLaysE0.n41 Tryz.prog Tryz.lay_clone_f78_ren := {
  mixed := by kernel_rfl
  f41 := ⟨Tryz.f78.name, by decide, Tryz.func78.trans (congrArg some (by kernel_rfl))⟩
  t4 := Tryz.underlying4
  a4 := Tryz.isAgg4
  z4 := Tryz.sizeOf4
  v4 := Tryz.zeroValue4
  t22 := Tryz.underlying102
  a22 := Tryz.isAgg102
  z22 := Tryz.sizeOf102
  v22 := Tryz.zeroValue102 }
def Tryz.lay_mul64_f92_ren : Go.Shelf.Ren := ⟨fun | 264 => 92 | n => n, fun | 53 => 134 | 46 => 89 | n => n, fun | n => n⟩
theorem Tryz.lay_mul64_f92 : Go.Proofs.Lays.n264 Tryz.prog Tryz.lay_mul64_f92_ren := {
  mixed := by kernel_rfl
  f264 := Tryz.func92.trans (congrArg some (by kernel_rfl))
  t46 := Tryz.underlying89
  a46 := Tryz.isAgg89
  z46 := Tryz.sizeOf89
  v46 := Tryz.zeroValue89
  t53 := Tryz.underlying134
  a53 := Tryz.isAgg134
  z53 := Tryz.sizeOf134
  v53 := Tryz.zeroValue134 }
def Tryz.lay_containsf_f112_ren : Go.Shelf.Ren := ⟨fun | 8 => 112 | 6 => 150 | n => n, fun | 22 => 62 | 23 => 59 | 25 => 119 | 4 => 4 | 3 => 3 | 0 => 0 | n => n, fun | n => n⟩
theorem Tryz.lay_containsf_f112 : Go.Proofs.SlLaysH0.n8 Tryz.prog Tryz.lay_containsf_f112_ren := {
  mixed := by kernel_rfl
  f6 := ⟨Tryz.f150.name, by decide, Tryz.func150.trans (congrArg some (by kernel_rfl))⟩
  f8 := ⟨Tryz.f112.name, by decide, Tryz.func112.trans (congrArg some (by kernel_rfl))⟩
  t0 := Tryz.underlying0
  a0 := Tryz.isAgg0
  z0 := Tryz.sizeOf0
  v0 := Tryz.zeroValue0
  t3 := Tryz.underlying3
  a3 := Tryz.isAgg3
  z3 := Tryz.sizeOf3
  v3 := Tryz.zeroValue3
  t4 := Tryz.underlying4
  a4 := Tryz.isAgg4
  z4 := Tryz.sizeOf4
  v4 := Tryz.zeroValue4
  t22 := Tryz.underlying62
  a22 := Tryz.isAgg62
  z22 := Tryz.sizeOf62
  v22 := Tryz.zeroValue62
  t25 := Tryz.underlying119
  a25 := Tryz.isAgg119
  z25 := Tryz.sizeOf119
  v25 := Tryz.zeroValue119 }
def Tryz.lay_ins_f147_ren : Go.Shelf.Ren := ⟨fun | 20 => 147 | n => n, fun | 24 => 66 | 22 => 110 | 3 => 3 | 25 => 161 | 4 => 4 | 0 => 0 | n => n, fun | n => n⟩
theorem Tryz.lay_ins_f147 : Go.Proofs.SlLaysF0.n20 Tryz.prog Tryz.lay_ins_f147_ren := {
  mixed := by kernel_rfl
  f20 := ⟨Tryz.f147.name, by decide, Tryz.func147.trans (congrArg some (by kernel_rfl))⟩
  t0 := Tryz.underlying0
  a0 := Tryz.isAgg0
  z0 := Tryz.sizeOf0
  v0 := Tryz.zeroValue0
  t3 := Tryz.underlying3
  a3 := Tryz.isAgg3
  z3 := Tryz.sizeOf3
  v3 := Tryz.zeroValue3
  t4 := Tryz.underlying4
  a4 := Tryz.isAgg4
  z4 := Tryz.sizeOf4
  v4 := Tryz.zeroValue4
  t22 := Tryz.underlying110
  a22 := Tryz.isAgg110
  z22 := Tryz.sizeOf110
  v22 := Tryz.zeroValue110
  t25 := Tryz.underlying161
  a25 := Tryz.isAgg161
  z25 := Tryz.sizeOf161
  v25 := Tryz.zeroValue161 }
def Tryz.lay_indexf_f150_ren : Go.Shelf.Ren := ⟨fun | 6 => 150 | n => n, fun | 22 => 62 | 23 => 59 | 25 => 119 | 3 => 3 | 0 => 0 | 4 => 4 | n => n, fun | n => n⟩
theorem Tryz.lay_indexf_f150 : Go.Proofs.SlLaysH0.n6 Tryz.prog Tryz.lay_indexf_f150_ren := {
  mixed := by kernel_rfl
  f6 := ⟨Tryz.f150.name, by decide, Tryz.func150.trans (congrArg some (by kernel_rfl))⟩
  t0 := Tryz.underlying0
  a0 := Tryz.isAgg0
  z0 := Tryz.sizeOf0
  v0 := Tryz.zeroValue0
  t3 := Tryz.underlying3
  a3 := Tryz.isAgg3
  z3 := Tryz.sizeOf3
  v3 := Tryz.zeroValue3
  t4 := Tryz.underlying4
  a4 := Tryz.isAgg4
  z4 := Tryz.sizeOf4
  v4 := Tryz.zeroValue4
  t22 := Tryz.underlying62
  a22 := Tryz.isAgg62
  z22 := Tryz.sizeOf62
  v22 := Tryz.zeroValue62
  t25 := Tryz.underlying119
  a25 := Tryz.isAgg119
  z25 := Tryz.sizeOf119
  v25 := Tryz.zeroValue119 }
def Tryz.lay_containsf_f162_ren : Go.Shelf.Ren := ⟨fun | 8 => 162 | 6 => 171 | n => n, fun | 22 => 36 | 23 => 93 | 25 => 189 | 4 => 4 | 3 => 3 | 0 => 0 | n => n, fun | n => n⟩
theorem Tryz.lay_containsf_f162 : Go.Proofs.SlLaysH0.n8 Tryz.prog Tryz.lay_containsf_f162_ren := {
  mixed := by kernel_rfl
  f6 := ⟨Tryz.f171.name, by decide, Tryz.func171.trans (congrArg some (by kernel_rfl))⟩
  f8 := ⟨Tryz.f162.name, by decide, Tryz.func162.trans (congrArg some (by kernel_rfl))⟩
  t0 := Tryz.underlying0
  a0 := Tryz.isAgg0
  z0 := Tryz.sizeOf0
  v0 := Tryz.zeroValue0
  t3 := Tryz.underlying3
  a3 := Tryz.isAgg3
  z3 := Tryz.sizeOf3
  v3 := Tryz.zeroValue3
  t4 := Tryz.underlying4
  a4 := Tryz.isAgg4
  z4 := Tryz.sizeOf4
  v4 := Tryz.zeroValue4
  t22 := Tryz.underlying36
  a22 := Tryz.isAgg36
  z22 := Tryz.sizeOf36
  v22 := Tryz.zeroValue36
  t25 := Tryz.underlying189
  a25 := Tryz.isAgg189
  z25 := Tryz.sizeOf189
  v25 := Tryz.zeroValue189 }
def Tryz.lay_sort_f167_ren : Go.Shelf.Ren := ⟨fun | 6 => 167 | 15 => 174 | 14 => 173 | 28 => 183 | 29 => 161 | 20 => 175 | 21 => 176 | 22 => 177 | 23 => 178 | 24 => 179 | 25 => 180 | 26 => 181 | 27 => 182 | 46 => 184 | 47 => 185 | 48 => 186 | 49 => 187 | 50 => 188 | 57 => 189 | n => n, fun | 22 => 62 | 24 => 59 | 25 => 245 | 3 => 3 | 39 => 89 | 0 => 0 | 53 => 257 | 55 => 134 | 4 => 4 | 46 => 251 | 45 => 250 | 50 => 169 | 5 => 5 | 9 => 9 | 66 => 258 | 70 => 262 | 76 => 264 | 77 => 56 | n => n, fun | n => n⟩
theorem Tryz.lay_sort_f167 : Go.Proofs.SlLaysF0.n6 Tryz.prog Tryz.lay_sort_f167_ren := {
  mixed := by kernel_rfl
  f6 := ⟨Tryz.f167.name, by decide, Tryz.func167.trans (congrArg some (by kernel_rfl))⟩
  f14 := ⟨Tryz.f173.name, by decide, Tryz.func173.trans (congrArg some (by kernel_rfl))⟩
  f15 := Tryz.func174.trans (congrArg some (by kernel_rfl))
  f20 := ⟨Tryz.f175.name, by decide, Tryz.func175.trans (congrArg some (by kernel_rfl))⟩
  f21 := ⟨Tryz.f176.name, by decide, Tryz.func176.trans (congrArg some (by kernel_rfl))⟩
  f22 := ⟨Tryz.f177.name, by decide, Tryz.func177.trans (congrArg some (by kernel_rfl))⟩
  f23 := ⟨Tryz.f178.name, by decide, Tryz.func178.trans (congrArg some (by kernel_rfl))⟩
  f24 := ⟨Tryz.f179.name, by decide, Tryz.func179.trans (congrArg some (by kernel_rfl))⟩
  f25 := ⟨Tryz.f180.name, by decide, Tryz.func180.trans (congrArg some (by kernel_rfl))⟩
  f26 := ⟨Tryz.f181.name, by decide, Tryz.func181.trans (congrArg some (by kernel_rfl))⟩
  f27 := ⟨Tryz.f182.name, by decide, Tryz.func182.trans (congrArg some (by kernel_rfl))⟩
  f28 := Tryz.func183.trans (congrArg some (by kernel_rfl))
  f29 := Tryz.func161.trans (congrArg some (by kernel_rfl))
  f46 := ⟨Tryz.f184.name, by decide, Tryz.func184.trans (congrArg some (by kernel_rfl))⟩
  f47 := Tryz.func185.trans (congrArg some (by kernel_rfl))
  f48 := Tryz.func186.trans (congrArg some (by kernel_rfl))
  f49 := ⟨Tryz.f187.name, by decide, Tryz.func187.trans (congrArg some (by kernel_rfl))⟩
  f50 := ⟨Tryz.f188.name, by decide, Tryz.func188.trans (congrArg some (by kernel_rfl))⟩
  f57 := ⟨Tryz.f189.name, by decide, Tryz.func189.trans (congrArg some (by kernel_rfl))⟩
  t0 := Tryz.underlying0
  a0 := Tryz.isAgg0
  z0 := Tryz.sizeOf0
  v0 := Tryz.zeroValue0
  t3 := Tryz.underlying3
  a3 := Tryz.isAgg3
  z3 := Tryz.sizeOf3
  v3 := Tryz.zeroValue3
  t4 := Tryz.underlying4
  a4 := Tryz.isAgg4
  z4 := Tryz.sizeOf4
  v4 := Tryz.zeroValue4
  t5 := Tryz.underlying5
  a5 := Tryz.isAgg5
  z5 := Tryz.sizeOf5
  v5 := Tryz.zeroValue5
  t9 := Tryz.underlying9
  a9 := Tryz.isAgg9
  z9 := Tryz.sizeOf9
  v9 := Tryz.zeroValue9
  t22 := Tryz.underlying62
  a22 := Tryz.isAgg62
  z22 := Tryz.sizeOf62
  v22 := Tryz.zeroValue62
  t25 := Tryz.underlying245
  a25 := Tryz.isAgg245
  z25 := Tryz.sizeOf245
  v25 := Tryz.zeroValue245
  t39 := Tryz.underlying89
  a39 := Tryz.isAgg89
  z39 := Tryz.sizeOf89
  v39 := Tryz.zeroValue89
  t45 := Tryz.underlying250
  a45 := Tryz.isAgg250
  z45 := Tryz.sizeOf250
  v45 := Tryz.zeroValue250
  t46 := Tryz.underlying251
  a46 := Tryz.isAgg251
  z46 := Tryz.sizeOf251
  v46 := Tryz.zeroValue251
  t50 := Tryz.underlying169
  a50 := Tryz.isAgg169
  z50 := Tryz.sizeOf169
  v50 := Tryz.zeroValue169
  t53 := Tryz.underlying257
  a53 := Tryz.isAgg257
  z53 := Tryz.sizeOf257
  v53 := Tryz.zeroValue257
  t55 := Tryz.underlying134
  a55 := Tryz.isAgg134
  z55 := Tryz.sizeOf134
  v55 := Tryz.zeroValue134
  t66 := Tryz.underlying258
  a66 := Tryz.isAgg258
  z66 := Tryz.sizeOf258
  v66 := Tryz.zeroValue258
  t70 := Tryz.underlying262
  a70 := Tryz.isAgg262
  z70 := Tryz.sizeOf262
  v70 := Tryz.zeroValue262
  t76 := Tryz.underlying264
  a76 := Tryz.isAgg264
  z76 := Tryz.sizeOf264
  v76 := Tryz.zeroValue264
  t77 := Tryz.underlying56
  a77 := Tryz.isAgg56
  z77 := Tryz.sizeOf56
  v77 := Tryz.zeroValue56 }
def Tryz.lay_indexf_f171_ren : Go.Shelf.Ren := ⟨fun | 6 => 171 | n => n, fun | 22 => 36 | 23 => 93 | 25 => 189 | 3 => 3 | 0 => 0 | 4 => 4 | n => n, fun | n => n⟩
theorem Tryz.lay_indexf_f171 : Go.Proofs.SlLaysH0.n6 Tryz.prog Tryz.lay_indexf_f171_ren := {
  mixed := by kernel_rfl
  f6 := ⟨Tryz.f171.name, by decide, Tryz.func171.trans (congrArg some (by kernel_rfl))⟩
  t0 := Tryz.underlying0
  a0 := Tryz.isAgg0
  z0 := Tryz.sizeOf0
  v0 := Tryz.zeroValue0
  t3 := Tryz.underlying3
  a3 := Tryz.isAgg3
  z3 := Tryz.sizeOf3
  v3 := Tryz.zeroValue3
  t4 := Tryz.underlying4
  a4 := Tryz.isAgg4
  z4 := Tryz.sizeOf4
  v4 := Tryz.zeroValue4
  t22 := Tryz.underlying36
  a22 := Tryz.isAgg36
  z22 := Tryz.sizeOf36
  v22 := Tryz.zeroValue36
  t25 := Tryz.underlying189
  a25 := Tryz.isAgg189
  z25 := Tryz.sizeOf189
  v25 := Tryz.zeroValue189 }
def Tryz.lay_ins_f175_ren : Go.Shelf.Ren := ⟨fun | 20 => 175 | n => n, fun | 24 => 59 | 22 => 62 | 3 => 3 | 25 => 245 | 4 => 4 | 0 => 0 | n => n, fun | n => n⟩
theorem Tryz.lay_ins_f175 : Go.Proofs.SlLaysF0.n20 Tryz.prog Tryz.lay_ins_f175_ren := {
  mixed := by kernel_rfl
  f20 := ⟨Tryz.f175.name, by decide, Tryz.func175.trans (congrArg some (by kernel_rfl))⟩
  t0 := Tryz.underlying0
  a0 := Tryz.isAgg0
  z0 := Tryz.sizeOf0
  v0 := Tryz.zeroValue0
  t3 := Tryz.underlying3
  a3 := Tryz.isAgg3
  z3 := Tryz.sizeOf3
  v3 := Tryz.zeroValue3
  t4 := Tryz.underlying4
  a4 := Tryz.isAgg4
  z4 := Tryz.sizeOf4
  v4 := Tryz.zeroValue4
  t22 := Tryz.underlying62
  a22 := Tryz.isAgg62
  z22 := Tryz.sizeOf62
  v22 := Tryz.zeroValue62
  t25 := Tryz.underlying245
  a25 := Tryz.isAgg245
  z25 := Tryz.sizeOf245
  v25 := Tryz.zeroValue245 }
end Go.Proofs
/- money: Fits, size, and bits.Mul64, walked. -/
namespace Go.Proofs.YtcpfiiapfggmpaaGreat
open Go.RowKit Go.Lib

def fitsB (n : Int) : Bool := decide (-1125899906842624 ≤ n ∧ n ≤ 1125899906842624)
theorem fits_any (n : Int) (w : World) : Calls Tryz.prog 55 #[.int .i64 n] w fun e w' => e = .returned (.bool (fitsB n)) ∧ w' = w := by
  unfold fitsB
  go_enter Tryz.func55, Tryz.ntmps55
  go_wp2
  all_goals (go_ret; exact ⟨ret_bool (by rw [Bool.eq_iff_iff]; simp; omega), rfl⟩)
theorem fits_yes {n : Int} (h : -1125899906842624 ≤ n ∧ n ≤ 1125899906842624) (w : World) : Calls Tryz.prog 55 #[.int .i64 n] w fun e w' => e = .returned (.bool true) ∧ w' = w := by
  have := fits_any n w
  rwa [show fitsB n = true by simp [fitsB, h]] at this
theorem fits_no {n : Int} (h : ¬ (-1125899906842624 ≤ n ∧ n ≤ 1125899906842624)) (w : World) : Calls Tryz.prog 55 #[.int .i64 n] w fun e w' => e = .returned (.bool false) ∧ w' = w := by
  have := fits_any n w
  rwa [show fitsB n = false by unfold fitsB; rw [decide_eq_false_iff_not]; exact h] at this
theorem size_int {x : Int} (h0 : 0 ≤ x) (h1 : x < 9223372036854775808) (w : World) : Calls Tryz.prog 91 #[.int .i64 x] w fun e w' => e = .returned (.int .u64 x) ∧ w' = w := by
  go_enter Tryz.func91, Tryz.ntmps91
  go_wp2
  all_goals (go_ret; exact ⟨rfl, rfl⟩)
theorem size_any {n : Nat} (h : n < 9223372036854775808) (w : World) : Calls Tryz.prog 91 #[.int .i64 n] w fun e w' => e = .returned (.int .u64 n) ∧ w' = w := size_int (x := (n : Int)) (by omega) (by omega) w
theorem mul_any {n m : Nat} (hn : n < 18446744073709551616) (hm : m < 18446744073709551616) (w : World) :
    Calls Tryz.prog 92 #[.int .u64 n, .int .u64 m] w fun e w' => e = .returned (.tuple #[.int .u64 ((n * m / 18446744073709551616 : Nat) : Int), .int .u64 ((n * m % 18446744073709551616 : Nat) : Int)]) ∧ w' = w :=
  Any.bits_Mul64 Tryz.lay_mul64_f92 n m hn hm w
end Go.Proofs.YtcpfiiapfggmpaaGreat
