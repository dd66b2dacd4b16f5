/- Joined texts: RelMath, Ints, RelLn, RelClone, Shelf, MoneyLeaf, Money. -/
import Derived.Test.YtcpfiiapfggmpaaGreatJSpanMath
import Derived.Test.YtcpfiiapfggmpaaGreatProg
import Derived.Test.YtcpfiiapfggmpaaGreatBase
import Derived.Outline
import Derived.Shelf.SlicesE.Clone
import Derived.Deep.RegionWith
import Derived.Deep.RegionHeld3
import Derived.Shelf.SlGeneric
import Derived.Ground.SlgnProg
import Derived.Shelf.SlicesG.Cmp
import Derived.Ground.SlgcProg
import Derived.Shelf.Small.Strs
import Derived.Ground.NamesProg
import Derived.Shelf.Bits.Mul64
import Derived.Shelf.SlicesQ.IndexFunc
import Derived.Ground.SlgfProg
import Derived.Shelf.SlSortCmp.PdqK
import Derived.Ground.SlsfProg
import Derived.Shelf.SlSortCmp.WholeK
import Derived.Shelf.SlSortCmp.NoneTotal
/- Compensating rules in plain words: the error, the reduction. No program in sight. -/
namespace Go.Proofs.YtcpfiiapfggmpaaGreat

/-- a rule: its kind, its part -/
def badR (r : Iv) : Bool := !decide (0 ≤ r.1 ∧ r.1 ≤ 3 ∧ 0 ≤ r.2 ∧ r.2 ≤ 1000)
def relE (l : List Iv) (i : Nat) : Int := ((l[i]?).map fun r => if badR r then 1 else if (l.take i).any (fun y => y.1 == r.1) then 9 else 0).getD 0
def relsE (l : List Iv) : Int := if 12 < l.length then 3 else firstE (relE l) l.length
def hasK (l : List Iv) (j : Int) : Bool := l.any fun y => y.1 == j
/-- a kind of devices -/
def knK (k : Int) : Bool := decide (1 ≤ k ∧ k ≤ 3)
def dnB (ks : List Int) (j : Int) : Bool := ks.any fun k => knK k && (j == 0 || j == k)
def partF (ks : List Int) (n : Int) (r : Iv) : Int := if dnB ks r.1 = true then max n r.2 else n
def partL (ks : List Int) (l : List Iv) : Int := l.foldl (partF ks) 0
def partN (l : List Iv) (ks : List Int) : Int := if relsE l ≠ 0 then 0 else partL ks l
/-- a tenth of a tenth of a tenth, rounded up -/
def upN (n m : Int) : Int := (n * m + 999) / 1000
end Go.Proofs.YtcpfiiapfggmpaaGreat
/- Integers as elements of slices. -/
namespace Go.Proofs.YtcpfiiapfggmpaaGreat
open Go.RowKit Go.Lib

def encI (x : Int) : List Value := [.int .i64 x]
theorem encI_ok : Enc encI 1 := ⟨fun _ => rfl, fun x u hu => by simp [encI] at hu; subst hu; rfl⟩
theorem tyI : TyS Tryz.prog 33 3 1 8 := TyS.mk' (z := .int .i64 0) Tryz.underlying33 (by kernel_rfl) rfl (by omega)
theorem Rd.i {w : World} {B : Nat} {A : Option Addr} {l : List Int} (h : Rd encI 1 w B A l) {i : Nat} (hi : i < l.length) :
    ∃ b off x, A = some ⟨b, off, none⟩ ∧ b < B ∧ l[i]? = some x ∧ w.cell? ⟨b, off + i, none⟩ = some (.int .i64 x) := by
  obtain ⟨b, off, x, hA, hb, hx, hc⟩ := h.at_ hi
  exact ⟨b, off, x, hA, hb, hx, by simpa using hc 0 _ rfl⟩
end Go.Proofs.YtcpfiiapfggmpaaGreat
/- Lines and charges as values. -/
namespace Go.Proofs.YtcpfiiapfggmpaaGreat
open Go.RowKit Go.Lib

abbrev Ln := ByteArray × Int
def encLn (l : Ln) : List Value := [.string l.1, .int .i64 l.2]
theorem encLn_ok : Enc encLn 2 := ⟨fun _ => rfl, fun x u hu => by simp [encLn] at hu; rcases hu with rfl | rfl <;> rfl⟩
theorem Rd.ln {w : World} {B : Nat} {A : Option Addr} {l : List Ln} (h : Rd encLn 2 w B A l) {i : Nat} (hi : i < l.length) :
    ∃ b off s n, A = some ⟨b, off, none⟩ ∧ b < B ∧ l[i]? = some (s, n) ∧ w.cell? ⟨b, off + i * 2, none⟩ = some (.string s) ∧ w.cell? ⟨b, off + i * 2 + 1, none⟩ = some (.int .i64 n) := by
  obtain ⟨b, off, x, hA, hb, hx, hc⟩ := h.at_ hi
  exact ⟨b, off, x.1, x.2, hA, hb, hx, hc 0 _ rfl, hc 1 _ rfl⟩
theorem tyLn : TyS Tryz.prog 64 123 2 24 := TyS.mk' (z := .agg #[.string ⟨#[]⟩, .int .i64 0]) Tryz.underlying64 (by kernel_rfl) rfl (by omega)
/-- a charge's values -/
structure CV where
  key : ByteArray
  veh : ByteArray
  sys : ByteArray
  cls : Int
  tm : Int
  lns : List Ln
  ct : Int
def zeroC : CV := ⟨⟨#[]⟩, ⟨#[]⟩, ⟨#[]⟩, 0, 0, [], 0⟩
def CHV (c : CV) (A : Option Addr) (cap : Nat) : Value := .agg #[.string c.key, .string c.veh, .string c.sys, .int .i64 c.cls, .int .i64 c.tm, .slice A c.lns.length cap, .int .i64 c.ct]
/-- the word "outage" -/
abbrev outS : ByteArray := ⟨#[111, 117, 116, 97, 103, 101]⟩
/-- the error, the reduction, the reduced charge -/
def apE (rls : List Iv) (ct : Int) : Int := if relsE rls ≠ 0 then relsE rls else if 0 ≤ ct ∧ ct ≤ 1125899906842624 then 0 else 13
def lessN (rls : List Iv) (ks : List Int) (ct : Int) : Int := upN ct (partN rls ks)
def cutC (c : CV) (n : Int) : CV := if n = 0 then c else { c with lns := c.lns ++ [(outS, -n)], ct := c.ct - n }
def apC (rls : List Iv) (ks : List Int) (c : CV) : CV := if apE rls c.ct ≠ 0 then zeroC else cutC c (lessN rls ks c.ct)
/-- whether a rule has reduced a charge to 0 -/
def wvB (c : CV) : Bool := (c.ct == 0) && c.lns.any (fun l => eqS l.1 outS)
/-- the post of both Applies -/
def ApR (c : CV) (E : Int) (w : World) (e : Ending) (w' : World) : Prop := ∃ A cap, e = .returned (.tuple #[CHV c A cap, .int .i64 E]) ∧ Own 123 encLn 2 w' w.heap.size A cap c.lns ∧ Below w.heap.size w w'

end Go.Proofs.YtcpfiiapfggmpaaGreat
/- slices.Clone at lines. -/
namespace Go.Proofs.YtcpfiiapfggmpaaGreat
open Go.RowKit Go.Lib

set_option maxRecDepth 100000 in
set_option maxHeartbeats 2000000 in
theorem cloneL_any {A : Option Addr} (c : Nat) {l : List Ln} {w : World} (h : Rd encLn 2 w w.heap.size A l) (hl : l.length ≤ 1000000) :
    Calls Tryz.prog 69 #[.slice A l.length c] w fun e w' => ∃ A' c', e = .returned (.slice A' l.length c') ∧ Own 123 encLn 2 w' w.heap.size A' c' l ∧ Below w.heap.size w w' := by
  have qn : ∀ (w : World) (a : Option Addr) (n c n' c' : Nat), (binOp .eql 64 (.slice a n c) (.slice none n' c')).run Tryz.prog w = .ok (.bool a.isNone) w := fun w a n c n' c' => Lib.run_eql_slice_nil w _ _ a n c n' c' Tryz.underlying64
  have H := Lib.hid h
  clear h
  cases A with
  | none =>
    have hl0 : l = [] := by
      rcases Classical.em (l = []) with q | q
      · exact q
      · obtain ⟨_, _, hA, _⟩ := H.out q
        cases hA
    subst hl0
    clear H hl
    go_enter Tryz.func69, Tryz.ntmps69
    go_wp2
    go_ret
    exact ⟨none, 0, rfl, Own.nil _ _, Below.refl _ _⟩
  | some a =>
    have hown := Own.lit (e := 123) (cs := #[]) w w.heap.size ([] : List Ln) (g := w.heap.size) encLn_ok rfl rfl (Nat.le_refl _) (by simp)
    have hb0 := (Below.refl w.heap.size w).al (.cells #[] 123)
    have hr := H.out.st hb0
    have hbs : w.heap.size ≤ (w.alloc (.cells #[] 123)).heap.size := by simp
    go_enter Tryz.func69, Tryz.ntmps69
    go_wp2_with (at_builtin; refine wpList_appS rfl (.tmp 5) (.tmp 6) tyLn encLn_ok rfl _ rfl (by first | rfl | simp) hown l rfl (by first | rfl | simp) hr (by first | omega | (simp; done) | (simp; omega)) (by first | omega | (simp; done) | (simp; omega)) hbs ?_; intro A4 c4 w4 hown4 hb4 hs4 hf4)
    go_ret
    exact ⟨A4, c4, by simp, by simpa using hown4, hb0.trans hb4⟩
end Go.Proofs.YtcpfiiapfggmpaaGreat
/-
  DERIVED: THE SHELF's CONTRACTS AT THIS DUMP, IN PLAIN WORDS (tools/lay-plain.mjs out of 'YtcpfiiapfggmpaaGreatShelf.lean', which tools/lay-shelf.mjs wrote): THE SAME DECLARATIONS UNDER THE SAME NAMES: 'import', 'namespace', 'open', 'def', 'theorem' AND NOTHING ELSE: no command of the shelf's: FOR A HAND-IN. Each laying: the table of numbers ('.._ren') and one theorem, a field a fact of the dump's own or the kernel's comparison; each contract: ONE APPLICATION.
-/
namespace Go.Proofs
open Go.Shelf
def Tryz.lay_clone_f69_ren : Go.Shelf.Ren := ⟨fun | 41 => 69 | n => n, fun | 22 => 64 | 23 => 123 | 4 => 4 | n => n, fun | n => n⟩
def Tryz.lay_cmpint_f73_ren : Go.Shelf.Ren := ⟨fun | 5 => 73 | 7 => 110 | n => n, fun | 22 => 3 | 3 => 3 | 4 => 4 | n => n, fun | n => n⟩
theorem Tryz.lay_cmpint_f73 : Go.Proofs.SlLaysC2.n5 Tryz.prog Tryz.lay_cmpint_f73_ren := {
  mixed := by kernel_rfl
  f5 := ⟨Tryz.f73.name, by decide, Tryz.func73.trans (congrArg some (by kernel_rfl))⟩
  f7 := ⟨Tryz.f110.name, by decide, Tryz.func110.trans (congrArg some (by kernel_rfl))⟩
  t3 := Tryz.underlying3
  a3 := Tryz.isAgg3
  z3 := Tryz.sizeOf3
  v3 := Tryz.zeroValue3
  t4 := Tryz.underlying4
  a4 := Tryz.isAgg4
  z4 := Tryz.sizeOf4
  v4 := Tryz.zeroValue4
  t22 := Tryz.underlying3
  a22 := Tryz.isAgg3
  z22 := Tryz.sizeOf3
  v22 := Tryz.zeroValue3 }
def Tryz.lay_scmp_f74_ren : Go.Shelf.Ren := ⟨fun | 106 => 74 | 213 => 111 | 265 => 149 | n => n, fun | 9 => 9 | 3 => 3 | n => n, fun | n => n⟩
theorem Tryz.lay_scmp_f74 : Go.Proofs.Lays.n106 Tryz.prog Tryz.lay_scmp_f74_ren := {
  mixed := by kernel_rfl
  f106 := Tryz.func74.trans (congrArg some (by kernel_rfl))
  f213 := Tryz.func111.trans (congrArg some (by kernel_rfl))
  f265 := Tryz.func149.trans (congrArg some (by kernel_rfl))
  t3 := Tryz.underlying3
  a3 := Tryz.isAgg3
  z3 := Tryz.sizeOf3
  v3 := Tryz.zeroValue3
  t9 := Tryz.underlying9
  a9 := Tryz.isAgg9
  z9 := Tryz.sizeOf9
  v9 := Tryz.zeroValue9 }
def Tryz.lay_clone_f77_ren : Go.Shelf.Ren := ⟨fun | 41 => 77 | n => n, fun | 22 => 101 | 23 => 166 | 4 => 4 | n => n, fun | n => n⟩
def Tryz.lay_clone_f78_ren : Go.Shelf.Ren := ⟨fun | 41 => 78 | n => n, fun | 22 => 102 | 23 => 107 | 4 => 4 | n => n, fun | n => n⟩
def Tryz.lay_mul64_f92_ren : Go.Shelf.Ren := ⟨fun | 264 => 92 | n => n, fun | 53 => 134 | 46 => 89 | n => n, fun | n => n⟩
theorem Tryz.lay_mul64_f92 : Go.Proofs.Lays.n264 Tryz.prog Tryz.lay_mul64_f92_ren := {
  mixed := by kernel_rfl
  f264 := Tryz.func92.trans (congrArg some (by kernel_rfl))
  t46 := Tryz.underlying89
  a46 := Tryz.isAgg89
  z46 := Tryz.sizeOf89
  v46 := Tryz.zeroValue89
  t53 := Tryz.underlying134
  a53 := Tryz.isAgg134
  z53 := Tryz.sizeOf134
  v53 := Tryz.zeroValue134 }
def Tryz.lay_containsf_f112_ren : Go.Shelf.Ren := ⟨fun | 8 => 112 | 6 => 150 | n => n, fun | 22 => 62 | 23 => 59 | 25 => 119 | 4 => 4 | 3 => 3 | 0 => 0 | n => n, fun | n => n⟩
theorem Tryz.lay_containsf_f112 : Go.Proofs.SlLaysH0.n8 Tryz.prog Tryz.lay_containsf_f112_ren := {
  mixed := by kernel_rfl
  f6 := ⟨Tryz.f150.name, by decide, Tryz.func150.trans (congrArg some (by kernel_rfl))⟩
  f8 := ⟨Tryz.f112.name, by decide, Tryz.func112.trans (congrArg some (by kernel_rfl))⟩
  t0 := Tryz.underlying0
  a0 := Tryz.isAgg0
  z0 := Tryz.sizeOf0
  v0 := Tryz.zeroValue0
  t3 := Tryz.underlying3
  a3 := Tryz.isAgg3
  z3 := Tryz.sizeOf3
  v3 := Tryz.zeroValue3
  t4 := Tryz.underlying4
  a4 := Tryz.isAgg4
  z4 := Tryz.sizeOf4
  v4 := Tryz.zeroValue4
  t22 := Tryz.underlying62
  a22 := Tryz.isAgg62
  z22 := Tryz.sizeOf62
  v22 := Tryz.zeroValue62
  t25 := Tryz.underlying119
  a25 := Tryz.isAgg119
  z25 := Tryz.sizeOf119
  v25 := Tryz.zeroValue119 }
def Tryz.lay_ins_f147_ren : Go.Shelf.Ren := ⟨fun | 20 => 147 | n => n, fun | 24 => 66 | 22 => 110 | 3 => 3 | 25 => 161 | 4 => 4 | 0 => 0 | n => n, fun | n => n⟩
theorem Tryz.lay_ins_f147 : Go.Proofs.SlLaysF0.n20 Tryz.prog Tryz.lay_ins_f147_ren := {
  mixed := by kernel_rfl
  f20 := ⟨Tryz.f147.name, by decide, Tryz.func147.trans (congrArg some (by kernel_rfl))⟩
  t0 := Tryz.underlying0
  a0 := Tryz.isAgg0
  z0 := Tryz.sizeOf0
  v0 := Tryz.zeroValue0
  t3 := Tryz.underlying3
  a3 := Tryz.isAgg3
  z3 := Tryz.sizeOf3
  v3 := Tryz.zeroValue3
  t4 := Tryz.underlying4
  a4 := Tryz.isAgg4
  z4 := Tryz.sizeOf4
  v4 := Tryz.zeroValue4
  t22 := Tryz.underlying110
  a22 := Tryz.isAgg110
  z22 := Tryz.sizeOf110
  v22 := Tryz.zeroValue110
  t25 := Tryz.underlying161
  a25 := Tryz.isAgg161
  z25 := Tryz.sizeOf161
  v25 := Tryz.zeroValue161 }
def Tryz.lay_indexf_f150_ren : Go.Shelf.Ren := ⟨fun | 6 => 150 | n => n, fun | 22 => 62 | 23 => 59 | 25 => 119 | 3 => 3 | 0 => 0 | 4 => 4 | n => n, fun | n => n⟩
def Tryz.lay_containsf_f162_ren : Go.Shelf.Ren := ⟨fun | 8 => 162 | 6 => 171 | n => n, fun | 22 => 36 | 23 => 93 | 25 => 189 | 4 => 4 | 3 => 3 | 0 => 0 | n => n, fun | n => n⟩
theorem Tryz.lay_containsf_f162 : Go.Proofs.SlLaysH0.n8 Tryz.prog Tryz.lay_containsf_f162_ren := {
  mixed := by kernel_rfl
  f6 := ⟨Tryz.f171.name, by decide, Tryz.func171.trans (congrArg some (by kernel_rfl))⟩
  f8 := ⟨Tryz.f162.name, by decide, Tryz.func162.trans (congrArg some (by kernel_rfl))⟩
  t0 := Tryz.underlying0
  a0 := Tryz.isAgg0
  z0 := Tryz.sizeOf0
  v0 := Tryz.zeroValue0
  t3 := Tryz.underlying3
  a3 := Tryz.isAgg3
  z3 := Tryz.sizeOf3
  v3 := Tryz.zeroValue3
  t4 := Tryz.underlying4
  a4 := Tryz.isAgg4
  z4 := Tryz.sizeOf4
  v4 := Tryz.zeroValue4
  t22 := Tryz.underlying36
  a22 := Tryz.isAgg36
  z22 := Tryz.sizeOf36
  v22 := Tryz.zeroValue36
  t25 := Tryz.underlying189
  a25 := Tryz.isAgg189
  z25 := Tryz.sizeOf189
  v25 := Tryz.zeroValue189 }
def Tryz.lay_sort_f167_ren : Go.Shelf.Ren := ⟨fun | 6 => 167 | 15 => 174 | 14 => 173 | 28 => 183 | 29 => 161 | 20 => 175 | 21 => 176 | 22 => 177 | 23 => 178 | 24 => 179 | 25 => 180 | 26 => 181 | 27 => 182 | 46 => 184 | 47 => 185 | 48 => 186 | 49 => 187 | 50 => 188 | 57 => 189 | n => n, fun | 22 => 62 | 24 => 59 | 25 => 245 | 3 => 3 | 39 => 89 | 0 => 0 | 53 => 257 | 55 => 134 | 4 => 4 | 46 => 251 | 45 => 250 | 50 => 169 | 5 => 5 | 9 => 9 | 66 => 258 | 70 => 262 | 76 => 264 | 77 => 56 | n => n, fun | n => n⟩
def Tryz.lay_indexf_f171_ren : Go.Shelf.Ren := ⟨fun | 6 => 171 | n => n, fun | 22 => 36 | 23 => 93 | 25 => 189 | 3 => 3 | 0 => 0 | 4 => 4 | n => n, fun | n => n⟩
def Tryz.lay_ins_f175_ren : Go.Shelf.Ren := ⟨fun | 20 => 175 | n => n, fun | 24 => 59 | 22 => 62 | 3 => 3 | 25 => 245 | 4 => 4 | 0 => 0 | n => n, fun | n => n⟩
end Go.Proofs
/- money: Fits, size, and bits.Mul64, walked. -/
namespace Go.Proofs.YtcpfiiapfggmpaaGreat
open Go.RowKit Go.Lib

def fitsB (n : Int) : Bool := decide (-1125899906842624 ≤ n ∧ n ≤ 1125899906842624)
theorem fits_any (n : Int) (w : World) : Calls Tryz.prog 55 #[.int .i64 n] w fun e w' => e = .returned (.bool (fitsB n)) ∧ w' = w := by
  unfold fitsB
  go_enter Tryz.func55, Tryz.ntmps55
  go_wp2
  all_goals (go_ret; exact ⟨ret_bool (by rw [Bool.eq_iff_iff]; simp; omega), rfl⟩)
theorem fits_yes {n : Int} (h : -1125899906842624 ≤ n ∧ n ≤ 1125899906842624) (w : World) : Calls Tryz.prog 55 #[.int .i64 n] w fun e w' => e = .returned (.bool true) ∧ w' = w := by
  have := fits_any n w
  rwa [show fitsB n = true by simp [fitsB, h]] at this
theorem size_int {x : Int} (h0 : 0 ≤ x) (h1 : x < 9223372036854775808) (w : World) : Calls Tryz.prog 91 #[.int .i64 x] w fun e w' => e = .returned (.int .u64 x) ∧ w' = w := by
  go_enter Tryz.func91, Tryz.ntmps91
  go_wp2
  all_goals (go_ret; exact ⟨rfl, rfl⟩)
theorem size_any {n : Nat} (h : n < 9223372036854775808) (w : World) : Calls Tryz.prog 91 #[.int .i64 n] w fun e w' => e = .returned (.int .u64 n) ∧ w' = w := size_int (x := (n : Int)) (by omega) (by omega) w
theorem mul_any {n m : Nat} (hn : n < 18446744073709551616) (hm : m < 18446744073709551616) (w : World) :
    Calls Tryz.prog 92 #[.int .u64 n, .int .u64 m] w fun e w' => e = .returned (.tuple #[.int .u64 ((n * m / 18446744073709551616 : Nat) : Int), .int .u64 ((n * m % 18446744073709551616 : Nat) : Int)]) ∧ w' = w :=
  Any.bits_Mul64 Tryz.lay_mul64_f92 n m hn hm w
end Go.Proofs.YtcpfiiapfggmpaaGreat
/- money: Fits, size, total, Add, Sum, Ratio over one, walked. -/
namespace Go.Proofs.YtcpfiiapfggmpaaGreat
open Go.RowKit Go.Lib

theorem sum_bounds : ∀ {l : List Int}, (∀ x ∈ l, -1125899906842624 ≤ x ∧ x ≤ 1125899906842624) → -(1125899906842624 * (l.length : Int)) ≤ l.sum ∧ l.sum ≤ 1125899906842624 * (l.length : Int)
  | [], _ => by simp
  | x :: l, h => by
    have a := h x (by simp)
    have b := sum_bounds (l := l) fun y hy => h y (by simp [hy])
    simp only [List.sum_cons, List.length_cons]
    omega
theorem total_any {A : Option Addr} (c : Nat) {l : List Int} {w : World} (h : Rd encI 1 w w.heap.size A l) (hl : l.length ≤ 1024) (hb : ∀ x ∈ l, -1125899906842624 ≤ x ∧ x ≤ 1125899906842624) :
    Calls Tryz.prog 86 #[.slice A l.length c] w fun e w' => e = .returned (.int .i64 l.sum) ∧ Below w.heap.size w w' := by
  have H := Lib.hid h
  have HB := Lib.hid hb
  clear h hb
  go_enter Tryz.func86, Tryz.ntmps86
  go_wp2
  go_loopw [3, 8] (fun v i wr => ∃ (k : Nat) (q : Int), k ≤ l.length ∧ i = .int .i64 k ∧ Hid ((l.take k).sum = q) ∧ v = .int .i64 q ∧ Below w.heap.size w wr) (fun _ i _ => l.length - (RowKit.intOf i).toNat)
  case atStart => exact ⟨0, 0, Nat.zero_le _, rfl, rfl, rfl, Below.refl _ _⟩
  case round =>
    obtain ⟨k, q, hk, rfl, HO, rfl, hbr⟩ := hrel
    have hq := sum_bounds (l := l.take k) fun x hx => HB.out x (List.mem_of_mem_take hx)
    rw [HO.out, List.length_take, Nat.min_eq_left hk] at hq
    obtain ⟨hq1, hq2⟩ := hq
    by_cases hlt : k < l.length
    · obtain ⟨b, off, x, rfl, hg, hx, hc0⟩ := (H.out.keep hbr).i hlt
      obtain ⟨hx1, hx2⟩ := HB.out x (List.mem_of_getElem? hx)
      have R := Lib.hid (show (l.take (k + 1)).sum = q + x by rw [List.take_add_one, hx, List.sum_append, HO.out]; simp)
      clear hx HO
      go_wp2
      go_roundw
      case rel => exact ⟨k + 1, _, by omega, by go_num, R, rfl, hbr⟩
      case measure => simp [RowKit.intOf]; omega
    · obtain rfl : k = l.length := by omega
      have R := Lib.hid (show l.sum = q by have := HO.out; rwa [List.take_length] at this)
      clear HO
      go_wp2
      go_ret
      exact ⟨ret_int R.out.symm, hbr⟩
theorem Rd.two (w : World) (a b : Int) : Rd encI 1 (w.alloc (.cells #[.int .i64 a, .int .i64 b] 3)) (w.alloc (.cells #[.int .i64 a, .int .i64 b] 3)).heap.size (some ⟨w.heap.size, 0, none⟩) [a, b] := by
  intro _
  refine ⟨_, _, rfl, by simp, fun i x hi j u hu => ?_⟩
  match i, j with
  | 0, 0 => simp at hi; subst hi; simp [encI] at hu; subst hu; simp
  | 1, 0 => simp at hi; subst hi; simp [encI] at hu; subst hu; simp
  | i + 2, _ => simp at hi
  | 0, j + 1 => simp [encI] at hu
  | 1, j + 1 => simp [encI] at hu
/-- the sum of at most 1024 amounts that fit -/
theorem sum_any {A : Option Addr} (c : Nat) {l : List Int} {w : World} (h : Rd encI 1 w w.heap.size A l) (hl : l.length ≤ 1024) (hb : ∀ x ∈ l, -1125899906842624 ≤ x ∧ x ≤ 1125899906842624) :
    Calls Tryz.prog 75 #[.slice A l.length c] w fun e w' =>
      e = .returned (.tuple #[.int .i64 (if fitsB l.sum = true then l.sum else 0), .int .i64 (if fitsB l.sum = true then 0 else 13)]) ∧ Below w.heap.size w w' := by
  have H := Lib.hid h
  have HB := Lib.hid hb
  have C1 := Lib.hid (fun (W : World) (hW : Below w.heap.size w W) => total_any c (h.st hW) hl hb)
  have C2 := Lib.hid (fun w => fits_any l.sum w)
  clear h hb
  have hl' : (l.length : Int) ≤ 1024 := by omega
  cases hf : fitsB l.sum
  all_goals (rw [hf] at C2)
  · rw [if_neg (by simp), if_neg (by simp)]
    clear hf
    go_enter Tryz.func75, Tryz.ntmps75
    go_wp2
    go_loopw [12] (fun i wr => ∃ (k : Nat), k ≤ l.length ∧ i = .int .i64 k ∧ Below w.heap.size w wr) (fun i _ => l.length - (RowKit.intOf i).toNat)
    case atStart => exact ⟨0, Nat.zero_le _, rfl, Below.refl _ _⟩
    case round =>
      obtain ⟨k, hk, rfl, hbr⟩ := hrel
      by_cases hlt : k < l.length
      · obtain ⟨b, off, x, rfl, hg, hx, hc0⟩ := (H.out.keep hbr).i hlt
        have C3 := Lib.hid (fun w => fits_yes (HB.out x (List.mem_of_getElem? hx)) w)
        clear hx
        go_wp2_with (go_at_call 55; with_reducible refine (C3.out _).mono ?_; rintro e w' ⟨rfl, rfl⟩)
        go_roundw
        case rel => exact ⟨k + 1, by omega, by go_num, hbr⟩
        case measure => simp [RowKit.intOf]; omega
      · obtain rfl : k = l.length := by omega
        have C1' := Lib.hid (C1.out _ hbr)
        clear H HB C1
        obtain ⟨s, hs⟩ : ∃ s, l.sum = s := ⟨_, rfl⟩
        rw [hs] at C1' C2
        go_wp2_with (first | (go_at_call 86; with_reducible refine (C1'.out).mono ?_; rintro e w1 ⟨rfl, hb1⟩) | (go_at_call 55; with_reducible refine (C2.out _).mono ?_; rintro e w' ⟨rfl, rfl⟩))
        all_goals (go_ret2; exact ⟨by first | rfl | (rw [hs]; rfl), hbr.trans (hb1.mono hbr.size)⟩)
  · rw [if_pos rfl, if_pos rfl]
    clear hf
    go_enter Tryz.func75, Tryz.ntmps75
    go_wp2
    go_loopw [12] (fun i wr => ∃ (k : Nat), k ≤ l.length ∧ i = .int .i64 k ∧ Below w.heap.size w wr) (fun i _ => l.length - (RowKit.intOf i).toNat)
    case atStart => exact ⟨0, Nat.zero_le _, rfl, Below.refl _ _⟩
    case round =>
      obtain ⟨k, hk, rfl, hbr⟩ := hrel
      by_cases hlt : k < l.length
      · obtain ⟨b, off, x, rfl, hg, hx, hc0⟩ := (H.out.keep hbr).i hlt
        have C3 := Lib.hid (fun w => fits_yes (HB.out x (List.mem_of_getElem? hx)) w)
        clear hx
        go_wp2_with (go_at_call 55; with_reducible refine (C3.out _).mono ?_; rintro e w' ⟨rfl, rfl⟩)
        go_roundw
        case rel => exact ⟨k + 1, by omega, by go_num, hbr⟩
        case measure => simp [RowKit.intOf]; omega
      · obtain rfl : k = l.length := by omega
        have C1' := Lib.hid (C1.out _ hbr)
        clear H HB C1
        obtain ⟨s, hs⟩ : ∃ s, l.sum = s := ⟨_, rfl⟩
        rw [hs] at C1' C2
        go_wp2_with (first | (go_at_call 86; with_reducible refine (C1'.out).mono ?_; rintro e w1 ⟨rfl, hb1⟩) | (go_at_call 55; with_reducible refine (C2.out _).mono ?_; rintro e w' ⟨rfl, rfl⟩))
        all_goals (go_ret2; exact ⟨by first | rfl | (rw [hs]; rfl), hbr.trans (hb1.mono hbr.size)⟩)
end Go.Proofs.YtcpfiiapfggmpaaGreat
