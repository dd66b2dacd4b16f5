/- Joined texts: RelMath, Ints, RelLn, RelClone, Shelf, MoneyLeaf, Money, SumAny, PrcEnc. -/
import Derived.Test.YtelchfijalkibaaGreatDoorJFirst
import Derived.Test.YtelchfijalkibaaGreatDoorSpanMath
import Derived.Test.YtelchfijalkibaaGreatDoorProg
import Derived.Test.YtelchfijalkibaaGreatDoorBase
import Derived.Outline
import Derived.Shelf.SlicesE.Clone
import Derived.Deep.RegionWith
import Derived.Deep.RegionHeld3
import Derived.Shelf.SlGeneric
import Derived.Shelf.SlicesG.Cmp
import Derived.Ground.SlgcProg
import Derived.Shelf.Bits.Mul64
import Derived.Ground.NamesProg
import Derived.Ground.SlgnProg
import Derived.Shelf.SlSortCmp.Insertion1
import Derived.Ground.SlsfProg
import Derived.Shelf.SlicesQ.IndexFunc
import Derived.Ground.SlgfProg
import Derived.Test.YtelchfijalkibaaGreatDoorJNetChk
/- Compensating rules in plain words: the error, the reduction. No program in sight. -/
namespace Go.Proofs.YtelchfijalkibaaGreatDoor

/-- a rule: its kind, its part -/
def badR (r : Iv) : Bool := !decide (0 ≤ r.1 ∧ r.1 ≤ 3 ∧ 0 ≤ r.2 ∧ r.2 ≤ 1000)
def relE (l : List Iv) (i : Nat) : Int := ((l[i]?).map fun r => if badR r then 1 else if (l.take i).any (fun y => y.1 == r.1) then 9 else 0).getD 0
def relsE (l : List Iv) : Int := if 12 < l.length then 3 else firstE (relE l) l.length
def hasK (l : List Iv) (j : Int) : Bool := l.any fun y => y.1 == j
/-- a kind of devices -/
def knK (k : Int) : Bool := decide (1 ≤ k ∧ k ≤ 3)
def dnB (ks : List Int) (j : Int) : Bool := ks.any fun k => knK k && (j == 0 || j == k)
def partF (ks : List Int) (n : Int) (r : Iv) : Int := if dnB ks r.1 = true then max n r.2 else n
def partL (ks : List Int) (l : List Iv) : Int := l.foldl (partF ks) 0
def partN (l : List Iv) (ks : List Int) : Int := if relsE l ≠ 0 then 0 else partL ks l
/-- a tenth of a tenth of a tenth, rounded up -/
def upN (n m : Int) : Int := (n * m + 999) / 1000
end Go.Proofs.YtelchfijalkibaaGreatDoor
/- Integers as elements of slices. -/
namespace Go.Proofs.YtelchfijalkibaaGreatDoor
open Go.RowKit Go.Lib

def encI (x : Int) : List Value := [.int .i64 x]
theorem encI_ok : Enc encI 1 := ⟨fun _ => rfl, fun x u hu => by simp [encI] at hu; subst hu; rfl⟩
theorem tyI : TyS Tryz.prog 33 3 1 8 := TyS.mk' (z := .int .i64 0) Tryz.underlying33 (by kernel_rfl) rfl (by omega)
theorem Rd.i {w : World} {B : Nat} {A : Option Addr} {l : List Int} (h : Rd encI 1 w B A l) {i : Nat} (hi : i < l.length) :
    ∃ b off x, A = some ⟨b, off, none⟩ ∧ b < B ∧ l[i]? = some x ∧ w.cell? ⟨b, off + i, none⟩ = some (.int .i64 x) := by
  obtain ⟨b, off, x, hA, hb, hx, hc⟩ := h.at_ hi
  exact ⟨b, off, x, hA, hb, hx, by simpa using hc 0 _ rfl⟩
end Go.Proofs.YtelchfijalkibaaGreatDoor
/- Lines and charges as values. -/
namespace Go.Proofs.YtelchfijalkibaaGreatDoor
open Go.RowKit Go.Lib

abbrev Ln := ByteArray × Int
def encLn (l : Ln) : List Value := [.string l.1, .int .i64 l.2]
theorem encLn_ok : Enc encLn 2 := ⟨fun _ => rfl, fun x u hu => by simp [encLn] at hu; rcases hu with rfl | rfl <;> rfl⟩
theorem Rd.ln {w : World} {B : Nat} {A : Option Addr} {l : List Ln} (h : Rd encLn 2 w B A l) {i : Nat} (hi : i < l.length) :
    ∃ b off s n, A = some ⟨b, off, none⟩ ∧ b < B ∧ l[i]? = some (s, n) ∧ w.cell? ⟨b, off + i * 2, none⟩ = some (.string s) ∧ w.cell? ⟨b, off + i * 2 + 1, none⟩ = some (.int .i64 n) := by
  obtain ⟨b, off, x, hA, hb, hx, hc⟩ := h.at_ hi
  exact ⟨b, off, x.1, x.2, hA, hb, hx, hc 0 _ rfl, hc 1 _ rfl⟩
theorem tyLn : TyS Tryz.prog 55 104 2 24 := TyS.mk' (z := .agg #[.string ⟨#[]⟩, .int .i64 0]) Tryz.underlying55 (by kernel_rfl) rfl (by omega)
/-- a charge's values -/
structure CV where
  key : ByteArray
  veh : ByteArray
  sys : ByteArray
  cls : Int
  tm : Int
  lns : List Ln
  ct : Int
def zeroC : CV := ⟨⟨#[]⟩, ⟨#[]⟩, ⟨#[]⟩, 0, 0, [], 0⟩
def CHV (c : CV) (A : Option Addr) (cap : Nat) : Value := .agg #[.string c.key, .string c.veh, .string c.sys, .int .i64 c.cls, .int .i64 c.tm, .slice A c.lns.length cap, .int .i64 c.ct]
/-- the word "outage" -/
abbrev outS : ByteArray := ⟨#[111, 117, 116, 97, 103, 101]⟩
/-- the error, the reduction, the reduced charge -/
def apE (rls : List Iv) (ct : Int) : Int := if relsE rls ≠ 0 then relsE rls else if 0 ≤ ct ∧ ct ≤ 1125899906842624 then 0 else 13
def lessN (rls : List Iv) (ks : List Int) (ct : Int) : Int := upN ct (partN rls ks)
def cutC (c : CV) (n : Int) : CV := if n = 0 then c else { c with lns := c.lns ++ [(outS, -n)], ct := c.ct - n }
def apC (rls : List Iv) (ks : List Int) (c : CV) : CV := if apE rls c.ct ≠ 0 then zeroC else cutC c (lessN rls ks c.ct)
/-- whether a rule has reduced a charge to 0 -/
def wvB (c : CV) : Bool := (c.ct == 0) && c.lns.any (fun l => eqS l.1 outS)
/-- the post of both Applies -/
def ApR (c : CV) (E : Int) (w : World) (e : Ending) (w' : World) : Prop := ∃ A cap, e = .returned (.tuple #[CHV c A cap, .int .i64 E]) ∧ Own 104 encLn 2 w' w.heap.size A cap c.lns ∧ Below w.heap.size w w'

end Go.Proofs.YtelchfijalkibaaGreatDoor
/- slices.Clone at lines. -/
namespace Go.Proofs.YtelchfijalkibaaGreatDoor
open Go.RowKit Go.Lib

end Go.Proofs.YtelchfijalkibaaGreatDoor
/-
  DERIVED: THE SHELF's CONTRACTS AT THIS DUMP, IN PLAIN WORDS (tools/lay-plain.mjs out of 'YtelchfijalkibaaGreatDoorShelf.lean', which tools/lay-shelf.mjs wrote): THE SAME DECLARATIONS UNDER THE SAME NAMES: 'import', 'namespace', 'open', 'def', 'theorem' AND NOTHING ELSE: no command of the shelf's: FOR A HAND-IN. Each laying: the table of numbers ('.._ren') and one theorem, a field a fact of the dump's own or the kernel's comparison; each contract: ONE APPLICATION.
-/
namespace Go.Proofs
open Go.Shelf
def Tryz.lay_cmpint_f32_ren : Go.Shelf.Ren := ⟨fun | 5 => 32 | 7 => 61 | n => n, fun | 22 => 3 | 3 => 3 | 4 => 4 | n => n, fun | n => n⟩
theorem Tryz.lay_cmpint_f32 : Go.Proofs.SlLaysC2.n5 Tryz.prog Tryz.lay_cmpint_f32_ren := {
  mixed := by kernel_rfl
  f5 := ⟨Tryz.f32.name, by decide, Tryz.func32.trans (congrArg some (by kernel_rfl))⟩
  f7 := ⟨Tryz.f61.name, by decide, Tryz.func61.trans (congrArg some (by kernel_rfl))⟩
  t3 := Tryz.underlying3
  a3 := Tryz.isAgg3
  z3 := Tryz.sizeOf3
  v3 := Tryz.zeroValue3
  t4 := Tryz.underlying4
  a4 := Tryz.isAgg4
  z4 := Tryz.sizeOf4
  v4 := Tryz.zeroValue4
  t22 := Tryz.underlying3
  a22 := Tryz.isAgg3
  z22 := Tryz.sizeOf3
  v22 := Tryz.zeroValue3 }
def Tryz.lay_mul64_f53_ren : Go.Shelf.Ren := ⟨fun | 264 => 53 | n => n, fun | 53 => 137 | 46 => 161 | n => n, fun | n => n⟩
theorem Tryz.lay_mul64_f53 : Go.Proofs.Lays.n264 Tryz.prog Tryz.lay_mul64_f53_ren := {
  mixed := by kernel_rfl
  f264 := Tryz.func53.trans (congrArg some (by kernel_rfl))
  t46 := Tryz.underlying161
  a46 := Tryz.isAgg161
  z46 := Tryz.sizeOf161
  v46 := Tryz.zeroValue161
  t53 := Tryz.underlying137
  a53 := Tryz.isAgg137
  z53 := Tryz.sizeOf137
  v53 := Tryz.zeroValue137 }
def Tryz.lay_clone_f73_ren : Go.Shelf.Ren := ⟨fun | 41 => 73 | n => n, fun | 22 => 74 | 23 => 152 | 4 => 4 | n => n, fun | n => n⟩
def Tryz.lay_clone_f74_ren : Go.Shelf.Ren := ⟨fun | 41 => 74 | n => n, fun | 22 => 75 | 23 => 80 | 4 => 4 | n => n, fun | n => n⟩
def Tryz.lay_ins_f89_ren : Go.Shelf.Ren := ⟨fun | 20 => 89 | n => n, fun | 24 => 3 | 22 => 33 | 3 => 3 | 25 => 111 | 4 => 4 | 0 => 0 | n => n, fun | n => n⟩
theorem Tryz.lay_ins_f89 : Go.Proofs.SlLaysF.n20 Tryz.prog Tryz.lay_ins_f89_ren := {
  mixed := by kernel_rfl
  f20 := ⟨Tryz.f89.name, by decide, Tryz.func89.trans (congrArg some (by kernel_rfl))⟩
  t0 := Tryz.underlying0
  a0 := Tryz.isAgg0
  z0 := Tryz.sizeOf0
  v0 := Tryz.zeroValue0
  t3 := Tryz.underlying3
  a3 := Tryz.isAgg3
  z3 := Tryz.sizeOf3
  v3 := Tryz.zeroValue3
  t4 := Tryz.underlying4
  a4 := Tryz.isAgg4
  z4 := Tryz.sizeOf4
  v4 := Tryz.zeroValue4
  t22 := Tryz.underlying33
  a22 := Tryz.isAgg33
  z22 := Tryz.sizeOf33
  v22 := Tryz.zeroValue33
  a24 := Tryz.isAgg3
  z24 := Tryz.sizeOf3
  t25 := Tryz.underlying111
  a25 := Tryz.isAgg111
  z25 := Tryz.sizeOf111
  v25 := Tryz.zeroValue111 }
def Tryz.lay_containsf_f93_ren : Go.Shelf.Ren := ⟨fun | 8 => 93 | 6 => 101 | n => n, fun | 22 => 157 | 23 => 73 | 25 => 150 | 4 => 4 | 3 => 3 | 0 => 0 | n => n, fun | n => n⟩
theorem Tryz.lay_containsf_f93 : Go.Proofs.SlLaysH0.n8 Tryz.prog Tryz.lay_containsf_f93_ren := {
  mixed := by kernel_rfl
  f6 := ⟨Tryz.f101.name, by decide, Tryz.func101.trans (congrArg some (by kernel_rfl))⟩
  f8 := ⟨Tryz.f93.name, by decide, Tryz.func93.trans (congrArg some (by kernel_rfl))⟩
  t0 := Tryz.underlying0
  a0 := Tryz.isAgg0
  z0 := Tryz.sizeOf0
  v0 := Tryz.zeroValue0
  t3 := Tryz.underlying3
  a3 := Tryz.isAgg3
  z3 := Tryz.sizeOf3
  v3 := Tryz.zeroValue3
  t4 := Tryz.underlying4
  a4 := Tryz.isAgg4
  z4 := Tryz.sizeOf4
  v4 := Tryz.zeroValue4
  t22 := Tryz.underlying157
  a22 := Tryz.isAgg157
  z22 := Tryz.sizeOf157
  v22 := Tryz.zeroValue157
  t25 := Tryz.underlying150
  a25 := Tryz.isAgg150
  z25 := Tryz.sizeOf150
  v25 := Tryz.zeroValue150 }
def Tryz.lay_containsf_f97_ren : Go.Shelf.Ren := ⟨fun | 8 => 97 | 6 => 102 | n => n, fun | 22 => 36 | 23 => 99 | 25 => 155 | 4 => 4 | 3 => 3 | 0 => 0 | n => n, fun | n => n⟩
theorem Tryz.lay_containsf_f97 : Go.Proofs.SlLaysH0.n8 Tryz.prog Tryz.lay_containsf_f97_ren := {
  mixed := by kernel_rfl
  f6 := ⟨Tryz.f102.name, by decide, Tryz.func102.trans (congrArg some (by kernel_rfl))⟩
  f8 := ⟨Tryz.f97.name, by decide, Tryz.func97.trans (congrArg some (by kernel_rfl))⟩
  t0 := Tryz.underlying0
  a0 := Tryz.isAgg0
  z0 := Tryz.sizeOf0
  v0 := Tryz.zeroValue0
  t3 := Tryz.underlying3
  a3 := Tryz.isAgg3
  z3 := Tryz.sizeOf3
  v3 := Tryz.zeroValue3
  t4 := Tryz.underlying4
  a4 := Tryz.isAgg4
  z4 := Tryz.sizeOf4
  v4 := Tryz.zeroValue4
  t22 := Tryz.underlying36
  a22 := Tryz.isAgg36
  z22 := Tryz.sizeOf36
  v22 := Tryz.zeroValue36
  t25 := Tryz.underlying155
  a25 := Tryz.isAgg155
  z25 := Tryz.sizeOf155
  v25 := Tryz.zeroValue155 }
def Tryz.lay_indexf_f101_ren : Go.Shelf.Ren := ⟨fun | 6 => 101 | n => n, fun | 22 => 157 | 23 => 73 | 25 => 150 | 3 => 3 | 0 => 0 | 4 => 4 | n => n, fun | n => n⟩
def Tryz.lay_indexf_f102_ren : Go.Shelf.Ren := ⟨fun | 6 => 102 | n => n, fun | 22 => 36 | 23 => 99 | 25 => 155 | 3 => 3 | 0 => 0 | 4 => 4 | n => n, fun | n => n⟩
end Go.Proofs
/- money: Fits, size, and bits.Mul64, walked. -/
namespace Go.Proofs.YtelchfijalkibaaGreatDoor
open Go.RowKit Go.Lib

def fitsB (n : Int) : Bool := decide (-1125899906842624 ≤ n ∧ n ≤ 1125899906842624)
theorem fits_any (n : Int) (w : World) : Calls Tryz.prog 51 #[.int .i64 n] w fun e w' => e = .returned (.bool (fitsB n)) ∧ w' = w := by
  unfold fitsB
  go_enter Tryz.func51, Tryz.ntmps51
  go_wp2
  all_goals (go_ret; exact ⟨ret_bool (by rw [Bool.eq_iff_iff]; simp; omega), rfl⟩)
theorem fits_yes {n : Int} (h : -1125899906842624 ≤ n ∧ n ≤ 1125899906842624) (w : World) : Calls Tryz.prog 51 #[.int .i64 n] w fun e w' => e = .returned (.bool true) ∧ w' = w := by
  have := fits_any n w
  rwa [show fitsB n = true by simp [fitsB, h]] at this
theorem size_int {x : Int} (h0 : 0 ≤ x) (h1 : x < 9223372036854775808) (w : World) : Calls Tryz.prog 52 #[.int .i64 x] w fun e w' => e = .returned (.int .u64 x) ∧ w' = w := by
  go_enter Tryz.func52, Tryz.ntmps52
  go_wp2
  all_goals (go_ret; exact ⟨rfl, rfl⟩)
theorem size_any {n : Nat} (h : n < 9223372036854775808) (w : World) : Calls Tryz.prog 52 #[.int .i64 n] w fun e w' => e = .returned (.int .u64 n) ∧ w' = w := size_int (x := (n : Int)) (by omega) (by omega) w
theorem mul_any {n m : Nat} (hn : n < 18446744073709551616) (hm : m < 18446744073709551616) (w : World) :
    Calls Tryz.prog 53 #[.int .u64 n, .int .u64 m] w fun e w' => e = .returned (.tuple #[.int .u64 ((n * m / 18446744073709551616 : Nat) : Int), .int .u64 ((n * m % 18446744073709551616 : Nat) : Int)]) ∧ w' = w :=
  Any.bits_Mul64 Tryz.lay_mul64_f53 n m hn hm w
end Go.Proofs.YtelchfijalkibaaGreatDoor
/- money: Fits, size, total, Add, Sum, Ratio over one, walked. -/
namespace Go.Proofs.YtelchfijalkibaaGreatDoor
open Go.RowKit Go.Lib

theorem sum_bounds : ∀ {l : List Int}, (∀ x ∈ l, -1125899906842624 ≤ x ∧ x ≤ 1125899906842624) → -(1125899906842624 * (l.length : Int)) ≤ l.sum ∧ l.sum ≤ 1125899906842624 * (l.length : Int)
  | [], _ => by simp
  | x :: l, h => by
    have a := h x (by simp)
    have b := sum_bounds (l := l) fun y hy => h y (by simp [hy])
    simp only [List.sum_cons, List.length_cons]
    omega
theorem Rd.two (w : World) (a b : Int) : Rd encI 1 (w.alloc (.cells #[.int .i64 a, .int .i64 b] 3)) (w.alloc (.cells #[.int .i64 a, .int .i64 b] 3)).heap.size (some ⟨w.heap.size, 0, none⟩) [a, b] := by
  intro _
  refine ⟨_, _, rfl, by simp, fun i x hi j u hu => ?_⟩
  match i, j with
  | 0, 0 => simp at hi; subst hi; simp [encI] at hu; subst hu; simp
  | 1, 0 => simp at hi; subst hi; simp [encI] at hu; subst hu; simp
  | i + 2, _ => simp at hi
  | 0, j + 1 => simp [encI] at hu
  | 1, j + 1 => simp [encI] at hu
end Go.Proofs.YtelchfijalkibaaGreatDoor
/- money.Sum and the reference's Sum of at most 1024 amounts of any size, walked. -/
namespace Go.Proofs.YtelchfijalkibaaGreatDoor
open Go.RowKit Go.Lib

def sumV (l : List Int) : Int := if l.all fitsB = true then (if fitsB l.sum = true then l.sum else 0) else 0
def sumE (l : List Int) : Int := if l.all fitsB = true then (if fitsB l.sum = true then 0 else 13) else 13
theorem fitsB_bnd {x : Int} (h : fitsB x = true) : -1125899906842624 ≤ x ∧ x ≤ 1125899906842624 := by unfold fitsB at h; exact of_decide_eq_true h
end Go.Proofs.YtelchfijalkibaaGreatDoor
/- Charges in memory: what is read of them, whose lines are whose. -/
set_option linter.unusedSimpArgs false
namespace Go.Proofs.YtelchfijalkibaaGreatDoor
open Go.RowKit Go.Lib

/-- a charge in memory: its values, where its lines lie -/
structure Cg where
  c : CV
  lA : Option Addr
  lc : Nat
instance : Inhabited Cg := ⟨⟨zeroC, none, 0⟩⟩
def encCg (x : Cg) : List Value := [.string x.c.key, .string x.c.veh, .string x.c.sys, .int .i64 x.c.cls, .int .i64 x.c.tm, .slice x.lA x.c.lns.length x.lc, .int .i64 x.c.ct]
theorem encCg_ok : Enc encCg 7 := ⟨fun _ => rfl, fun x u hu => by simp [encCg] at hu; rcases hu with rfl | rfl | rfl | rfl | rfl | rfl | rfl <;> rfl⟩
def CgV (x : Cg) : Value := CHV x.c x.lA x.lc
def cvs (l : List Cg) : List CV := l.map Cg.c
theorem cvs_len (l : List Cg) : (cvs l).length = l.length := by simp [cvs]
theorem cvs_at {l : List Cg} {i : Nat} {x : Cg} (h : l[i]? = some x) : (cvs l)[i]? = some x.c := by unfold cvs; rw [List.getElem?_map, h]; rfl
theorem Rd.cg {w : World} {B : Nat} {A : Option Addr} {l : List Cg} (h : Rd encCg 7 w B A l) {i : Nat} (hi : i < l.length) :
    ∃ b off x, A = some ⟨b, off, none⟩ ∧ b < B ∧ l[i]? = some x ∧ w.cell? ⟨b, off + i * 7, none⟩ = some (.string x.c.key) ∧ w.cell? ⟨b, off + i * 7 + 1, none⟩ = some (.string x.c.veh) ∧ w.cell? ⟨b, off + i * 7 + 2, none⟩ = some (.string x.c.sys) ∧ w.cell? ⟨b, off + i * 7 + 3, none⟩ = some (.int .i64 x.c.cls) ∧ w.cell? ⟨b, off + i * 7 + 4, none⟩ = some (.int .i64 x.c.tm) ∧ w.cell? ⟨b, off + i * 7 + 5, none⟩ = some (.slice x.lA x.c.lns.length x.lc) ∧ w.cell? ⟨b, off + i * 7 + 6, none⟩ = some (.int .i64 x.c.ct) := by
  obtain ⟨b, off, x, hA, hb, hx, hc⟩ := h.at_ hi
  exact ⟨b, off, x, hA, hb, hx, hc 0 _ rfl, hc 1 _ rfl, hc 2 _ rfl, hc 3 _ rfl, hc 4 _ rfl, hc 5 _ rfl, hc 6 _ rfl⟩
theorem tyCg : TyS Tryz.prog 50 57 7 96 := TyS.mk' (z := .agg #[.string ⟨#[]⟩, .string ⟨#[]⟩, .string ⟨#[]⟩, .int .i64 0, .int .i64 0, .slice none 0 0, .int .i64 0]) Tryz.underlying50 (by kernel_rfl) rfl (by omega)
/-- a charge whose lines can be read -/
def CgR (w : World) (x : Cg) : Prop := Rd encLn 2 w w.heap.size x.lA x.c.lns ∧ x.c.lns.length ≤ 1000
theorem CgR.st {w w' : World} {x : Cg} (h : CgR w x) (hb : Below w.heap.size w w') : CgR w' x := ⟨h.1.st hb, h.2⟩
def CgRs (w : World) (l : List Cg) : Prop := ∀ x ∈ l, CgR w x
theorem CgRs.st {w w' : World} {l : List Cg} (h : CgRs w l) (hb : Below w.heap.size w w') : CgRs w' l := fun x hx => (h x hx).st hb
/-- charges whose lines are the call's own -/
def LList (w : World) (base : Nat) (l : List Cg) : Prop := ∀ x ∈ l, Own 104 encLn 2 w base x.lA x.lc x.c.lns
theorem LList.nil (w : World) (base : Nat) : LList w base [] := by simp [LList]
theorem LList.st {w w' : World} {base : Nat} {l : List Cg} (h : LList w base l) (hb : Below w.heap.size w w') : LList w' base l := fun x hx => (h x hx).keep hb (Nat.le_refl _)
theorem LList.mono {w : World} {base base' : Nat} {l : List Cg} (h : LList w base l) (hb : base' ≤ base) : LList w base' l := fun x hx => (h x hx).mono hb
theorem LList.perm {w : World} {base : Nat} {l m : List Cg} (h : LList w base l) (hp : ∀ x ∈ m, x ∈ l) : LList w base m := fun x hx => h x (hp x hx)
theorem LList.snoc {w w' : World} {base : Nat} {l : List Cg} {x : Cg} (h : LList w base l) (hb : Below w.heap.size w w') (hx : Own 104 encLn 2 w' w.heap.size x.lA x.lc x.c.lns) (hbs : base ≤ w.heap.size) : LList w' base (l ++ [x]) := by
  intro y hy
  rcases List.mem_append.1 hy with q | q
  · exact (h.st hb) y q
  · rw [List.mem_singleton] at q; subst q; exact hx.mono hbs
/-- blocks that are no lines' stay -/
theorem LList.keepB {w w' : World} {base : Nat} {l : List Cg} (h : LList w base l) (hk : ∀ x ∈ l, ∀ g, x.lA = some ⟨g, 0, none⟩ → g < w.heap.size → w'.heap[g]? = w.heap[g]?) : LList w' base l := fun x hx => (h x hx).keepB (hk x hx)
theorem LList.rs {w : World} {base : Nat} {l : List Cg} (h : LList w base l) (hl : ∀ x ∈ l, x.c.lns.length ≤ 1000) : CgRs w l := fun x hx => ⟨(h x hx).rd encLn_ok, hl x hx⟩

/-! ### sums of lines -/
def sumL (l : List Ln) : Int := (l.map Prod.snd).sum
def Mst (l : List Ln) : Prop := ∀ y ∈ l, fitsB y.2 = true
theorem sumL_bnd {l : List Ln} (h : Mst l) : -(1125899906842624 * (l.length : Int)) ≤ sumL l ∧ sumL l ≤ 1125899906842624 * (l.length : Int) := by
  have := sum_bounds (l := l.map Prod.snd) (fun x hx => by obtain ⟨y, hy, rfl⟩ := List.mem_map.1 hx; exact fitsB_bnd (h y hy))
  rw [List.length_map] at this
  exact this
theorem sumL_snoc {l : List Ln} {k : Nat} {x : Ln} (hx : l[k]? = some x) : sumL (l.take (k + 1)) = sumL (l.take k) + x.2 := by
  unfold sumL; rw [take_snoc hx]; simp
theorem Mst.take {l : List Ln} (h : Mst l) (k : Nat) : Mst (l.take k) := fun y hy => h y (List.mem_of_mem_take hy)
def mstB (l : List Ln) : Bool := l.all fun y => fitsB y.2
/-- the error of a charge -/
def chkE (x : CV) : Int :=
  if x.key = ⟨#[]⟩ ∨ x.veh = ⟨#[]⟩ then 6 else if x.cls < 0 ∨ 9 < x.cls then 20 else if x.tm < 0 ∨ 68719476736 < x.tm then 12
  else if mstB x.lns = false then 13 else if x.ct < 0 ∨ 1125899906842624 < x.ct then 13 else if x.ct ≠ sumL x.lns then 8 else 0
end Go.Proofs.YtelchfijalkibaaGreatDoor
