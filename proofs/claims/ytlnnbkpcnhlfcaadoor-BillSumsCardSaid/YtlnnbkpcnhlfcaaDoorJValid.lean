/- Joined texts: Valid, Shelf, Has, AccOwns. -/
import Derived.Test.YtlnnbkpcnhlfcaaDoorJInts
import Derived.IntWalk
import Derived.BigRegion
import Derived.Shelf.SlGeneric
import Derived.Shelf.SlSortCmp.Whole1
import Derived.Shelf.SlSortCmp.NoneTotal
import Derived.Ground.SlsfProg
import Derived.Shelf.SlicesG.Cmp
import Derived.Ground.SlgcProg
import Derived.Shelf.SlicesE.Clone
import Derived.Ground.SlgnProg
import Derived.Shelf.SlSortCmp.Insertion1
import Derived.Shelf.SlicesQ.IndexFunc
import Derived.Ground.SlgfProg
import Derived.Test.YtlnnbkpcnhlfcaaDoorProg
import Derived.Deep.RegionHeld3
import Derived.Deep.DrawnRows
import Derived.Test.YtlnnbkpcnhlfcaaDoorJBox
/- span.Valid, walked. -/
namespace Go.Proofs.YtlnnbkpcnhlfcaaDoor
open Go.RowKit Go.Lib

theorem valid_any (f t : Int) (w : World) :
    Calls Tryd.prog 44 #[.agg #[.int .i64 f, .int .i64 t]] w fun e w' => e = .returned (.bool (validB f t)) ∧ w.alloc (.cells #[.int .i64 f, .int .i64 t] 68) = w' := by
  unfold validB
  go_enter Tryd.func44, Tryd.ntmps44
  go_wp2
  all_goals (go_ret; exact ⟨ret_bool (by rw [Bool.eq_iff_iff]; simp; omega), rfl⟩)
end Go.Proofs.YtlnnbkpcnhlfcaaDoor
/-
  DERIVED: THE SHELF's CONTRACTS AT THIS DUMP, IN PLAIN WORDS (tools/lay-plain.mjs out of 'YtlnnbkpcnhlfcaaDoorShelf.lean', which tools/lay-shelf.mjs wrote): THE SAME DECLARATIONS UNDER THE SAME NAMES: 'import', 'namespace', 'open', 'def', 'theorem' AND NOTHING ELSE: no command of the shelf's: FOR A HAND-IN. Each laying: the table of numbers ('.._ren') and one theorem, a field a fact of the dump's own or the kernel's comparison; each contract: ONE APPLICATION.
-/
namespace Go.Proofs
open Go.Shelf
def Tryd.lay_sort_f50_ren : Go.Shelf.Ren := ⟨fun | 6 => 50 | 15 => 83 | 14 => 82 | 28 => 103 | 29 => 104 | 20 => 95 | 21 => 96 | 22 => 97 | 23 => 98 | 24 => 99 | 25 => 100 | 26 => 101 | 27 => 102 | 46 => 109 | 47 => 110 | 48 => 111 | 49 => 112 | 50 => 113 | 57 => 116 | n => n, fun | 22 => 51 | 24 => 3 | 25 => 116 | 3 => 3 | 39 => 141 | 0 => 0 | 53 => 158 | 55 => 160 | 4 => 4 | 46 => 151 | 45 => 150 | 50 => 155 | 5 => 5 | 9 => 9 | 66 => 162 | 70 => 166 | 76 => 169 | 77 => 71 | n => n, fun | n => n⟩
theorem Tryd.lay_sort_f50 : Go.Proofs.SlLaysF.n6 Tryd.prog Tryd.lay_sort_f50_ren := {
  mixed := by kernel_rfl
  f6 := ⟨Tryd.f50.name, by decide, Tryd.func50.trans (congrArg some (by kernel_rfl))⟩
  f14 := ⟨Tryd.f82.name, by decide, Tryd.func82.trans (congrArg some (by kernel_rfl))⟩
  f15 := Tryd.func83.trans (congrArg some (by kernel_rfl))
  f20 := ⟨Tryd.f95.name, by decide, Tryd.func95.trans (congrArg some (by kernel_rfl))⟩
  f21 := ⟨Tryd.f96.name, by decide, Tryd.func96.trans (congrArg some (by kernel_rfl))⟩
  f22 := ⟨Tryd.f97.name, by decide, Tryd.func97.trans (congrArg some (by kernel_rfl))⟩
  f23 := ⟨Tryd.f98.name, by decide, Tryd.func98.trans (congrArg some (by kernel_rfl))⟩
  f24 := ⟨Tryd.f99.name, by decide, Tryd.func99.trans (congrArg some (by kernel_rfl))⟩
  f25 := ⟨Tryd.f100.name, by decide, Tryd.func100.trans (congrArg some (by kernel_rfl))⟩
  f26 := ⟨Tryd.f101.name, by decide, Tryd.func101.trans (congrArg some (by kernel_rfl))⟩
  f27 := ⟨Tryd.f102.name, by decide, Tryd.func102.trans (congrArg some (by kernel_rfl))⟩
  f28 := Tryd.func103.trans (congrArg some (by kernel_rfl))
  f29 := Tryd.func104.trans (congrArg some (by kernel_rfl))
  f46 := ⟨Tryd.f109.name, by decide, Tryd.func109.trans (congrArg some (by kernel_rfl))⟩
  f47 := Tryd.func110.trans (congrArg some (by kernel_rfl))
  f48 := Tryd.func111.trans (congrArg some (by kernel_rfl))
  f49 := ⟨Tryd.f112.name, by decide, Tryd.func112.trans (congrArg some (by kernel_rfl))⟩
  f50 := ⟨Tryd.f113.name, by decide, Tryd.func113.trans (congrArg some (by kernel_rfl))⟩
  f57 := ⟨Tryd.f116.name, by decide, Tryd.func116.trans (congrArg some (by kernel_rfl))⟩
  t0 := Tryd.underlying0
  a0 := Tryd.isAgg0
  z0 := Tryd.sizeOf0
  v0 := Tryd.zeroValue0
  t3 := Tryd.underlying3
  a3 := Tryd.isAgg3
  z3 := Tryd.sizeOf3
  v3 := Tryd.zeroValue3
  t4 := Tryd.underlying4
  a4 := Tryd.isAgg4
  z4 := Tryd.sizeOf4
  v4 := Tryd.zeroValue4
  t5 := Tryd.underlying5
  a5 := Tryd.isAgg5
  z5 := Tryd.sizeOf5
  v5 := Tryd.zeroValue5
  t9 := Tryd.underlying9
  a9 := Tryd.isAgg9
  z9 := Tryd.sizeOf9
  v9 := Tryd.zeroValue9
  t22 := Tryd.underlying51
  a22 := Tryd.isAgg51
  z22 := Tryd.sizeOf51
  v22 := Tryd.zeroValue51
  a24 := Tryd.isAgg3
  z24 := Tryd.sizeOf3
  t25 := Tryd.underlying116
  a25 := Tryd.isAgg116
  z25 := Tryd.sizeOf116
  v25 := Tryd.zeroValue116
  t39 := Tryd.underlying141
  a39 := Tryd.isAgg141
  z39 := Tryd.sizeOf141
  v39 := Tryd.zeroValue141
  t45 := Tryd.underlying150
  a45 := Tryd.isAgg150
  z45 := Tryd.sizeOf150
  v45 := Tryd.zeroValue150
  t46 := Tryd.underlying151
  a46 := Tryd.isAgg151
  z46 := Tryd.sizeOf151
  v46 := Tryd.zeroValue151
  t50 := Tryd.underlying155
  a50 := Tryd.isAgg155
  z50 := Tryd.sizeOf155
  v50 := Tryd.zeroValue155
  t53 := Tryd.underlying158
  a53 := Tryd.isAgg158
  z53 := Tryd.sizeOf158
  v53 := Tryd.zeroValue158
  t55 := Tryd.underlying160
  a55 := Tryd.isAgg160
  z55 := Tryd.sizeOf160
  v55 := Tryd.zeroValue160
  t66 := Tryd.underlying162
  a66 := Tryd.isAgg162
  z66 := Tryd.sizeOf162
  v66 := Tryd.zeroValue162
  t70 := Tryd.underlying166
  a70 := Tryd.isAgg166
  z70 := Tryd.sizeOf166
  v70 := Tryd.zeroValue166
  t76 := Tryd.underlying169
  a76 := Tryd.isAgg169
  z76 := Tryd.sizeOf169
  v76 := Tryd.zeroValue169
  t77 := Tryd.underlying71
  a77 := Tryd.isAgg71
  z77 := Tryd.sizeOf71
  v77 := Tryd.zeroValue71 }
def Tryd.lay_cmpint_f68_ren : Go.Shelf.Ren := ⟨fun | 5 => 68 | 7 => 88 | n => n, fun | 22 => 3 | 3 => 3 | 4 => 4 | n => n, fun | n => n⟩
theorem Tryd.lay_cmpint_f68 : Go.Proofs.SlLaysC2.n5 Tryd.prog Tryd.lay_cmpint_f68_ren := {
  mixed := by kernel_rfl
  f5 := ⟨Tryd.f68.name, by decide, Tryd.func68.trans (congrArg some (by kernel_rfl))⟩
  f7 := ⟨Tryd.f88.name, by decide, Tryd.func88.trans (congrArg some (by kernel_rfl))⟩
  t3 := Tryd.underlying3
  a3 := Tryd.isAgg3
  z3 := Tryd.sizeOf3
  v3 := Tryd.zeroValue3
  t4 := Tryd.underlying4
  a4 := Tryd.isAgg4
  z4 := Tryd.sizeOf4
  v4 := Tryd.zeroValue4
  t22 := Tryd.underlying3
  a22 := Tryd.isAgg3
  z22 := Tryd.sizeOf3
  v22 := Tryd.zeroValue3 }
def Tryd.lay_clone_f72_ren : Go.Shelf.Ren := ⟨fun | 41 => 72 | n => n, fun | 22 => 80 | 23 => 99 | 4 => 4 | n => n, fun | n => n⟩
theorem Tryd.lay_clone_f72 : Go.Proofs.SlLaysE0.n41 Tryd.prog Tryd.lay_clone_f72_ren := {
  mixed := by kernel_rfl
  f41 := ⟨Tryd.f72.name, by decide, Tryd.func72.trans (congrArg some (by kernel_rfl))⟩
  t4 := Tryd.underlying4
  a4 := Tryd.isAgg4
  z4 := Tryd.sizeOf4
  v4 := Tryd.zeroValue4
  t22 := Tryd.underlying80
  a22 := Tryd.isAgg80
  z22 := Tryd.sizeOf80
  v22 := Tryd.zeroValue80 }
def Tryd.lay_ins_f95_ren : Go.Shelf.Ren := ⟨fun | 20 => 95 | n => n, fun | 24 => 3 | 22 => 51 | 3 => 3 | 25 => 116 | 4 => 4 | 0 => 0 | n => n, fun | n => n⟩
theorem Tryd.lay_ins_f95 : Go.Proofs.SlLaysF.n20 Tryd.prog Tryd.lay_ins_f95_ren := {
  mixed := by kernel_rfl
  f20 := ⟨Tryd.f95.name, by decide, Tryd.func95.trans (congrArg some (by kernel_rfl))⟩
  t0 := Tryd.underlying0
  a0 := Tryd.isAgg0
  z0 := Tryd.sizeOf0
  v0 := Tryd.zeroValue0
  t3 := Tryd.underlying3
  a3 := Tryd.isAgg3
  z3 := Tryd.sizeOf3
  v3 := Tryd.zeroValue3
  t4 := Tryd.underlying4
  a4 := Tryd.isAgg4
  z4 := Tryd.sizeOf4
  v4 := Tryd.zeroValue4
  t22 := Tryd.underlying51
  a22 := Tryd.isAgg51
  z22 := Tryd.sizeOf51
  v22 := Tryd.zeroValue51
  a24 := Tryd.isAgg3
  z24 := Tryd.sizeOf3
  t25 := Tryd.underlying116
  a25 := Tryd.isAgg116
  z25 := Tryd.sizeOf116
  v25 := Tryd.zeroValue116 }
def Tryd.lay_containsf_f105_ren : Go.Shelf.Ren := ⟨fun | 8 => 105 | 6 => 114 | n => n, fun | 22 => 143 | 23 => 68 | 25 => 112 | 4 => 4 | 3 => 3 | 0 => 0 | n => n, fun | n => n⟩
theorem Tryd.lay_containsf_f105 : Go.Proofs.SlLaysH0.n8 Tryd.prog Tryd.lay_containsf_f105_ren := {
  mixed := by kernel_rfl
  f6 := ⟨Tryd.f114.name, by decide, Tryd.func114.trans (congrArg some (by kernel_rfl))⟩
  f8 := ⟨Tryd.f105.name, by decide, Tryd.func105.trans (congrArg some (by kernel_rfl))⟩
  t0 := Tryd.underlying0
  a0 := Tryd.isAgg0
  z0 := Tryd.sizeOf0
  v0 := Tryd.zeroValue0
  t3 := Tryd.underlying3
  a3 := Tryd.isAgg3
  z3 := Tryd.sizeOf3
  v3 := Tryd.zeroValue3
  t4 := Tryd.underlying4
  a4 := Tryd.isAgg4
  z4 := Tryd.sizeOf4
  v4 := Tryd.zeroValue4
  t22 := Tryd.underlying143
  a22 := Tryd.isAgg143
  z22 := Tryd.sizeOf143
  v22 := Tryd.zeroValue143
  t25 := Tryd.underlying112
  a25 := Tryd.isAgg112
  z25 := Tryd.sizeOf112
  v25 := Tryd.zeroValue112 }
def Tryd.lay_indexf_f114_ren : Go.Shelf.Ren := ⟨fun | 6 => 114 | n => n, fun | 22 => 143 | 23 => 68 | 25 => 112 | 3 => 3 | 0 => 0 | 4 => 4 | n => n, fun | n => n⟩
theorem Tryd.lay_indexf_f114 : Go.Proofs.SlLaysH0.n6 Tryd.prog Tryd.lay_indexf_f114_ren := {
  mixed := by kernel_rfl
  f6 := ⟨Tryd.f114.name, by decide, Tryd.func114.trans (congrArg some (by kernel_rfl))⟩
  t0 := Tryd.underlying0
  a0 := Tryd.isAgg0
  z0 := Tryd.sizeOf0
  v0 := Tryd.zeroValue0
  t3 := Tryd.underlying3
  a3 := Tryd.isAgg3
  z3 := Tryd.sizeOf3
  v3 := Tryd.zeroValue3
  t4 := Tryd.underlying4
  a4 := Tryd.isAgg4
  z4 := Tryd.sizeOf4
  v4 := Tryd.zeroValue4
  t22 := Tryd.underlying143
  a22 := Tryd.isAgg143
  z22 := Tryd.sizeOf143
  v22 := Tryd.zeroValue143
  t25 := Tryd.underlying112
  a25 := Tryd.isAgg112
  z25 := Tryd.sizeOf112
  v25 := Tryd.zeroValue112 }
end Go.Proofs
/- span.Has, walked. -/
namespace Go.Proofs.YtlnnbkpcnhlfcaaDoor
open Go.RowKit Go.Lib Go.Shelf

theorem contains_any (p : Iv → Bool) (g : Nat) (lb : Array Value) (eg : ∀ args w, (callFunc g args).run Tryd.prog w = .ok (.enter g args) w) {A : Option Addr} (c : Nat) {l : List Iv} {w : World}
    (hp : ∀ (W : World) (x : Iv), Below w.heap.size w W → Calls Tryd.prog g (#[.agg #[.int .i64 x.1, .int .i64 x.2]] ++ lb) W fun e w' => e = .returned (.bool (p x)) ∧ Below w.heap.size w w')
    (h : Rd encIv 2 w w.heap.size A l) (hl : l.length ≤ 100000000000) :
    Calls Tryd.prog 105 #[.slice A l.length c, .func (.func g) #[] lb] w fun e w' => e = .returned (.bool (l.any p)) ∧ Below w.heap.size w w' := by
  by_cases hne : l = []
  · subst hne
    clear h hp eg
    go_enter Tryd.func105, Tryd.ntmps105
    go_wp2_with go_in
    refine wp_loop_rounds 1 ?_
    rw [rounds_succ]
    go_wp2
    go_ret
    exact ⟨rfl, Below.refl _ _⟩
  · obtain ⟨b, off, rfl, hb, hc⟩ := h hne
    have hcon := AnyQ.slices_ContainsFunc Tryd.lay_containsf_f105 2 Tryd.isAgg68 Tryd.sizeOf68 encIv encIv_ok.1 p g lb eg b off l.length c l w (fun W x hW => hp W x hW) (Nat.le_refl _) (by omega) hb
      (fun j hj i v hi => hc j l[j]! (by rw [getElem!_pos l j hj]; exact List.getElem?_eq_getElem hj) i v hi)
    rw [List.take_length] at hcon
    exact hcon

theorem hasClosure_any (x : Iv) (t : Int) (b : Nat) (W : World) (hb : b < W.heap.size) (hc : W.cell? ⟨b, 0, none⟩ = some (.int .i64 t)) :
    Calls Tryd.prog 106 #[.agg #[.int .i64 x.1, .int .i64 x.2], .pointer (some ⟨b, 0, none⟩)] W fun e w' => e = .returned (.bool (validB x.1 x.2 && decide (x.1 ≤ t) && decide (t < x.2))) ∧ Below W.heap.size W w' := by
  obtain ⟨f, u⟩ := x
  have hbel := ((Below.refl W.heap.size W).al (.cells #[.int .i64 f, .int .i64 u] 68)).al (.cells #[.int .i64 f, .int .i64 u] 68)
  have hb2 : b < W.heap.size + 1 := by omega
  have hb3 : b ≠ W.heap.size := by omega
  have hb4 : b ≠ W.heap.size + 1 := by omega
  cases hv : validB f u
  · go_enter Tryd.func106, Tryd.ntmps106
    go_wp2_with (go_at_call 44; refine (valid_any _ _ _).mono ?_; rintro e w' ⟨rfl, rfl⟩)
    go_ret
    exact ⟨ret_bool (by simp), hbel⟩
  · by_cases h1 : f ≤ t
    · by_cases h2 : t < u
      · have R := Lib.hid (show (true && decide (f ≤ t) && decide (t < u)) = true by simp [h1, h2])
        go_enter Tryd.func106, Tryd.ntmps106
        go_wp2_with (go_at_call 44; refine (valid_any _ _ _).mono ?_; rintro e w' ⟨rfl, rfl⟩)
        go_ret
        exact ⟨ret_bool (by first | exact R.out.symm | (rw [R.out]; simp; omega)), hbel⟩
      · have R := Lib.hid (show (true && decide (f ≤ t) && decide (t < u)) = false by simp [h2])
        go_enter Tryd.func106, Tryd.ntmps106
        go_wp2_with (go_at_call 44; refine (valid_any _ _ _).mono ?_; rintro e w' ⟨rfl, rfl⟩)
        go_ret
        exact ⟨ret_bool (by first | exact R.out.symm | (rw [R.out]; simp; omega)), hbel⟩
    · have R := Lib.hid (show (true && decide (f ≤ t) && decide (t < u)) = false by simp [h1])
      go_enter Tryd.func106, Tryd.ntmps106
      go_wp2_with (go_at_call 44; refine (valid_any _ _ _).mono ?_; rintro e w' ⟨rfl, rfl⟩)
      go_ret
      exact ⟨ret_bool R.out.symm, hbel⟩

theorem has_any {A : Option Addr} (c : Nat) {l : List Iv} (t : Int) {w : World} (h : Rd encIv 2 w w.heap.size A l) (hl : l.length ≤ 100000000000) :
    Calls Tryd.prog 84 #[.slice A l.length c, .int .i64 t] w fun e w' => e = .returned (.bool (hasB l t)) ∧ Below w.heap.size w w' := by
  have eg : ∀ args w, (callFunc 106 args).run Tryd.prog w = .ok (.enter 106 args) w := enters_of Tryd.func106 (by kernel_rfl) rfl
  have hz : w.heap.size < (w.alloc (.cells #[.int .i64 t] 3)).heap.size := by simp
  have hb0 := (Below.refl w.heap.size w).al (.cells #[.int .i64 t] 3)
  have C := Lib.hid (contains_any (fun x => validB x.1 x.2 && decide (x.1 ≤ t) && decide (t < x.2)) 106 #[.pointer (some ⟨w.heap.size, 0, none⟩)] eg c (w := w.alloc (.cells #[.int .i64 t] 3))
    (fun W x hW => (hasClosure_any x t w.heap.size W (Nat.lt_of_lt_of_le hz hW.size) ((hW.cell (p := ⟨w.heap.size, 0, none⟩) hz).trans (by simp))).mono fun e w' ⟨he, hw'⟩ => ⟨he, hW.trans (hw'.mono hW.size)⟩)
    ((h.keep hb0).more (Nat.le_of_lt hz)) hl)
  clear h eg
  go_enter Tryd.func84, Tryd.ntmps84
  go_wp2_with fail
  refine C.out.mono ?_
  rintro e w' ⟨rfl, hb⟩
  go_wp2_with fail
  go_ret
  exact ⟨rfl, hb0.trans (hb.mono (Nat.le_of_lt hz))⟩
end Go.Proofs.YtlnnbkpcnhlfcaaDoor
/- account.owned and Owner, walked. -/
namespace Go.Proofs.YtlnnbkpcnhlfcaaDoor
open Go.RowKit Go.Lib

theorem hasB_one (f t s : Int) : hasB [(f, t)] s = (validB f t && decide (f ≤ s) && decide (s < t)) := by simp [hasB]
theorem owns_emp {v : ByteArray} (h : emp v = true) (t : Int) (o : Ow) : ownsB v t o = false := by unfold ownsB; rw [h]; simp
theorem owns_neither {v : ByteArray} {t : Int} {o : Ow} (h1 : eqS o.tag v = false) (h2 : eqS o.pl v = false) : ownsB v t o = false := by unfold ownsB; rw [h1, h2]; simp
theorem owns_one {v : ByteArray} {t : Int} {o : Ow} (h : emp v = false) (h1 : eqS o.tag v = true ∨ eqS o.pl v = true) : ownsB v t o = hasB [(o.f, o.t)] t := by
  rw [hasB_one]
  unfold ownsB
  rw [h]
  rcases h1 with h1 | h1 <;> rw [h1] <;> simp
/-- span.Has at one interval in a box of its own -/
theorem has1_any (f t s : Int) {g : Nat} {W : World} (hg : Blk W g #[.int .i64 f, .int .i64 t] 68) :
    Calls Tryd.prog 84 #[.slice (some ⟨g, 0, none⟩) 1 1, .int .i64 s] W fun e w' => e = .returned (.bool (hasB [(f, t)] s)) ∧ Below W.heap.size W w' := by
  refine has_any (l := [((f, t) : Iv)]) 1 s ?_ (by simp)
  intro _
  refine ⟨g, 0, rfl, hg.lt, fun i y hi j u hu => ?_⟩
  match i, j with
  | 0, 0 => simp at hi; subst hi; simp [encIv] at hu; subst hu; exact hg.cell 0 rfl
  | 0, 1 => simp at hi; subst hi; simp [encIv] at hu; subst hu; exact hg.cell 1 rfl
  | 0, j + 2 => simp [encIv] at hu
  | i + 1, _ => simp at hi

set_option maxRecDepth 100000 in
set_option maxHeartbeats 8000000 in
theorem owned_any {A : Option Addr} (c : Nat) {l : List Ow} (v : ByteArray) (t : Int) {w : World} (h : Rd encOw 4 w w.heap.size A l) (hlen : l.length ≤ 9223372036854775807) :
    Calls Tryd.prog 53 #[.slice A l.length c, .string v, .int .i64 t] w fun e w' => (∃ i, e = .returned (.int .i64 i) ∧ IdxR (ownsB v t) l i) ∧ Below w.heap.size w w' := by
  have H := Lib.hid h
  have CH := Lib.hid (fun (o : Ow) {g : Nat} {W : World} hg => has1_any o.f o.t t (g := g) (W := W) hg)
  have HE := Lib.hid (fun (q : emp v = true) (o : Ow) => owns_emp q t o)
  have HX := Lib.hid (fun (o : Ow) q1 q2 => owns_neither (v := v) (t := t) (o := o) q1 q2)
  have HO := Lib.hid (fun (q : emp v = false) (o : Ow) q1 => owns_one (v := v) (t := t) (o := o) q q1)
  clear h
  by_cases hv : emp v = true
  · obtain rfl := (emp_iff v).1 hv
    have HE := Lib.hid (HE.out hv)
    clear HX HO CH
    clear hv
    go_enter Tryd.func53, Tryd.ntmps53
    go_wp2
    go_loopw [11] (fun i wr => ∃ k : Nat, k ≤ l.length ∧ i = .int .i64 k ∧ Hid (∀ y ∈ l.take k, ownsB ⟨#[]⟩ t y = false) ∧ Below w.heap.size w wr) (fun i _ => l.length - (RowKit.intOf i).toNat)
    case atStart => exact ⟨0, Nat.zero_le _, rfl, (by unfold Hid; simp), Below.refl _ _⟩
    case round =>
      obtain ⟨k, hk, rfl, HN, bW⟩ := hrel
      by_cases hi : k < l.length
      · obtain ⟨b, off, o, rfl, hb, hx, d0, d1, d2, d3⟩ := (H.out.st bW).ow hi
        have bW2 := bW.al (.cells #[.string o.tag, .string o.pl, .int .i64 o.f, .int .i64 o.t] 95)
        have HK := Lib.hid hi
        have R := Lib.hid (all_succ' (p := ownsB ⟨#[]⟩ t) hx HN.out (HE.out o))
        clear hx
        go_wp2_with fail; go_roundw; (case rel => exact ⟨k + 1, HK.out, by go_num, R, bW2⟩); (case measure => have := HK.out; simp [RowKit.intOf]; omega)
      · obtain rfl : k = l.length := by omega
        have R : Hid (IdxR (ownsB ⟨#[]⟩ t) l (-1)) := Lib.hid (Or.inl ⟨rfl, by have := HN.out; rwa [List.take_length] at this⟩)
        go_wp2
        go_ret
        exact ⟨⟨_, rfl, R.out⟩, bW⟩
  · rw [Bool.not_eq_true] at hv
    have HO := Lib.hid (HO.out hv)
    obtain ⟨n1, n2, n3⟩ := toList_neE hv
    clear HE hv
    go_enter Tryd.func53, Tryd.ntmps53
    go_wp2
    go_loopw [11] (fun i wr => ∃ k : Nat, k ≤ l.length ∧ i = .int .i64 k ∧ Hid (∀ y ∈ l.take k, ownsB v t y = false) ∧ Below w.heap.size w wr) (fun i _ => l.length - (RowKit.intOf i).toNat)
    case atStart => exact ⟨0, Nat.zero_le _, rfl, (by unfold Hid; simp), Below.refl _ _⟩
    case round =>
      obtain ⟨k, hk, rfl, HN, bW⟩ := hrel
      by_cases hi : k < l.length
      · obtain ⟨b, off, o, rfl, hb, hx, d0, d1, d2, d3⟩ := (H.out.st bW).ow hi
        have bW2 := bW.al (.cells #[.string o.tag, .string o.pl, .int .i64 o.f, .int .i64 o.t] 95)
        have HK := Lib.hid hi
        have HXk := Lib.hid hx
        obtain ⟨Y2, hY2⟩ : ∃ Y, wr.alloc (.cells #[.string o.tag, .string o.pl, .int .i64 o.f, .int .i64 o.t] 95) = Y := ⟨_, rfl⟩
        have sY2 : Y2.heap.size = wr.heap.size + 1 := by rw [← hY2]; simp
        have BX : Blk Y2 wr.heap.size #[.string o.tag, .string o.pl, .int .i64 o.f, .int .i64 o.t] 95 := by rw [← hY2]; exact Blk.new wr _ _
        have x0 : World.cell? Y2 ⟨wr.heap.size, 0, none⟩ = some (.string o.tag) := BX.cell 0 rfl
        have x1 : World.cell? Y2 ⟨wr.heap.size, 1, none⟩ = some (.string o.pl) := BX.cell 1 rfl
        have x2 : World.cell? Y2 ⟨wr.heap.size, 2, none⟩ = some (.int .i64 o.f) := BX.cell 2 rfl
        have x3 : World.cell? Y2 ⟨wr.heap.size, 3, none⟩ = some (.int .i64 o.t) := BX.cell 3 rfl
        obtain ⟨Y3, hY3⟩ : ∃ Y, Y2.alloc (.cells #[.int .i64 o.f, .int .i64 o.t] 68) = Y := ⟨_, rfl⟩
        rw [hY2] at bW2
        have bW3 : Below w.heap.size w Y3 := by rw [← hY3]; exact bW2.al _
        have CHx := Lib.hid (CH.out o (g := wr.heap.size + 1) (W := Y3) (by rw [← hY3, ← sY2]; exact Blk.new Y2 _ _))
        cases e1 : eqS o.tag v
        · cases e2 : eqS o.pl v
          · have R := Lib.hid (all_succ' (p := ownsB v t) hx HN.out (HX.out o e1 e2))
            have e1b : (o.tag.toList == v.toList) = false := e1
            have e2b : (o.pl.toList == v.toList) = false := e2
            clear hx e1 e2 hi CHx bW3
            go_wp2_with fail; go_roundw; (case rel => exact ⟨k + 1, HK.out, by go_num, R, bW2⟩); (case measure => have := HK.out; simp [RowKit.intOf]; omega)
          · have HV := Lib.hid (HO.out o (Or.inr e2))
            have e1b : (o.tag.toList == v.toList) = false := e1
            have e2b : (o.pl.toList == v.toList) = true := e2
            clear hx e1 e2 hi bW2
            go_wp2_with fail
            refine CHx.out.mono ?_
            rintro e w5 ⟨rfl, hbn⟩
            have bW2 := bW3.st hbn
            cases hh : hasB [(o.f, o.t)] t
            · have R := Lib.hid (all_succ' (p := ownsB v t) HXk.out HN.out (HV.out.trans hh))
              clear hh
              go_wp2_with fail; go_roundw; (case rel => exact ⟨k + 1, HK.out, by go_num, R, bW2⟩); (case measure => have := HK.out; simp [RowKit.intOf]; omega)
            · have R : Hid (IdxR (ownsB v t) l (k : Int)) := Lib.hid (Or.inr ⟨k, o, HXk.out, rfl, HV.out.trans hh, HN.out⟩)
              clear hh
              go_wp2_with fail
              go_ret
              exact ⟨⟨_, rfl, R.out⟩, bW2⟩
        · have HV := Lib.hid (HO.out o (Or.inl e1))
          have e1b : (o.tag.toList == v.toList) = true := e1
          clear hx e1 hi bW2
          go_wp2_with fail
          refine CHx.out.mono ?_
          rintro e w5 ⟨rfl, hbn⟩
          have bW2 := bW3.st hbn
          cases hh : hasB [(o.f, o.t)] t
          · have R := Lib.hid (all_succ' (p := ownsB v t) HXk.out HN.out (HV.out.trans hh))
            clear hh
            go_wp2_with fail; go_roundw; (case rel => exact ⟨k + 1, HK.out, by go_num, R, bW2⟩); (case measure => have := HK.out; simp [RowKit.intOf]; omega)
          · have R : Hid (IdxR (ownsB v t) l (k : Int)) := Lib.hid (Or.inr ⟨k, o, HXk.out, rfl, HV.out.trans hh, HN.out⟩)
            clear hh
            go_wp2_with fail
            go_ret
            exact ⟨⟨_, rfl, R.out⟩, bW2⟩
      · obtain rfl : k = l.length := by omega
        have R : Hid (IdxR (ownsB v t) l (-1)) := Lib.hid (Or.inl ⟨rfl, by have := HN.out; rwa [List.take_length] at this⟩)
        go_wp2
        go_ret
        exact ⟨⟨_, rfl, R.out⟩, bW⟩
end Go.Proofs.YtlnnbkpcnhlfcaaDoor
