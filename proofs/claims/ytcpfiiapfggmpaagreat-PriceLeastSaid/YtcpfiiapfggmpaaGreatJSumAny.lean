/- Joined texts: SumAny, PrcEnc, Valid, Has. -/
import Derived.Test.YtcpfiiapfggmpaaGreatJRelMath
import Derived.Test.YtcpfiiapfggmpaaGreatJSpanMath
import Derived.Test.YtcpfiiapfggmpaaGreatJNetChk
import Derived.IntWalk
import Derived.BigRegion
import Derived.Deep.RegionHeld3
import Derived.Deep.DrawnRows
/- money.Sum and the reference's Sum of at most 1024 amounts of any size, walked. -/
namespace Go.Proofs.YtcpfiiapfggmpaaGreat
open Go.RowKit Go.Lib

def sumV (l : List Int) : Int := if l.all fitsB = true then (if fitsB l.sum = true then l.sum else 0) else 0
def sumE (l : List Int) : Int := if l.all fitsB = true then (if fitsB l.sum = true then 0 else 13) else 13
theorem fitsB_bnd {x : Int} (h : fitsB x = true) : -1125899906842624 ≤ x ∧ x ≤ 1125899906842624 := by unfold fitsB at h; exact of_decide_eq_true h
theorem r3fits_any (n : Int) (w : World) : Calls Tryz.prog 52 #[.int .i64 n] w fun e w' => e = .returned (.bool (fitsB n)) ∧ w' = w := by
  unfold fitsB
  go_enter Tryz.func52, Tryz.ntmps52
  go_wp2
  all_goals (go_ret; exact ⟨ret_bool (by rw [Bool.eq_iff_iff]; simp; omega), rfl⟩)
theorem sum_split {l : List Int} (h : l.all fitsB = true) : ∀ x ∈ l, -1125899906842624 ≤ x ∧ x ≤ 1125899906842624 := fun x hx => fitsB_bnd (List.all_eq_true.1 h x hx)
set_option maxHeartbeats 2000000 in
theorem msumx_any {A : Option Addr} (c : Nat) {l : List Int} {w : World} (h : Rd encI 1 w w.heap.size A l) (hl : l.length ≤ 1024) :
    Calls Tryz.prog 75 #[.slice A l.length c] w fun e w' => e = .returned (.tuple #[.int .i64 (sumV l), .int .i64 (sumE l)]) ∧ Below w.heap.size w w' := by
  unfold sumV sumE
  cases ha : l.all fitsB
  · rw [if_neg (by simp), if_neg (by simp)]
    have HA := Lib.hid ha
    have H := Lib.hid h
    clear ha h
    have hl' : (l.length : Int) ≤ 1024 := by omega
    go_enter Tryz.func75, Tryz.ntmps75
    go_wp2
    go_loopw [12] (fun i wr => ∃ (k : Nat), k ≤ l.length ∧ i = .int .i64 k ∧ Hid (∀ x ∈ l.take k, fitsB x = true) ∧ Below w.heap.size w wr) (fun i _ => l.length - (RowKit.intOf i).toNat)
    case atStart => exact ⟨0, Nat.zero_le _, rfl, (by unfold Hid; simp), Below.refl _ _⟩
    case round =>
      obtain ⟨k, hk, rfl, HF, hbr⟩ := hrel
      by_cases hlt : k < l.length
      · obtain ⟨b, off, x, rfl, hg, hx, hc0⟩ := (H.out.keep hbr).i hlt
        have C3 := Lib.hid (fun w => fits_any x w)
        have HT := Lib.hid (fun (q : fitsB x = true) => show ∀ y ∈ l.take (k + 1), fitsB y = true by
          intro y hy
          rw [List.take_add_one, hx] at hy
          rcases List.mem_append.1 hy with hy | hy
          · exact HF.out y hy
          · simp at hy; subst hy; exact q)
        have HK := Lib.hid hlt
        clear hx
        cases hf : fitsB x
        · rw [hf] at C3
          clear HT hf
          go_wp2_with (go_at_call 55; with_reducible refine (C3.out _).mono ?_; rintro e w' ⟨rfl, rfl⟩)
          go_ret2
          exact ⟨rfl, hbr⟩
        · rw [hf] at C3
          have R := Lib.hid (HT.out hf)
          clear HT hf
          go_wp2_with (go_at_call 55; with_reducible refine (C3.out _).mono ?_; rintro e w' ⟨rfl, rfl⟩)
          go_roundw
          case rel => exact ⟨k + 1, HK.out, by go_num, R, hbr⟩
          case measure => have := HK.out; simp [RowKit.intOf]; omega
      · exfalso
        obtain rfl : k = l.length := by omega
        have := HF.out
        rw [List.take_length] at this
        have e := HA.out
        rw [List.all_eq_true.2 this] at e
        cases e
  · rw [if_pos rfl, if_pos rfl]
    exact sum_any c h hl (sum_split ha)
end Go.Proofs.YtcpfiiapfggmpaaGreat
/- Charges in memory: what is read of them, whose lines are whose. -/
set_option linter.unusedSimpArgs false
namespace Go.Proofs.YtcpfiiapfggmpaaGreat
open Go.RowKit Go.Lib

/-- a charge in memory: its values, where its lines lie -/
structure Cg where
  c : CV
  lA : Option Addr
  lc : Nat
instance : Inhabited Cg := ⟨⟨zeroC, none, 0⟩⟩
def encCg (x : Cg) : List Value := [.string x.c.key, .string x.c.veh, .string x.c.sys, .int .i64 x.c.cls, .int .i64 x.c.tm, .slice x.lA x.c.lns.length x.lc, .int .i64 x.c.ct]
theorem encCg_ok : Enc encCg 7 := ⟨fun _ => rfl, fun x u hu => by simp [encCg] at hu; rcases hu with rfl | rfl | rfl | rfl | rfl | rfl | rfl <;> rfl⟩
def CgV (x : Cg) : Value := CHV x.c x.lA x.lc
def cvs (l : List Cg) : List CV := l.map Cg.c
theorem cvs_len (l : List Cg) : (cvs l).length = l.length := by simp [cvs]
theorem cvs_at {l : List Cg} {i : Nat} {x : Cg} (h : l[i]? = some x) : (cvs l)[i]? = some x.c := by unfold cvs; rw [List.getElem?_map, h]; rfl
theorem cvs_app (a b : List Cg) : cvs (a ++ b) = cvs a ++ cvs b := by simp [cvs]
theorem Rd.cg {w : World} {B : Nat} {A : Option Addr} {l : List Cg} (h : Rd encCg 7 w B A l) {i : Nat} (hi : i < l.length) :
    ∃ b off x, A = some ⟨b, off, none⟩ ∧ b < B ∧ l[i]? = some x ∧ w.cell? ⟨b, off + i * 7, none⟩ = some (.string x.c.key) ∧ w.cell? ⟨b, off + i * 7 + 1, none⟩ = some (.string x.c.veh) ∧ w.cell? ⟨b, off + i * 7 + 2, none⟩ = some (.string x.c.sys) ∧ w.cell? ⟨b, off + i * 7 + 3, none⟩ = some (.int .i64 x.c.cls) ∧ w.cell? ⟨b, off + i * 7 + 4, none⟩ = some (.int .i64 x.c.tm) ∧ w.cell? ⟨b, off + i * 7 + 5, none⟩ = some (.slice x.lA x.c.lns.length x.lc) ∧ w.cell? ⟨b, off + i * 7 + 6, none⟩ = some (.int .i64 x.c.ct) := by
  obtain ⟨b, off, x, hA, hb, hx, hc⟩ := h.at_ hi
  exact ⟨b, off, x, hA, hb, hx, hc 0 _ rfl, hc 1 _ rfl, hc 2 _ rfl, hc 3 _ rfl, hc 4 _ rfl, hc 5 _ rfl, hc 6 _ rfl⟩
theorem tyCg : TyS Tryz.prog 110 66 7 96 := TyS.mk' (z := .agg #[.string ⟨#[]⟩, .string ⟨#[]⟩, .string ⟨#[]⟩, .int .i64 0, .int .i64 0, .slice none 0 0, .int .i64 0]) Tryz.underlying110 (by kernel_rfl) rfl (by omega)
/-- a charge whose lines can be read -/
def CgR (w : World) (x : Cg) : Prop := Rd encLn 2 w w.heap.size x.lA x.c.lns ∧ x.c.lns.length ≤ 1000
theorem CgR.st {w w' : World} {x : Cg} (h : CgR w x) (hb : Below w.heap.size w w') : CgR w' x := ⟨h.1.st hb, h.2⟩
def CgRs (w : World) (l : List Cg) : Prop := ∀ x ∈ l, CgR w x
theorem CgRs.st {w w' : World} {l : List Cg} (h : CgRs w l) (hb : Below w.heap.size w w') : CgRs w' l := fun x hx => (h x hx).st hb
/-- charges whose lines are the call's own -/
def LList (w : World) (base : Nat) (l : List Cg) : Prop := ∀ x ∈ l, Own 123 encLn 2 w base x.lA x.lc x.c.lns
theorem LList.nil (w : World) (base : Nat) : LList w base [] := by simp [LList]
theorem LList.st {w w' : World} {base : Nat} {l : List Cg} (h : LList w base l) (hb : Below w.heap.size w w') : LList w' base l := fun x hx => (h x hx).keep hb (Nat.le_refl _)
theorem LList.mono {w : World} {base base' : Nat} {l : List Cg} (h : LList w base l) (hb : base' ≤ base) : LList w base' l := fun x hx => (h x hx).mono hb
theorem LList.perm {w : World} {base : Nat} {l m : List Cg} (h : LList w base l) (hp : ∀ x ∈ m, x ∈ l) : LList w base m := fun x hx => h x (hp x hx)
theorem LList.snoc {w w' : World} {base : Nat} {l : List Cg} {x : Cg} (h : LList w base l) (hb : Below w.heap.size w w') (hx : Own 123 encLn 2 w' w.heap.size x.lA x.lc x.c.lns) (hbs : base ≤ w.heap.size) : LList w' base (l ++ [x]) := by
  intro y hy
  rcases List.mem_append.1 hy with q | q
  · exact (h.st hb) y q
  · rw [List.mem_singleton] at q; subst q; exact hx.mono hbs
/-- blocks that are no lines' stay -/
theorem LList.keepB {w w' : World} {base : Nat} {l : List Cg} (h : LList w base l) (hk : ∀ x ∈ l, ∀ g, x.lA = some ⟨g, 0, none⟩ → g < w.heap.size → w'.heap[g]? = w.heap[g]?) : LList w' base l := fun x hx => (h x hx).keepB (hk x hx)
theorem LList.keepA {α : Type} {e k : Nat} {enc : α → List Value} {w w' : World} {base b1 : Nat} {cs : List Cg} {l : List α} {A : Option Addr} {c : Nat} (h : LList w base cs) (ho : Own e enc k w b1 A c l) (hne : 123 ≠ e)
    (hf : ∀ b, b < w.heap.size → (∀ g, A = some ⟨g, 0, none⟩ → b ≠ g) → w'.heap[b]? = w.heap[b]?) : LList w' base cs :=
  h.keepB fun _x hx _g hg hl => hf _ hl fun _g' e => (h _ hx).apart ho hne hg e
theorem LList.rs {w : World} {base : Nat} {l : List Cg} (h : LList w base l) (hl : ∀ x ∈ l, x.c.lns.length ≤ 1000) : CgRs w l := fun x hx => ⟨(h x hx).rd encLn_ok, hl x hx⟩

/-! ### sums of lines -/
def sumL (l : List Ln) : Int := (l.map Prod.snd).sum
def Mst (l : List Ln) : Prop := ∀ y ∈ l, fitsB y.2 = true
theorem sumL_bnd {l : List Ln} (h : Mst l) : -(1125899906842624 * (l.length : Int)) ≤ sumL l ∧ sumL l ≤ 1125899906842624 * (l.length : Int) := by
  have := sum_bounds (l := l.map Prod.snd) (fun x hx => by obtain ⟨y, hy, rfl⟩ := List.mem_map.1 hx; exact fitsB_bnd (h y hy))
  rw [List.length_map] at this
  exact this
theorem sumL_snoc {l : List Ln} {k : Nat} {x : Ln} (hx : l[k]? = some x) : sumL (l.take (k + 1)) = sumL (l.take k) + x.2 := by
  unfold sumL; rw [take_snoc hx]; simp
theorem Mst.take {l : List Ln} (h : Mst l) (k : Nat) : Mst (l.take k) := fun y hy => h y (List.mem_of_mem_take hy)
def mstB (l : List Ln) : Bool := l.all fun y => fitsB y.2
theorem mstB_iff {l : List Ln} : mstB l = true ↔ Mst l := by unfold mstB Mst; rw [List.all_eq_true]
/-- the error of a charge -/
def chkE (x : CV) : Int :=
  if x.key = ⟨#[]⟩ ∨ x.veh = ⟨#[]⟩ then 6 else if x.cls < 0 ∨ 9 < x.cls then 20 else if x.tm < 0 ∨ 68719476736 < x.tm then 12
  else if mstB x.lns = false then 13 else if x.ct < 0 ∨ 1125899906842624 < x.ct then 13 else if x.ct ≠ sumL x.lns then 8 else 0
end Go.Proofs.YtcpfiiapfggmpaaGreat
/- span.Valid, walked. -/
namespace Go.Proofs.YtcpfiiapfggmpaaGreat
open Go.RowKit Go.Lib

theorem valid_any (f t : Int) (w : World) :
    Calls Tryz.prog 114 #[.agg #[.int .i64 f, .int .i64 t]] w fun e w' => e = .returned (.bool (validB f t)) ∧ w.alloc (.cells #[.int .i64 f, .int .i64 t] 59) = w' := by
  unfold validB
  go_enter Tryz.func114, Tryz.ntmps114
  go_wp2
  all_goals (go_ret; exact ⟨ret_bool (by rw [Bool.eq_iff_iff]; simp; omega), rfl⟩)
end Go.Proofs.YtcpfiiapfggmpaaGreat
/- span.Has, walked. -/
namespace Go.Proofs.YtcpfiiapfggmpaaGreat
open Go.RowKit Go.Lib Go.Shelf

theorem contains_any (p : Iv → Bool) (g : Nat) (lb : Array Value) (eg : ∀ args w, (callFunc g args).run Tryz.prog w = .ok (.enter g args) w) {A : Option Addr} (c : Nat) {l : List Iv} {w : World}
    (hp : ∀ (W : World) (x : Iv), Below w.heap.size w W → Calls Tryz.prog g (#[.agg #[.int .i64 x.1, .int .i64 x.2]] ++ lb) W fun e w' => e = .returned (.bool (p x)) ∧ Below w.heap.size w w')
    (h : Rd encIv 2 w w.heap.size A l) (hl : l.length ≤ 100000000000) :
    Calls Tryz.prog 112 #[.slice A l.length c, .func (.func g) #[] lb] w fun e w' => e = .returned (.bool (l.any p)) ∧ Below w.heap.size w w' := by
  by_cases hne : l = []
  · subst hne
    clear h hp eg
    go_enter Tryz.func112, Tryz.ntmps112
    go_wp2_with go_in
    refine wp_loop_rounds 1 ?_
    rw [rounds_succ]
    go_wp2
    go_ret
    exact ⟨rfl, Below.refl _ _⟩
  · obtain ⟨b, off, rfl, hb, hc⟩ := h hne
    have hcon := AnyQ.slices_ContainsFunc Tryz.lay_containsf_f112 2 Tryz.isAgg59 Tryz.sizeOf59 encIv encIv_ok.1 p g lb eg b off l.length c l w (fun W x hW => hp W x hW) (Nat.le_refl _) (by omega) hb
      (fun j hj i v hi => hc j l[j]! (by rw [getElem!_pos l j hj]; exact List.getElem?_eq_getElem hj) i v hi)
    rw [List.take_length] at hcon
    exact hcon

theorem hasClosure_any (x : Iv) (t : Int) (b : Nat) (W : World) (hb : b < W.heap.size) (hc : W.cell? ⟨b, 0, none⟩ = some (.int .i64 t)) :
    Calls Tryz.prog 113 #[.agg #[.int .i64 x.1, .int .i64 x.2], .pointer (some ⟨b, 0, none⟩)] W fun e w' => e = .returned (.bool (validB x.1 x.2 && decide (x.1 ≤ t) && decide (t < x.2))) ∧ Below W.heap.size W w' := by
  obtain ⟨f, u⟩ := x
  have hbel := ((Below.refl W.heap.size W).al (.cells #[.int .i64 f, .int .i64 u] 59)).al (.cells #[.int .i64 f, .int .i64 u] 59)
  have hb2 : b < W.heap.size + 1 := by omega
  have hb3 : b ≠ W.heap.size := by omega
  have hb4 : b ≠ W.heap.size + 1 := by omega
  cases hv : validB f u
  · go_enter Tryz.func113, Tryz.ntmps113
    go_wp2_with (go_at_call 114; refine (valid_any _ _ _).mono ?_; rintro e w' ⟨rfl, rfl⟩)
    go_ret
    exact ⟨ret_bool (by simp), hbel⟩
  · by_cases h1 : f ≤ t
    · by_cases h2 : t < u
      · have R := Lib.hid (show (true && decide (f ≤ t) && decide (t < u)) = true by simp [h1, h2])
        go_enter Tryz.func113, Tryz.ntmps113
        go_wp2_with (go_at_call 114; refine (valid_any _ _ _).mono ?_; rintro e w' ⟨rfl, rfl⟩)
        go_ret
        exact ⟨ret_bool (by first | exact R.out.symm | (rw [R.out]; simp; omega)), hbel⟩
      · have R := Lib.hid (show (true && decide (f ≤ t) && decide (t < u)) = false by simp [h2])
        go_enter Tryz.func113, Tryz.ntmps113
        go_wp2_with (go_at_call 114; refine (valid_any _ _ _).mono ?_; rintro e w' ⟨rfl, rfl⟩)
        go_ret
        exact ⟨ret_bool (by first | exact R.out.symm | (rw [R.out]; simp; omega)), hbel⟩
    · have R := Lib.hid (show (true && decide (f ≤ t) && decide (t < u)) = false by simp [h1])
      go_enter Tryz.func113, Tryz.ntmps113
      go_wp2_with (go_at_call 114; refine (valid_any _ _ _).mono ?_; rintro e w' ⟨rfl, rfl⟩)
      go_ret
      exact ⟨ret_bool R.out.symm, hbel⟩

theorem has_any {A : Option Addr} (c : Nat) {l : List Iv} (t : Int) {w : World} (h : Rd encIv 2 w w.heap.size A l) (hl : l.length ≤ 100000000000) :
    Calls Tryz.prog 76 #[.slice A l.length c, .int .i64 t] w fun e w' => e = .returned (.bool (hasB l t)) ∧ Below w.heap.size w w' := by
  have eg : ∀ args w, (callFunc 113 args).run Tryz.prog w = .ok (.enter 113 args) w := enters_of Tryz.func113 (by kernel_rfl) rfl
  have hz : w.heap.size < (w.alloc (.cells #[.int .i64 t] 3)).heap.size := by simp
  have hb0 := (Below.refl w.heap.size w).al (.cells #[.int .i64 t] 3)
  have C := Lib.hid (contains_any (fun x => validB x.1 x.2 && decide (x.1 ≤ t) && decide (t < x.2)) 113 #[.pointer (some ⟨w.heap.size, 0, none⟩)] eg c (w := w.alloc (.cells #[.int .i64 t] 3))
    (fun W x hW => (hasClosure_any x t w.heap.size W (Nat.lt_of_lt_of_le hz hW.size) ((hW.cell (p := ⟨w.heap.size, 0, none⟩) hz).trans (by simp))).mono fun e w' ⟨he, hw'⟩ => ⟨he, hW.trans (hw'.mono hW.size)⟩)
    ((h.keep hb0).more (Nat.le_of_lt hz)) hl)
  clear h eg
  go_enter Tryz.func76, Tryz.ntmps76
  go_wp2_with fail
  refine C.out.mono ?_
  rintro e w' ⟨rfl, hb⟩
  go_wp2_with fail
  go_ret
  exact ⟨rfl, hb0.trans (hb.mono (Nat.le_of_lt hz))⟩
end Go.Proofs.YtcpfiiapfggmpaaGreat
