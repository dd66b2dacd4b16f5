/- Charges in memory: what is read of them, whose lines are whose. -/
import Derived.Test.YtcpfiiapfggmpaaJStrEq
import Derived.Test.YtcpfiiapfggmpaaBox
import Derived.Test.YtcpfiiapfggmpaaSumAny
set_option linter.unusedSimpArgs false
namespace Go.Proofs.Ytcpfiiapfggmpaa
open Go.RowKit Go.Lib

/-- a charge in memory: its values, where its lines lie -/
structure Cg where
  c : CV
  lA : Option Addr
  lc : Nat
instance : Inhabited Cg := ⟨⟨zeroC, none, 0⟩⟩
def encCg (x : Cg) : List Value := [.string x.c.key, .string x.c.veh, .string x.c.sys, .int .i64 x.c.cls, .int .i64 x.c.tm, .slice x.lA x.c.lns.length x.lc, .int .i64 x.c.ct]
theorem encCg_ok : Enc encCg 7 := ⟨fun _ => rfl, fun x u hu => by simp [encCg] at hu; rcases hu with rfl | rfl | rfl | rfl | rfl | rfl | rfl <;> rfl⟩
def CgV (x : Cg) : Value := CHV x.c x.lA x.lc
def cvs (l : List Cg) : List CV := l.map Cg.c
theorem cvs_len (l : List Cg) : (cvs l).length = l.length := by simp [cvs]
theorem cvs_at {l : List Cg} {i : Nat} {x : Cg} (h : l[i]? = some x) : (cvs l)[i]? = some x.c := by unfold cvs; rw [List.getElem?_map, h]; rfl
theorem cvs_app (a b : List Cg) : cvs (a ++ b) = cvs a ++ cvs b := by simp [cvs]
theorem cvs_take (a : List Cg) (k : Nat) : cvs (a.take k) = (cvs a).take k := by simp [cvs, List.map_take]
theorem cvs_drop (a : List Cg) (k : Nat) : cvs (a.drop k) = (cvs a).drop k := by simp [cvs, List.map_drop]
theorem Rd.cg {w : World} {B : Nat} {A : Option Addr} {l : List Cg} (h : Rd encCg 7 w B A l) {i : Nat} (hi : i < l.length) :
    ∃ b off x, A = some ⟨b, off, none⟩ ∧ b < B ∧ l[i]? = some x ∧ w.cell? ⟨b, off + i * 7, none⟩ = some (.string x.c.key) ∧ w.cell? ⟨b, off + i * 7 + 1, none⟩ = some (.string x.c.veh) ∧ w.cell? ⟨b, off + i * 7 + 2, none⟩ = some (.string x.c.sys) ∧ w.cell? ⟨b, off + i * 7 + 3, none⟩ = some (.int .i64 x.c.cls) ∧ w.cell? ⟨b, off + i * 7 + 4, none⟩ = some (.int .i64 x.c.tm) ∧ w.cell? ⟨b, off + i * 7 + 5, none⟩ = some (.slice x.lA x.c.lns.length x.lc) ∧ w.cell? ⟨b, off + i * 7 + 6, none⟩ = some (.int .i64 x.c.ct) := by
  obtain ⟨b, off, x, hA, hb, hx, hc⟩ := h.at_ hi
  exact ⟨b, off, x, hA, hb, hx, hc 0 _ rfl, hc 1 _ rfl, hc 2 _ rfl, hc 3 _ rfl, hc 4 _ rfl, hc 5 _ rfl, hc 6 _ rfl⟩
theorem tyCg : TyS Try.prog 30 24 7 96 := TyS.mk' (z := .agg #[.string ⟨#[]⟩, .string ⟨#[]⟩, .string ⟨#[]⟩, .int .i64 0, .int .i64 0, .slice none 0 0, .int .i64 0]) Try.underlying30 (by kernel_rfl) rfl (by omega)
/-- a charge whose lines can be read -/
def CgR (w : World) (x : Cg) : Prop := Rd encLn 2 w w.heap.size x.lA x.c.lns ∧ x.c.lns.length ≤ 1000
theorem CgR.st {w w' : World} {x : Cg} (h : CgR w x) (hb : Below w.heap.size w w') : CgR w' x := ⟨h.1.st hb, h.2⟩
def CgRs (w : World) (l : List Cg) : Prop := ∀ x ∈ l, CgR w x
theorem CgRs.st {w w' : World} {l : List Cg} (h : CgRs w l) (hb : Below w.heap.size w w') : CgRs w' l := fun x hx => (h x hx).st hb
/-- charges whose lines are the call's own -/
def LList (w : World) (base : Nat) (l : List Cg) : Prop := ∀ x ∈ l, Own 86 encLn 2 w base x.lA x.lc x.c.lns
theorem LList.nil (w : World) (base : Nat) : LList w base [] := by simp [LList]
theorem LList.st {w w' : World} {base : Nat} {l : List Cg} (h : LList w base l) (hb : Below w.heap.size w w') : LList w' base l := fun x hx => (h x hx).keep hb (Nat.le_refl _)
theorem LList.mono {w : World} {base base' : Nat} {l : List Cg} (h : LList w base l) (hb : base' ≤ base) : LList w base' l := fun x hx => (h x hx).mono hb
theorem LList.perm {w : World} {base : Nat} {l m : List Cg} (h : LList w base l) (hp : ∀ x ∈ m, x ∈ l) : LList w base m := fun x hx => h x (hp x hx)
theorem LList.snoc {w w' : World} {base : Nat} {l : List Cg} {x : Cg} (h : LList w base l) (hb : Below w.heap.size w w') (hx : Own 86 encLn 2 w' w.heap.size x.lA x.lc x.c.lns) (hbs : base ≤ w.heap.size) : LList w' base (l ++ [x]) := by
  intro y hy
  rcases List.mem_append.1 hy with q | q
  · exact (h.st hb) y q
  · rw [List.mem_singleton] at q; subst q; exact hx.mono hbs
/-- blocks that are no lines' stay -/
theorem LList.keepB {w w' : World} {base : Nat} {l : List Cg} (h : LList w base l) (hk : ∀ x ∈ l, ∀ g, x.lA = some ⟨g, 0, none⟩ → g < w.heap.size → w'.heap[g]? = w.heap[g]?) : LList w' base l := fun x hx => (h x hx).keepB (hk x hx)
theorem LList.keepA {α : Type} {e k : Nat} {enc : α → List Value} {w w' : World} {base b1 : Nat} {cs : List Cg} {l : List α} {A : Option Addr} {c : Nat} (h : LList w base cs) (ho : Own e enc k w b1 A c l) (hne : 86 ≠ e)
    (hf : ∀ b, b < w.heap.size → (∀ g, A = some ⟨g, 0, none⟩ → b ≠ g) → w'.heap[b]? = w.heap[b]?) : LList w' base cs :=
  h.keepB fun _x hx _g hg hl => hf _ hl fun _g' e => (h _ hx).apart ho hne hg e
theorem LList.rs {w : World} {base : Nat} {l : List Cg} (h : LList w base l) (hl : ∀ x ∈ l, x.c.lns.length ≤ 1000) : CgRs w l := fun x hx => ⟨(h x hx).rd encLn_ok, hl x hx⟩

def emp (s : ByteArray) : Bool := eqS s ⟨#[]⟩
theorem emp_iff (s : ByteArray) : emp s = true ↔ s = ⟨#[]⟩ := eqS_iff s _
/-- ways of a test for the empty string -/
theorem toList_neE {a : ByteArray} (h : emp a = false) : ¬ a.toList = [] ∧ a.toList.isEmpty = false ∧ (a.toList == []) = false := by
  have h0 : ¬ a = ⟨#[]⟩ := fun q => by rw [(emp_iff a).2 q] at h; cases h
  have h1 : ¬ a.toList = [] := by
    intro q
    apply h0
    rw [ByteArray.toList_eq] at q
    cases a; simp only [ByteArray.mk.injEq]
    exact Array.toList_eq_nil_iff.1 q
  cases q : a.toList with
  | nil => exact absurd q h1
  | cons _ _ => exact ⟨by simp, rfl, rfl⟩
theorem toList_eE {a : ByteArray} (h : emp a = true) : a.toList = [] ∧ a.toList.isEmpty = true ∧ (a.toList == []) = true := by
  obtain rfl := (emp_iff a).1 h
  have : (⟨#[]⟩ : ByteArray).toList = [] := by rw [ByteArray.toList_eq]
  rw [this]
  exact ⟨rfl, rfl, rfl⟩

/-! ### sums of lines -/
def sumL (l : List Ln) : Int := (l.map Prod.snd).sum
def Mst (l : List Ln) : Prop := ∀ y ∈ l, fitsB y.2 = true
theorem sumL_bnd {l : List Ln} (h : Mst l) : -(1125899906842624 * (l.length : Int)) ≤ sumL l ∧ sumL l ≤ 1125899906842624 * (l.length : Int) := by
  have := sum_bounds (l := l.map Prod.snd) (fun x hx => by obtain ⟨y, hy, rfl⟩ := List.mem_map.1 hx; exact fitsB_bnd (h y hy))
  rw [List.length_map] at this
  exact this
theorem sumL_snoc {l : List Ln} {k : Nat} {x : Ln} (hx : l[k]? = some x) : sumL (l.take (k + 1)) = sumL (l.take k) + x.2 := by
  unfold sumL; rw [take_snoc hx]; simp
theorem Mst.take {l : List Ln} (h : Mst l) (k : Nat) : Mst (l.take k) := fun y hy => h y (List.mem_of_mem_take hy)
def mstB (l : List Ln) : Bool := l.all fun y => fitsB y.2
theorem mstB_iff {l : List Ln} : mstB l = true ↔ Mst l := by unfold mstB Mst; rw [List.all_eq_true]
/-- the error of a charge -/
def chkE (x : CV) : Int :=
  if x.key = ⟨#[]⟩ ∨ x.veh = ⟨#[]⟩ then 6 else if x.cls < 0 ∨ 9 < x.cls then 20 else if x.tm < 0 ∨ 68719476736 < x.tm then 12
  else if mstB x.lns = false then 13 else if x.ct < 0 ∨ 1125899906842624 < x.ct then 13 else if x.ct ≠ sumL x.lns then 8 else 0
end Go.Proofs.Ytcpfiiapfggmpaa
