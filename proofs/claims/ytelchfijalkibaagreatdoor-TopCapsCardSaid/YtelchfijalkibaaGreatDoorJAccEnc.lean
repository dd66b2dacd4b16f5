/- Joined texts: AccEnc, Idx, AccIdx, BillEnc, CapSmall. -/
import Derived.Test.YtelchfijalkibaaGreatDoorJBillDate
import Derived.Test.YtelchfijalkibaaGreatDoorJFirst
import Derived.Lib.SlBy
import Derived.Test.YtelchfijalkibaaGreatDoorJNetChk
import Derived.Test.YtelchfijalkibaaGreatDoorJRelMath
import Derived.Test.YtelchfijalkibaaGreatDoorJNetEnc
import Derived.OwnWalk
/- Accounts as values. -/
namespace Go.Proofs.YtelchfijalkibaaGreatDoor
open Go.RowKit Go.Lib

instance : Inhabited Ow := ⟨⟨⟨#[]⟩, ⟨#[]⟩, 0, 0⟩⟩
instance : Inhabited Av := ⟨zeroA⟩
def encOw (o : Ow) : List Value := [.string o.tag, .string o.pl, .int .i64 o.f, .int .i64 o.t]
def OwV (o : Ow) : Value := .agg #[.string o.tag, .string o.pl, .int .i64 o.f, .int .i64 o.t]
def zeroOw : Ow := ⟨⟨#[]⟩, ⟨#[]⟩, 0, 0⟩
/-- an account: its values, and where its vehicles lie -/
structure Ac where
  v : Av
  oA : Option Addr
  oc : Nat
instance : Inhabited Ac := ⟨⟨zeroA, none, 0⟩⟩
def encAc (a : Ac) : List Value := [.string a.v.name, .string a.v.ag, .bool a.v.pre, .slice a.oA a.v.os.length a.oc, .int .i64 a.v.r0, .int .i64 a.v.r1, .int .i64 a.v.r2, .int .i64 a.v.r3, .bool a.v.ex]
def AcV (a : Ac) : Value := .agg #[.string a.v.name, .string a.v.ag, .bool a.v.pre, .slice a.oA a.v.os.length a.oc, .int .i64 a.v.r0, .int .i64 a.v.r1, .int .i64 a.v.r2, .int .i64 a.v.r3, .bool a.v.ex]
def zeroAc : Ac := ⟨zeroA, none, 0⟩
def AOk (w : World) (a : Ac) : Prop := Rd encOw 4 w w.heap.size a.oA a.v.os ∧ a.v.os.length ≤ a.oc ∧ a.oc ≤ 9223372036854775807
theorem AOk.st {w w' : World} {a : Ac} (h : AOk w a) (hb : Below w.heap.size w w') : AOk w' a := ⟨h.1.st hb, h.2⟩
def AsOk (w : World) (l : List Ac) : Prop := ∀ a ∈ l, AOk w a
theorem AsOk.st {w w' : World} {l : List Ac} (h : AsOk w l) (hb : Below w.heap.size w w') : AsOk w' l := fun a ha => (h a ha).st hb
/-- the list lies in memory -/
def AL (w : World) (A : Option Addr) (c : Nat) (l : List Ac) : Prop := Rd encAc 9 w w.heap.size A l ∧ AsOk w l ∧ l.length ≤ c ∧ c ≤ 9223372036854775807
theorem AL.st {w w' : World} {A : Option Addr} {c : Nat} {l : List Ac} (h : AL w A c l) (hb : Below w.heap.size w w') : AL w' A c l := ⟨h.1.st hb, h.2.1.st hb, h.2.2⟩
def vals (l : List Ac) : List Av := l.map Ac.v
/-- strings and lists are not too long -/
def smO (o : Ow) : Prop := o.tag.size ≤ 1000 ∧ o.pl.size ≤ 1000
def smA (a : Ac) : Prop := a.v.os.length ≤ 1000 ∧ ∀ o ∈ a.v.os, smO o
def smL (l : List Ac) : Prop := l.length ≤ 1000 ∧ ∀ a ∈ l, smA a
theorem Rd.ac {w : World} {B : Nat} {A : Option Addr} {l : List Ac} (h : Rd encAc 9 w B A l) {i : Nat} (hi : i < l.length) :
    ∃ b off a, A = some ⟨b, off, none⟩ ∧ b < B ∧ l[i]? = some a ∧ w.cell? ⟨b, off + i * 9, none⟩ = some (.string a.v.name) ∧ w.cell? ⟨b, off + i * 9 + 1, none⟩ = some (.string a.v.ag) ∧ w.cell? ⟨b, off + i * 9 + 2, none⟩ = some (.bool a.v.pre) ∧ w.cell? ⟨b, off + i * 9 + 3, none⟩ = some (.slice a.oA a.v.os.length a.oc) ∧ w.cell? ⟨b, off + i * 9 + 4, none⟩ = some (.int .i64 a.v.r0) ∧ w.cell? ⟨b, off + i * 9 + 5, none⟩ = some (.int .i64 a.v.r1) ∧ w.cell? ⟨b, off + i * 9 + 6, none⟩ = some (.int .i64 a.v.r2) ∧ w.cell? ⟨b, off + i * 9 + 7, none⟩ = some (.int .i64 a.v.r3) ∧ w.cell? ⟨b, off + i * 9 + 8, none⟩ = some (.bool a.v.ex) := by
  obtain ⟨b, off, a, hA, hb, hx, hc⟩ := h.at_ hi
  exact ⟨b, off, a, hA, hb, hx, hc 0 _ rfl, hc 1 _ rfl, hc 2 _ rfl, hc 3 _ rfl, hc 4 _ rfl, hc 5 _ rfl, hc 6 _ rfl, hc 7 _ rfl, hc 8 _ rfl⟩
end Go.Proofs.YtelchfijalkibaaGreatDoor
/- slices.IndexFunc's answer, in plain words. No program in sight. -/
namespace Go.Proofs.YtelchfijalkibaaGreatDoor

/-- i is the first index at which p holds, or -1 -/
def IdxR {α : Type} (p : α → Bool) (l : List α) (i : Int) : Prop :=
  (i = -1 ∧ ∀ y ∈ l, p y = false) ∨ ∃ (k : Nat) (x : α), l[k]? = some x ∧ i = (k : Int) ∧ p x = true ∧ ∀ y ∈ l.take k, p y = false
end Go.Proofs.YtelchfijalkibaaGreatDoor
/- account.index, owned, Owner, and the reference's find, owns, Owner, walked. -/
namespace Go.Proofs.YtelchfijalkibaaGreatDoor
open Go.RowKit Go.Lib

end Go.Proofs.YtelchfijalkibaaGreatDoor
/- Caps and charges as values; caps in plain words. -/
set_option linter.unusedSimpArgs false
namespace Go.Proofs.YtelchfijalkibaaGreatDoor
open Go.RowKit Go.Lib

structure Cp where
  name : ByteArray
  sys : ByteArray
  days : Int
  ct : Int
def encCp (c : Cp) : List Value := [.string c.name, .string c.sys, .int .i64 c.days, .int .i64 c.ct]
theorem encCp_ok : Enc encCp 4 := ⟨fun _ => rfl, fun x u hu => by simp [encCp] at hu; rcases hu with rfl | rfl | rfl | rfl <;> rfl⟩
def CpV (c : Cp) : Value := .agg #[.string c.name, .string c.sys, .int .i64 c.days, .int .i64 c.ct]
theorem Rd.cp {w : World} {B : Nat} {A : Option Addr} {l : List Cp} (h : Rd encCp 4 w B A l) {i : Nat} (hi : i < l.length) :
    ∃ b off c, A = some ⟨b, off, none⟩ ∧ b < B ∧ l[i]? = some c ∧ w.cell? ⟨b, off + i * 4, none⟩ = some (.string c.name) ∧ w.cell? ⟨b, off + i * 4 + 1, none⟩ = some (.string c.sys) ∧ w.cell? ⟨b, off + i * 4 + 2, none⟩ = some (.int .i64 c.days) ∧ w.cell? ⟨b, off + i * 4 + 3, none⟩ = some (.int .i64 c.ct) := by
  obtain ⟨b, off, c, hA, hb, hx, hc⟩ := h.at_ hi
  exact ⟨b, off, c, hA, hb, hx, hc 0 _ rfl, hc 1 _ rfl, hc 2 _ rfl, hc 3 _ rfl⟩

def CgOk (w : World) (x : Cg) : Prop := Rd encLn 2 w w.heap.size x.lA x.c.lns ∧ x.c.lns.length ≤ x.lc ∧ x.lc ≤ 9223372036854775807
theorem CgOk.st {w w' : World} {x : Cg} (h : CgOk w x) (hb : Below w.heap.size w w') : CgOk w' x := ⟨h.1.st hb, h.2⟩
/-- a list of charges in memory -/
def CL (w : World) (A : Option Addr) (l : List Cg) : Prop := Rd encCg 7 w w.heap.size A l ∧ ∀ x ∈ l, CgOk w x
theorem CL.st {w w' : World} {A : Option Addr} {l : List Cg} (h : CL w A l) (hb : Below w.heap.size w w') : CL w' A l := ⟨h.1.st hb, fun x hx => (h.2 x hx).st hb⟩
def cmB (n : Int) : Bool := decide (0 ≤ n ∧ n ≤ 1125899906842624)
/-- the error of a cap -/
def capE (c : Cp) : Int :=
  if nameB c.name = false ∨ (emp c.sys = false ∧ nameB c.sys = false) then 6 else if c.days ≠ 0 ∧ c.days ≠ 1 then 1 else if cmB c.ct = false then 13 else 0
/-- whether a cap is about a charge -/
def matB (c : Cp) (x : CV) : Bool := emp c.sys || eqS c.sys x.sys
/-- the period of a time -/
def perN (days t : Int) : Int := if days = 1 then dayN t else if days = 0 then monN t else -1
/-- a charge that can be billed -/
def btmB (t : Int) : Bool := decide (0 ≤ t ∧ t < 68719476736) && decide (0 ≤ dayN t ∧ dayN t < 795364)
theorem btmB_per (t : Int) : btmB t = true ↔ 0 ≤ perN 1 t ∧ 0 ≤ perN 0 t := by
  unfold btmB perN monN monD
  simp only [Bool.and_eq_true, decide_eq_true_eq, if_true, if_neg (by omega : ¬ (0 : Int) = 1)]
  unfold dayN
  constructor
  · rintro ⟨h1, h2⟩
    rw [if_pos h1] at h2 ⊢
    rw [if_pos h2]
    omega
  · rintro ⟨h1, h2⟩
    split at h1
    · rename_i h
      rw [if_pos h] at h2 ⊢
      refine ⟨h, ?_⟩
      split at h2
      · assumption
      · omega
    · omega
end Go.Proofs.YtelchfijalkibaaGreatDoor
/- The small functions of chapter 25 and their reference, walked. -/
set_option linter.unusedSimpArgs false
namespace Go.Proofs.YtelchfijalkibaaGreatDoor
open Go.RowKit Go.Lib

set_option maxRecDepth 100000 in
theorem cmat_any (c : Cp) (x : CV) (lA : Option Addr) (lc : Nat) (w : World) :
    Calls Tryz.prog 9 #[CpV c, CHV x lA lc] w fun e w' => e = .returned (.bool (matB c x)) ∧ Below w.heap.size w w' := by
  unfold matB; obtain ⟨nm, sy, dy, ct⟩ := c; obtain ⟨key, veh, sys, cls, tm, lns, cn⟩ := x; simp only [CpV, CHV]; obtain ⟨Y1, hY1⟩ : ∃ Y, w.alloc (.cells #[.string nm, .string sy, .int .i64 dy, .int .i64 ct] 65) = Y := ⟨_, rfl⟩; (have s1 : Y1.heap.size = w.heap.size + 1 := by rw [← hY1]; simp); obtain ⟨Y, hY⟩ : ∃ Y, Y1.alloc (.cells #[.string key, .string veh, .string sys, .int .i64 cls, .int .i64 tm, .slice lA lns.length lc, .int .i64 cn] 57) = Y := ⟨_, rfl⟩; have BP : Blk Y w.heap.size #[.string nm, .string sy, .int .i64 dy, .int .i64 ct] 65 := (by rw [← hY, ← hY1]; exact (Blk.new w _ _).alloc _); have BC : Blk Y (w.heap.size + 1) #[.string key, .string veh, .string sys, .int .i64 cls, .int .i64 tm, .slice lA lns.length lc, .int .i64 cn] 57 := (by rw [← hY, ← s1]; exact Blk.new Y1 _ _); have bW : Below w.heap.size w Y := (by rw [← hY, ← hY1]; exact ((Below.refl _ w).al _).al _); have c2 := BC.cell 2 (v := .string sys) rfl; have p0 := BP.cell 0 (v := .string nm) rfl; have p1 := BP.cell 1 (v := .string sy) rfl; have p2 := BP.cell 2 (v := .int .i64 dy) rfl; have p3 := BP.cell 3 (v := .int .i64 ct) rfl; cases he : emp sy
  · obtain ⟨n1, n2, n3⟩ := toList_neE he
    cases hq : eqS sy sys
    all_goals
      have hq2 : (sy.toList == sys.toList) = _ := hq
      clear hq he n1
      go_enter Tryz.func9, Tryz.ntmps9
      go_wp2_with fail
      go_ret
      exact ⟨rfl, bW⟩
  · obtain ⟨n1, n2, n3⟩ := toList_eE he
    clear he n1
    go_enter Tryz.func9, Tryz.ntmps9
    go_wp2_with fail
    go_ret
    exact ⟨rfl, bW⟩
theorem ram_any (n : Int) (w : World) : Calls Tryz.prog 43 #[.int .i64 n] w fun e w' => e = .returned (.bool (cmB n)) ∧ w' = w := by
  unfold cmB
  go_enter Tryz.func43, Tryz.ntmps43
  go_wp2
  all_goals (go_ret; exact ⟨ret_b (by rw [Bool.eq_iff_iff]; simp <;> omega), rfl⟩)

set_option maxRecDepth 100000 in
set_option maxHeartbeats 4000000 in
theorem cper_any (nm sy : ByteArray) (dy ct t : Int) {w : World} (hw : Mon w) :
    Calls Tryz.prog 10 #[.agg #[.string nm, .string sy, .int .i64 dy, .int .i64 ct], .int .i64 t] w fun e w' => e = .returned (.int .i64 (perN dy t)) ∧ Below w.heap.size w w' := by
  unfold perN monN monD
  have CD := Lib.hid (fun (X : World) => cday_any t X)
  obtain ⟨Y, hY⟩ : ∃ Y, w.alloc (.cells #[.string nm, .string sy, .int .i64 dy, .int .i64 ct] 65) = Y := ⟨_, rfl⟩; have bW : Below w.heap.size w Y := (by rw [← hY]; exact (Below.refl _ w).al _); have BP : Blk Y w.heap.size #[.string nm, .string sy, .int .i64 dy, .int .i64 ct] 65 := (by rw [← hY]; exact Blk.new w _ _)
  have HM : Hid (Mon Y) := Lib.hid (hw.st bW hw.1)
  have CT := Lib.hid (cdate_any (dayN t) HM.out)
  have hr : dayN t = -1 ∨ 0 ≤ dayN t := by unfold dayN; split <;> omega
  have p0 := BP.cell 0 (v := .string nm) rfl; have p1 := BP.cell 1 (v := .string sy) rfl; have p2 := BP.cell 2 (v := .int .i64 dy) rfl; have p3 := BP.cell 3 (v := .int .i64 ct) rfl
  generalize dayN t = d at *
  clear hw HM
  by_cases h0 : d < 0
  · rw [if_neg (by omega : ¬ (0 ≤ d ∧ d < 795364))]
    have R : Hid ((if dy = 1 then d else if dy = 0 then -1 else -1) = -1) := Lib.hid (by split <;> (try split) <;> omega)
    rw [R.out]
    clear CT R
    go_enter Tryz.func10, Tryz.ntmps10
    go_wp2_with fail
    refine (CD.out _).mono ?_
    rintro e w' ⟨rfl, rfl⟩
    go_wp2_with fail
    go_ret
    exact ⟨rfl, bW⟩
  · by_cases hd1 : dy = 1
    · subst hd1
      rw [if_pos rfl]
      clear CT
      go_enter Tryz.func10, Tryz.ntmps10
      go_wp2_with fail
      refine (CD.out _).mono ?_
      rintro e w' ⟨rfl, rfl⟩
      go_wp2_with fail
      go_ret
      exact ⟨rfl, bW⟩
    · rw [if_neg hd1]
      have k1 : (dy == 1) = false := by simp; omega
      by_cases hd0 : dy = 0
      · subst hd0
        rw [if_pos rfl]
        by_cases h1 : d < 795364
        · rw [if_pos (by omega)]
          unfold dateV at CT
          rw [if_pos (by omega)] at CT
          have hm := month_rng (by omega : 0 ≤ d) h1
          generalize (ymd d).1 = n at *
          generalize (ymd d).2.1 = m at *
          generalize (ymd d).2.2 = r at *
          obtain ⟨hn, hm⟩ := hm
          clear hd1
          go_enter Tryz.func10, Tryz.ntmps10
          go_wp2_with fail
          refine (CD.out _).mono ?_
          rintro e w' ⟨rfl, rfl⟩
          go_wp2_with fail
          refine CT.out.mono ?_
          rintro e w' ⟨rfl, rfl⟩
          go_wp2_with fail
          go_ret
          exact ⟨ret_i (by omega), bW⟩
        · rw [if_neg (by omega)]
          unfold dateV at CT
          rw [if_neg (by omega)] at CT
          clear hd1
          go_enter Tryz.func10, Tryz.ntmps10
          go_wp2_with fail
          refine (CD.out _).mono ?_
          rintro e w' ⟨rfl, rfl⟩
          go_wp2_with fail
          refine CT.out.mono ?_
          rintro e w' ⟨rfl, rfl⟩
          go_wp2_with fail
          go_ret
          exact ⟨rfl, bW⟩
      · rw [if_neg hd0]
        have k0 : (dy == 0) = false := by simp; omega
        clear CT
        go_enter Tryz.func10, Tryz.ntmps10
        go_wp2_with fail
        refine (CD.out _).mono ?_
        rintro e w' ⟨rfl, rfl⟩
        go_wp2_with fail
        go_ret
        exact ⟨rfl, bW⟩

end Go.Proofs.YtelchfijalkibaaGreatDoor
