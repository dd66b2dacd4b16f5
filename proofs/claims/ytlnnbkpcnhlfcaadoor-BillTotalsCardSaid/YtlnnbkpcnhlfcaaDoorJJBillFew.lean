/- Joined texts: JBillFew, JBillEar. -/
import Derived.Test.YtlnnbkpcnhlfcaaDoorJCapRMath
import Derived.Test.YtlnnbkpcnhlfcaaDoorJInts
import Derived.Test.YtlnnbkpcnhlfcaaDoorProg
import Derived.Test.YtlnnbkpcnhlfcaaDoorJRelMath
import Derived.Test.YtlnnbkpcnhlfcaaDoorJJAccMath
import Derived.Test.YtlnnbkpcnhlfcaaDoorJJBillCopy
import Derived.Test.YtlnnbkpcnhlfcaaDoorJBox
import Derived.BigQuiet
import Derived.ProofKit
import Derived.OpenShut
import Derived.ShutString
import Derived.ChangeOld
import Derived.Deep.Slices
/- Joined texts: BillFew, Trip, BillTrip. -/
/- few, walked. -/
set_option linter.unusedSimpArgs false
namespace Go.Proofs.YtlnnbkpcnhlfcaaDoor
open Go.RowKit Go.Lib

/-- what lies in the law's argument -/
structure BRaw (w : World) (aA : Option Addr) (ac : Nat) (acs : List Ac) (cA : Option Addr) (caps : List Cp) (A : Option Addr) (l : List Cg) : Prop where
  al : AL w aA ac acs
  cp : Rd encCp 4 w w.heap.size cA caps
  cl : CL w A l
  cpl : caps.length ≤ 9223372036854775807
  cll : l.length ≤ 9223372036854775807
theorem BRaw.st {w w' : World} {aA : Option Addr} {ac : Nat} {acs : List Ac} {cA : Option Addr} {caps : List Cp} {A : Option Addr} {l : List Cg} (h : BRaw w aA ac acs cA caps A l) (hb : Below w.heap.size w w') : BRaw w' aA ac acs cA caps A l :=
  ⟨h.al.st hb, h.cp.st hb, h.cl.st hb, h.cpl, h.cll⟩
def FwA (a : Ac) : Prop := a.v.os.length ≤ 8 ∧ (∀ o ∈ a.v.os, smO o) ∧ a.v.name.size ≤ 40
def Fw (acs : List Ac) (caps : List Cp) (l : List Cg) : Prop := acs.length ≤ 8 ∧ (∀ a ∈ acs, FwA a) ∧ caps.length ≤ 14 ∧ l.length ≤ 30 ∧ ∀ x ∈ l, x.c.lns.length ≤ 8
theorem Fw.small {acs : List Ac} {caps : List Cp} {l : List Cg} (h : Fw acs caps l) : smL acs := ⟨by have := h.1; omega, fun a ha => ⟨by have := (h.2.1 a ha).1; omega, (h.2.1 a ha).2.1⟩⟩
theorem BRaw.ok {w : World} {aA : Option Addr} {ac : Nat} {acs : List Ac} {cA : Option Addr} {caps : List Cp} {A : Option Addr} {l : List Cg} (h : BRaw w aA ac acs cA caps A l) (f : Fw acs caps l) (hm : Mon w) : BLO w aA ac acs cA caps A l :=
  ⟨h.al, f.small, h.cp, h.cl.1, fun x hx => ⟨(h.cl.2 x hx).1, by have := f.2.2.2.2 x hx; omega⟩, hm, by have := f.2.2.1; omega, by have := f.2.2.2.1; omega, fun a ha => by have := (f.2.1 a ha).2.2; omega⟩
def YesR (p : Prop) (e : Ending) : Prop := ∃ b, e = .returned (.bool b) ∧ (b = true → p)
theorem tk_all {α : Type} {p : α → Prop} {l : List α} {k : Nat} {x : α} (h : ∀ y ∈ l.take k, p y) (hx : l[k]? = some x) (hp : p x) : ∀ y ∈ l.take (k + 1), p y := by
  intro y hy
  rw [take_snoc hx] at hy
  rcases List.mem_append.1 hy with q | q
  · exact h y q
  · rw [List.mem_singleton] at q; subst q; exact hp

set_option maxRecDepth 100000 in
set_option maxHeartbeats 2000000 in
theorem few_any {aA cA A : Option Addr} {acs : List Ac} {caps : List Cp} {l : List Cg} (ac cc c : Nat) {w : World} (h : BRaw w aA ac acs cA caps A l) :
    Calls Tryd.prog 17 #[.agg #[.slice aA acs.length ac, .slice cA caps.length cc, .slice A l.length c]] w fun e w' => YesR (Fw acs caps l) e ∧ Below w.heap.size w w' := by
  obtain ⟨Y, hY⟩ : ∃ Y, w.alloc (.cells #[.slice aA acs.length ac, .slice cA caps.length cc, .slice A l.length c] 35) = Y := ⟨_, rfl⟩
  have bW : Below w.heap.size w Y := by rw [← hY]; exact (Below.refl _ w).al _
  have BA : Blk Y w.heap.size #[.slice aA acs.length ac, .slice cA caps.length cc, .slice A l.length c] 35 := by rw [← hY]; exact Blk.new w _ _
  have a0 := BA.cell 0 (v := .slice aA acs.length ac) rfl
  have a1 := BA.cell 1 (v := .slice cA caps.length cc) rfl
  have a2 := BA.cell 2 (v := .slice A l.length c) rfl
  have H := Lib.hid (h.st bW)
  have hal1 := h.al.2.2.1
  have hal2 := h.al.2.2.2
  have hcp := h.cpl
  have hcl := h.cll
  clear h BA
  go_enter Tryd.func17, Tryd.ntmps17
  go_wp2_with fail
  clear hY
  go_loopw [3] (fun i wr => ∃ k : Nat, k ≤ acs.length ∧ i = .int .i64 k ∧ Hid (∀ a ∈ acs.take k, FwA a) ∧ wr = Y) (fun i _ => acs.length - (RowKit.intOf i).toNat)
  case atStart => exact ⟨0, Nat.zero_le _, rfl, (by unfold Hid; simp), rfl⟩
  case round =>
    obtain ⟨k, hk, rfl, HQ, hw⟩ := hrel
    have hw := hw.symm
    subst hw
    have k1 : (0 : Int) ≤ (k : Int) := by omega
    by_cases hi : k < acs.length
    · have k2 : (k : Int) < (acs.length : Int) := by omega
      obtain ⟨b, off, a, hA1, hb, hx, d0, d1, d2, d3, d4, d5, d6, d7, d8⟩ := H.out.al.1.ac hi
      subst hA1
      have HK := Lib.hid hi
      have HX := Lib.hid hx
      have HA := Lib.hid (H.out.al.2.1 a (List.mem_of_getElem? hx))
      clear hx hi hb
      by_cases q1 : 40 < (a.v.name.size : Int)
      · go_wp2_with fail; go_ret; exact ⟨⟨false, rfl, fun h => by cases h⟩, bW⟩
      · by_cases q2 : 8 < (a.v.os.length : Int)
        · go_wp2_with fail; go_ret; exact ⟨⟨false, rfl, fun h => by cases h⟩, bW⟩
        · have hol : a.v.os.length ≤ 8 := by omega
          go_wp2_with fail
          go_loopw [4] (fun i wi => ∃ m : Nat, m ≤ a.v.os.length ∧ i = .int .i64 m ∧ Hid (∀ o ∈ a.v.os.take m, smO o) ∧ wi = Y) (fun i _ => a.v.os.length - (RowKit.intOf i).toNat)
          case atStart => exact ⟨0, Nat.zero_le _, rfl, (by unfold Hid; simp), rfl⟩
          case round =>
            obtain ⟨m, hm, rfl, HM, hw⟩ := hrel
            have hw := hw.symm
            subst hw
            have m1 : (0 : Int) ≤ (m : Int) := by omega
            by_cases hmi : m < a.v.os.length
            · have m2 : (m : Int) < (a.v.os.length : Int) := by omega
              obtain ⟨b3, off3, o, hA3, hb3, ho, e0, e1, e2, e3⟩ := HA.out.1.ow hmi
              have HMI := Lib.hid hmi
              have HO := Lib.hid ho
              rw [hA3] at d3
              have HA3 := Lib.hid hA3
              clear hmi ho hb3 hA3
              by_cases q3 : 40 < (o.tag.size : Int)
              · go_wp2_with fail; go_ret; exact ⟨⟨false, rfl, fun h => by cases h⟩, bW⟩
              · by_cases q4 : 40 < (o.pl.size : Int)
                · go_wp2_with fail; go_ret; exact ⟨⟨false, rfl, fun h => by cases h⟩, bW⟩
                · have R := Lib.hid (tk_all HM.out HO.out (show smO o from ⟨by omega, by omega⟩))
                  go_wp2_with fail
                  go_roundw
                  case rel => exact ⟨m + 1, HMI.out, by go_num, R, trivial⟩
                  case measure => have := HMI.out; simp [RowKit.intOf]; omega
            · obtain rfl : m = a.v.os.length := by omega
              have R := Lib.hid (tk_all HQ.out HX.out (show FwA a from ⟨hol, by have := HM.out; rwa [List.take_length] at this, by omega⟩))
              have m3 : ¬ (a.v.os.length : Int) < (a.v.os.length : Int) := by omega
              go_wp2_with fail
              go_roundw
              case rel => exact ⟨k + 1, HK.out, by go_num, R, by first | rfl | trivial⟩
              case measure => have := HK.out; simp [RowKit.intOf]; omega
    · obtain rfl : k = acs.length := by omega
      have RA : Hid (∀ a ∈ acs, FwA a) := Lib.hid (by have := HQ.out; rwa [List.take_length] at this)
      clear HQ
      go_wp2_with fail
      go_loopw [5] (fun i wi => ∃ m : Nat, m ≤ caps.length ∧ i = .int .i64 m ∧ wi = Y) (fun i _ => caps.length - (RowKit.intOf i).toNat)
      case atStart => exact ⟨0, Nat.zero_le _, rfl, by first | rfl | trivial⟩
      case round =>
        obtain ⟨m, hm, rfl, hw⟩ := hrel
        have hw := hw.symm
        subst hw
        have m1 : (0 : Int) ≤ (m : Int) := by omega
        by_cases hmi : m < caps.length
        · have m2 : (m : Int) < (caps.length : Int) := by omega
          obtain ⟨b, off, x, hA1, hb, hx, d0, d1, d2, d3⟩ := H.out.cp.cp hmi
          subst hA1
          have HMI := Lib.hid hmi
          clear hmi hx hb
          by_cases q1 : 40 < (x.name.size : Int)
          · go_wp2_with fail; go_ret; exact ⟨⟨false, rfl, fun h => by cases h⟩, bW⟩
          · by_cases q2 : 40 < (x.sys.size : Int)
            · go_wp2_with fail; go_ret; exact ⟨⟨false, rfl, fun h => by cases h⟩, bW⟩
            · go_wp2_with fail
              go_roundw
              case rel => exact ⟨m + 1, HMI.out, by go_num, by first | rfl | trivial⟩
              case measure => have := HMI.out; simp [RowKit.intOf]; omega
        · obtain rfl : m = caps.length := by omega
          go_wp2_with fail
          go_loopw [6] (fun i wi => ∃ m : Nat, m ≤ l.length ∧ i = .int .i64 m ∧ Hid (∀ x ∈ l.take m, x.c.lns.length ≤ 8) ∧ wi = Y) (fun i _ => l.length - (RowKit.intOf i).toNat)
          case atStart => exact ⟨0, Nat.zero_le _, rfl, (by unfold Hid; simp), by first | rfl | trivial⟩
          case round =>
            obtain ⟨m, hm, rfl, HM, hw⟩ := hrel
            have hw := hw.symm
            subst hw
            have m1 : (0 : Int) ≤ (m : Int) := by omega
            by_cases hmi : m < l.length
            · have m2 : (m : Int) < (l.length : Int) := by omega
              obtain ⟨b, off, x, hA1, hb, hx, d0, d1, d2, d3, d4, d5, d6⟩ := H.out.cl.1.cg hmi
              subst hA1
              have HMI := Lib.hid hmi
              have HX := Lib.hid hx
              clear hmi hx hb
              by_cases q1 : 80 < (x.c.key.size : Int)
              · go_wp2_with fail; go_ret; exact ⟨⟨false, rfl, fun h => by cases h⟩, bW⟩
              · by_cases q2 : 40 < (x.c.veh.size : Int)
                · go_wp2_with fail; go_ret; exact ⟨⟨false, rfl, fun h => by cases h⟩, bW⟩
                · by_cases q3 : 40 < (x.c.sys.size : Int)
                  · go_wp2_with fail; go_ret; exact ⟨⟨false, rfl, fun h => by cases h⟩, bW⟩
                  · by_cases q4 : 8 < (x.c.lns.length : Int)
                    · go_wp2_with fail; go_ret; exact ⟨⟨false, rfl, fun h => by cases h⟩, bW⟩
                    · have R := Lib.hid (tk_all HM.out HX.out (show x.c.lns.length ≤ 8 by omega))
                      go_wp2_with fail
                      go_roundw
                      case rel => exact ⟨m + 1, HMI.out, by go_num, R, by first | rfl | trivial⟩
                      case measure => have := HMI.out; simp [RowKit.intOf]; omega
            · obtain rfl : m = l.length := by omega
              have RL : Hid (∀ x ∈ l, x.c.lns.length ≤ 8) := Lib.hid (by have := HM.out; rwa [List.take_length] at this)
              clear HM
              by_cases q1 : (acs.length : Int) ≤ 8
              · by_cases q2 : (caps.length : Int) ≤ 14
                · by_cases q3 : (l.length : Int) ≤ 30
                  · have R := Lib.hid (show Fw acs caps l from ⟨by omega, RA.out, by omega, by omega, RL.out⟩)
                    go_wp2_with fail
                    go_ret
                    exact ⟨⟨true, rfl, fun _ => R.out⟩, bW⟩
                  · go_wp2_with fail; go_ret; exact ⟨⟨false, rfl, fun h => by cases h⟩, bW⟩
                · go_wp2_with fail; go_ret; exact ⟨⟨false, rfl, fun h => by cases h⟩, bW⟩
              · go_wp2_with fail; go_ret; exact ⟨⟨false, rfl, fun h => by cases h⟩, bW⟩
end Go.Proofs.YtlnnbkpcnhlfcaaDoor
/- Stops and trips as values. -/
namespace Go.Proofs.YtlnnbkpcnhlfcaaDoor
open Go.RowKit Go.Lib

structure Stp where
  pt : ByteArray
  t : Int
  pg : ByteArray
instance : Inhabited Stp := ⟨⟨⟨#[]⟩, 0, ⟨#[]⟩⟩⟩
def encSp (s : Stp) : List Value := [.string s.pt, .int .i64 s.t, .string s.pg]
theorem encSp_ok : Enc encSp 3 := ⟨fun _ => rfl, fun x u hu => by simp [encSp] at hu; rcases hu with rfl | rfl | rfl <;> rfl⟩
/-- a trip -/
structure Trp where
  id : ByteArray
  vh : ByteArray
  sy : ByteArray
  cl : Int
  sA : Option Addr
  sc : Nat
  ss : List Stp
def encTr (t : Trp) : List Value := [.string t.id, .string t.vh, .string t.sy, .int .i64 t.cl, .slice t.sA t.ss.length t.sc]
theorem encTr_ok : Enc encTr 5 := ⟨fun _ => rfl, fun x u hu => by simp [encTr] at hu; rcases hu with rfl | rfl | rfl | rfl | rfl <;> rfl⟩
def TrV (t : Trp) : Value := .agg #[.string t.id, .string t.vh, .string t.sy, .int .i64 t.cl, .slice t.sA t.ss.length t.sc]
def TrOk (w : World) (t : Trp) : Prop := Rd encSp 3 w w.heap.size t.sA t.ss ∧ t.ss.length ≤ 9223372036854775807
theorem TrOk.st {w w' : World} {t : Trp} (h : TrOk w t) (hb : Below w.heap.size w w') : TrOk w' t := ⟨h.1.st hb, h.2⟩
theorem Rd.tp {w : World} {B : Nat} {A : Option Addr} {l : List Trp} (h : Rd encTr 5 w B A l) {i : Nat} (hi : i < l.length) :
    ∃ b off t, A = some ⟨b, off, none⟩ ∧ b < B ∧ l[i]? = some t ∧ w.cell? ⟨b, off + i * 5, none⟩ = some (.string t.id) ∧ w.cell? ⟨b, off + i * 5 + 1, none⟩ = some (.string t.vh) ∧ w.cell? ⟨b, off + i * 5 + 2, none⟩ = some (.string t.sy) ∧ w.cell? ⟨b, off + i * 5 + 3, none⟩ = some (.int .i64 t.cl) ∧ w.cell? ⟨b, off + i * 5 + 4, none⟩ = some (.slice t.sA t.ss.length t.sc) := by
  obtain ⟨b, off, x, hA, hb, hx, hc⟩ := h.at_ hi
  exact ⟨b, off, x, hA, hb, hx, hc 0 _ rfl, hc 1 _ rfl, hc 2 _ rfl, hc 3 _ rfl, hc 4 _ rfl⟩
end Go.Proofs.YtlnnbkpcnhlfcaaDoor
/- Trips as values; bill.precedes, walked. -/
set_option linter.unusedSimpArgs false
namespace Go.Proofs.YtlnnbkpcnhlfcaaDoor
open Go.RowKit Go.Lib

def begT (t : Trp) : Int := ((t.ss[0]?).map Stp.t).getD 0
theorem begT_of {t : Trp} {s : Stp} (h : t.ss[0]? = some s) : begT t = s.t := by unfold begT; rw [h]; rfl
def preB (a b : Trp) : Bool := if begT a = begT b then sltB a.id b.id else decide (begT a < begT b)
/-- an earlier trip of the month -/
def earB (x y : Trp) : Bool := eqS y.vh x.vh && decide (y.ss ≠ []) && decide (monN (begT y) = monN (begT x)) && preB y x
def earN (l : List Trp) (x : Trp) : Nat := if x.ss = [] ∨ monN (begT x) < 0 then 0 else (l.filter (earB x)).length
/-- the first stop in memory -/
theorem TrOk.first {w : World} {t : Trp} (h : TrOk w t) (hne : t.ss ≠ []) : ∃ b off, t.sA = some ⟨b, off, none⟩ ∧ b < w.heap.size ∧ w.cell? ⟨b, off + 1, none⟩ = some (.int .i64 (begT t)) := by
  have hl : 0 < t.ss.length := List.length_pos_iff.2 hne
  obtain ⟨b, off, x, hA, hb, hx, hc⟩ := h.1.at_ hl
  refine ⟨b, off, hA, hb, ?_⟩
  rw [begT_of hx]
  have := hc 1 _ rfl
  simpa using this

set_option maxRecDepth 100000 in
set_option maxHeartbeats 2000000 in
theorem prec_any (a b : Trp) {w : World} (ha : TrOk w a) (hb : TrOk w b) (na : a.ss ≠ []) (nb : b.ss ≠ []) :
    Calls Tryd.prog 37 #[TrV a, TrV b] w fun e w' => e = .returned (.bool (preB a b)) ∧ Below w.heap.size w w' := by
  obtain ⟨b1, o1, hA1, hb1, p1⟩ := ha.first na
  obtain ⟨b2, o2, hA2, hb2, p2⟩ := hb.first nb
  have la : 0 < a.ss.length := List.length_pos_iff.2 na
  have lb : 0 < b.ss.length := List.length_pos_iff.2 nb
  have HP : Hid (preB a b = if begT a = begT b then sltB a.id b.id else decide (begT a < begT b)) := Lib.hid rfl
  generalize preB a b = pb at *
  generalize begT a = ta at *
  generalize begT b = tb at *
  obtain ⟨ia, va, ya, ca, sA, sca, sa⟩ := a
  obtain ⟨ib, vb, yb, cb, sB, scb, sb⟩ := b
  simp only [TrV] at *
  subst hA1 hA2
  obtain ⟨sA, hsA⟩ : ∃ q, q = (some ⟨b1, o1, none⟩ : Option Addr) := ⟨_, rfl⟩
  obtain ⟨sB, hsB⟩ : ∃ q, q = (some ⟨b2, o2, none⟩ : Option Addr) := ⟨_, rfl⟩
  rw [← hsA, ← hsB]
  obtain ⟨Y1, hY1⟩ : ∃ Y, w.alloc (.cells #[.string ia, .string va, .string ya, .int .i64 ca, .slice sA sa.length sca] 28) = Y := ⟨_, rfl⟩
  obtain ⟨Y2, hY2⟩ : ∃ Y, Y1.alloc (.cells #[.string ib, .string vb, .string yb, .int .i64 cb, .slice sB sb.length scb] 28) = Y := ⟨_, rfl⟩
  have s1 : Y1.heap.size = w.heap.size + 1 := by rw [← hY1]; simp
  have bW : Below w.heap.size w Y2 := by rw [← hY2, ← hY1]; exact ((Below.refl _ w).al _).al _
  have BA : Blk Y2 w.heap.size #[.string ia, .string va, .string ya, .int .i64 ca, .slice sA sa.length sca] 28 := by rw [← hY2, ← hY1]; exact (Blk.new w _ _).alloc _
  have BB : Blk Y2 (w.heap.size + 1) #[.string ib, .string vb, .string yb, .int .i64 cb, .slice sB sb.length scb] 28 := by rw [← hY2, ← s1]; exact Blk.new Y1 _ _
  have a0 := BA.cell 0 (v := .string ia) rfl
  have a4 := BA.cell 4 (v := .slice sA sa.length sca) rfl
  have e0 := BB.cell 0 (v := .string ib) rfl
  have e4 := BB.cell 4 (v := .slice sB sb.length scb) rfl
  have P1 := (bW.cell (p := ⟨b1, o1 + 1, none⟩) hb1).trans p1
  have P2 := (bW.cell (p := ⟨b2, o2 + 1, none⟩) hb2).trans p2
  subst hsA hsB
  have j1 : (0 : Int) < (sa.length : Int) := by omega
  have j2 : (0 : Int) < (sb.length : Int) := by omega
  clear ha hb na nb p1 p2 hb1 hb2 BA BB
  by_cases ht : ta = tb
  · subst ht
    have HP := Lib.hid (HP.out.trans (if_pos rfl))
    have hne : (ta != ta) = false := by simp
    have e3 := less_slt ia ib
    generalize sltB ia ib = s at *
    go_enter Tryd.func37, Tryd.ntmps37
    go_wp2_with fail
    go_quiet (fail)
    go_wp2_with fail
    go_ret
    exact ⟨by rw [HP.out]; rfl, by (try simp only [World.drewN_drewN]); exact below_drewN bW _⟩
  · have HP := Lib.hid (HP.out.trans (if_neg ht))
    have hne : (ta != tb) = true := by simp [ht]
    clear ht
    go_enter Tryd.func37, Tryd.ntmps37
    go_wp2_with fail
    go_quiet (fail)
    go_wp2_with fail
    go_quiet (fail)
    go_wp2_with fail
    go_ret
    exact ⟨by rw [HP.out]; rfl, by (try simp only [World.drewN_drewN]); exact below_drewN bW _⟩
end Go.Proofs.YtlnnbkpcnhlfcaaDoor
/- Joined texts: BillEar, Open. -/
/- bill.Earlier, walked. -/
set_option linter.unusedSimpArgs false
namespace Go.Proofs.YtlnnbkpcnhlfcaaDoor
open Go.RowKit Go.Lib

theorem earN_tk {l : List Trp} {x y : Trp} {k : Nat} (hy : l[k]? = some y) : ((l.take (k + 1)).filter (earB x)).length = ((l.take k).filter (earB x)).length + if earB x y = true then 1 else 0 := by
  rw [take_snoc hy, List.filter_append, List.length_append]
  cases h : earB x y <;> simp [List.filter_cons, h]
def TrsOk (w : World) (l : List Trp) : Prop := ∀ t ∈ l, TrOk w t
theorem TrsOk.st {w w' : World} {l : List Trp} (h : TrsOk w l) (hb : Below w.heap.size w w') : TrsOk w' l := fun t ht => (h t ht).st hb
theorem ss_zero {t : Trp} (h : t.ss = []) : ((t.ss.length : Int) == 0) = true ∧ ¬ (0 : Int) < t.ss.length := by rw [h]; simp
theorem ss_pos {t : Trp} (h : t.ss ≠ []) : ((t.ss.length : Int) == 0) = false ∧ (0 : Int) < t.ss.length := by
  have := List.length_pos_iff.2 h
  exact ⟨by rw [beq_eq_false_iff_ne]; omega, by omega⟩
set_option maxRecDepth 100000 in
set_option maxHeartbeats 2000000 in
theorem earlier_any {A : Option Addr} (c : Nat) {l : List Trp} (x : Trp) {w : World} (hr : Rd encTr 5 w w.heap.size A l) (hok : TrsOk w l) (hx : TrOk w x) (hm : Mon w) (hl : l.length ≤ 1000) :
    Calls Tryd.prog 15 #[.slice A l.length c, TrV x] w fun e w' => e = .returned (.int .i64 (earN l x)) ∧ Below w.heap.size w w' := by
  have H := Lib.hid hr
  have HO := Lib.hid hok
  have HX := Lib.hid hx
  have HM := Lib.hid hm
  have HN : Hid (earN l x = if x.ss = [] ∨ monN (begT x) < 0 then 0 else (l.filter (earB x)).length) := Lib.hid rfl
  have HV : Hid (TrV x = .agg #[.string x.id, .string x.vh, .string x.sy, .int .i64 x.cl, .slice x.sA x.ss.length x.sc]) := Lib.hid rfl
  obtain ⟨rn, hrn⟩ : ∃ n, earN l x = n := ⟨_, rfl⟩
  rw [hrn] at HN ⊢
  rw [HV.out]
  clear hr hok hm hrn
  by_cases hne : x.ss = []
  · have R := Lib.hid (HN.out.trans (if_pos (.inl hne)))
    have hz := ss_zero hne
    clear HN
    obtain ⟨xi, xv, xy, xc, xA, xd, xs⟩ := x
    simp only at *
    obtain ⟨Y, hY⟩ : ∃ Y, w.alloc (.cells #[.string xi, .string xv, .string xy, .int .i64 xc, .slice xA xs.length xd] 28) = Y := ⟨_, rfl⟩
    have BX : Blk Y w.heap.size #[.string xi, .string xv, .string xy, .int .i64 xc, .slice xA xs.length xd] 28 := by rw [← hY]; exact Blk.new w _ _
    have bW : Below w.heap.size w Y := by rw [← hY]; exact (Below.refl _ w).al _
    have x4 := BX.cell 4 (v := .slice xA xs.length xd) rfl
    obtain ⟨hz1, hz2⟩ := hz
    clear hne
    go_enter Tryd.func15, Tryd.ntmps15
    go_wp2_with fail
    go_ret
    exact ⟨by rw [R.out]; rfl, bW⟩
  · obtain ⟨b1, o1, hA1, hb1, p1⟩ := hx.first hne
    have HNE := Lib.hid hne
    obtain ⟨hz1, hz2⟩ := ss_pos hne
    have HEB := Lib.hid (fun (y : Trp) => show earB x y = (eqS y.vh x.vh && decide (y.ss ≠ []) && decide (monN (begT y) = monN (begT x)) && preB y x) from rfl)
    have HTK := Lib.hid (fun (k : Nat) (y : Trp) (hy : l[k]? = some y) => earN_tk (x := x) hy)
    have HPR := Lib.hid (fun (y : Trp) (W : World) (h1 : TrOk W y) (h2 : TrOk W x) (h3 : y.ss ≠ []) => prec_any y x h1 h2 h3 HNE.out)
    have HCM := Lib.hid (fun (t : Int) (W : World) (hW : Mon W) => month_any t hW)
    have HCL : Hid (rn = if monN (begT x) < 0 then 0 else (l.filter (earB x)).length) := Lib.hid (by rw [HN.out]; simp [HNE.out])
    have HFL := Lib.hid (fun (k : Nat) => show ((l.take k).filter (earB x)).length ≤ 1000 by
      have := List.length_filter_le (earB x) (l.take k)
      rw [List.length_take] at this; omega)
    have HFA : Hid (l.take l.length = l) := Lib.hid List.take_length
    have HF0 : Hid (((l.take 0).filter (earB x)).length = 0) := Lib.hid (by simp)
    generalize hcnt : (fun k => ((l.take k).filter (earB x)).length) = cnt
    have HCN := Lib.hid (fun k => congrFun hcnt k)
    clear hcnt HN hne
    simp only [HV.out] at HPR
    obtain ⟨xi, xv, xy, xc, xA, xd, xs⟩ := x
    simp only at *
    obtain ⟨bx, hbx⟩ : ∃ t, begT (⟨xi, xv, xy, xc, xA, xd, xs⟩ : Trp) = t := ⟨_, rfl⟩
    rw [hbx] at p1 HCL
    simp only [hbx] at HEB
    subst hA1
    obtain ⟨xA, hxA⟩ : ∃ q, q = (some ⟨b1, o1, none⟩ : Option Addr) := ⟨_, rfl⟩
    obtain ⟨Y, hY⟩ : ∃ Y, w.alloc (.cells #[.string xi, .string xv, .string xy, .int .i64 xc, .slice (some ⟨b1, o1, none⟩) xs.length xd] 28) = Y := ⟨_, rfl⟩
    have BX : Blk Y w.heap.size #[.string xi, .string xv, .string xy, .int .i64 xc, .slice (some ⟨b1, o1, none⟩) xs.length xd] 28 := by rw [← hY]; exact Blk.new w _ _
    have bW : Below w.heap.size w Y := by rw [← hY]; exact (Below.refl _ w).al _
    have s1 : Y.heap.size = w.heap.size + 1 := by rw [← hY]; simp
    have x4 := BX.cell 4 (v := .slice (some ⟨b1, o1, none⟩) xs.length xd) rfl
    have P1 := (bW.cell (p := ⟨b1, o1 + 1, none⟩) hb1).trans p1
    have CM := Lib.hid (HCM.out bx Y (HM.out.st bW HM.out.1))
    have HBX := Lib.hid BX
    have HbW := Lib.hid bW
    generalize monN bx = mx at *
    clear hxA xA hbx BX bW
    go_enter Tryd.func15, Tryd.ntmps15
    go_wp2_with fail
    refine CM.out.mono ?_
    rintro e w' ⟨rfl, hw'⟩
    rw [hw']
    clear hw' w' CM
    by_cases hmx : mx < 0
    · have R := Lib.hid (HCL.out.trans (if_pos hmx))
      go_wp2_with fail
      go_ret
      exact ⟨by rw [R.out]; rfl, HbW.out⟩
    · have R := Lib.hid (HCL.out.trans (if_neg hmx))
      clear HCL hY x4 P1
      go_wp2_with fail
      go_loopw [6, 23] (fun v i wr => ∃ k : Nat, k ≤ l.length ∧ i = .int .i64 k ∧ v = .int .i64 (cnt k) ∧ Below (w.heap.size + 1) Y wr) (fun _ i _ => l.length - (RowKit.intOf i).toNat)
      case atStart => exact ⟨0, Nat.zero_le _, rfl, by rw [← HCN.out 0, HF0.out]; rfl, by rw [← s1]; exact Below.refl _ _⟩
      case round =>
        obtain ⟨k, hk, rfl, rfl, bY⟩ := hrel
        have hc0 : cnt k ≤ 1000 := by rw [← HCN.out k]; exact HFL.out k
        by_cases hi : k < l.length
        · have bW : Below w.heap.size w wr := HbW.out.trans (bY.mono (by omega))
          obtain ⟨b, off, y, rfl, hb, hy, d0, d1, d2, d3, d4⟩ := (H.out.st bW).tp hi
          have HK := Lib.hid hi
          have hym := List.mem_of_getElem? hy
          have HOY := Lib.hid (fun (X : World) (hX : Below w.heap.size w X) => (HO.out.st hX) y hym)
          have HPY := Lib.hid (fun (X : World) (hX : Below w.heap.size w X) (h : y.ss ≠ []) => HPR.out y X ((HO.out.st hX) y hym) (HX.out.st hX) h)
          have HE := Lib.hid (HEB.out y)
          have HCT := Lib.hid ((HTK.out k y hy))
          rw [HE.out] at HCT
          have HCT : Hid (cnt (k + 1) = cnt k + if (eqS y.vh xv && decide (y.ss ≠ []) && decide (monN (begT y) = mx) && preB y ⟨xi, xv, xy, xc, some ⟨b1, o1, none⟩, xd, xs⟩) = true then 1 else 0) := Lib.hid (by rw [← HCN.out (k + 1), ← HCN.out k]; exact HCT.out)
          have HZ0 := Lib.hid (fun (h : y.ss = []) => ss_zero h)
          have HZ1 := Lib.hid (fun (h : y.ss ≠ []) => ss_pos h)
          have HFI := Lib.hid (fun (X : World) (hX : Below w.heap.size w X) (h : y.ss ≠ []) => (((HO.out.st hX) y hym)).first h)
          generalize preB y ⟨xi, xv, xy, xc, some ⟨b1, o1, none⟩, xd, xs⟩ = pb at *
          obtain ⟨by1, hby⟩ : ∃ t, begT y = t := ⟨_, rfl⟩
          rw [hby] at HCT HFI
          have CMY := Lib.hid (fun (W : World) (hW : Mon W) => HCM.out by1 W hW)
          generalize monN by1 = my at *
          clear hby HE HOY hym hy hi
          obtain ⟨yi, yv, yy, yc, yA, yd, ys⟩ := y
          simp only [TrV] at *
          have hsz : w.heap.size + 1 ≤ wr.heap.size := by have := bY.size; omega
          obtain ⟨Y2, hY2⟩ : ∃ Y, wr.alloc (.cells #[.string yi, .string yv, .string yy, .int .i64 yc, .slice yA ys.length yd] 28) = Y := ⟨_, rfl⟩
          have BY : Blk Y2 wr.heap.size #[.string yi, .string yv, .string yy, .int .i64 yc, .slice yA ys.length yd] 28 := by rw [← hY2]; exact Blk.new wr _ _
          have b2 : Below wr.heap.size wr Y2 := by rw [← hY2]; exact (Below.refl _ wr).al _
          have bY2 := bY.trans (b2.mono hsz)
          have bW2 := bW.st b2
          have BX := HBX.out.below bY2 (by omega)
          have x0 := BX.cell 0 (v := .string xi) rfl
          have x1 := BX.cell 1 (v := .string xv) rfl
          have x2 := BX.cell 2 (v := .string xy) rfl
          have x3 := BX.cell 3 (v := .int .i64 xc) rfl
          have x4 := BX.cell 4 (v := .slice (some ⟨b1, o1, none⟩) xs.length xd) rfl
          have y0 := BY.cell 0 (v := .string yi) rfl
          have y1 := BY.cell 1 (v := .string yv) rfl
          have y2 := BY.cell 2 (v := .string yy) rfl
          have y3 := BY.cell 3 (v := .int .i64 yc) rfl
          have y4 := BY.cell 4 (v := .slice yA ys.length yd) rfl
          clear b2 bY bW
          cases he : eqS yv xv
          · have R : Hid (cnt (k + 1) = cnt k) := Lib.hid (by rw [HCT.out, he]; simp)
            have he2 : (yv.toList == xv.toList) = false := he
            clear HCT he
            go_wp2_with fail
            go_roundw
            case rel => exact ⟨k + 1, HK.out, by go_num, by rw [R.out], bY2⟩
            case measure => have := HK.out; simp [RowKit.intOf]; omega
          · have he2 : (yv.toList == xv.toList) = true := he
            by_cases hys : ys = []
            · have R : Hid (cnt (k + 1) = cnt k) := Lib.hid (by rw [HCT.out, decide_eq_false (by simpa using hys)]; simp)
              obtain ⟨z1, z2⟩ := HZ0.out hys
              clear HCT he hys
              go_wp2_with fail
              go_roundw
              case rel => exact ⟨k + 1, HK.out, by go_num, by rw [R.out], bY2⟩
              case measure => have := HK.out; simp [RowKit.intOf]; omega
            · obtain ⟨z1, z2⟩ := HZ1.out hys
              obtain ⟨b2, o2, hA2, hb2, p2⟩ := HFI.out Y2 bW2 hys
              have HYS := Lib.hid hys
              subst hA2
              have CM2 := Lib.hid (CMY.out Y2 (HM.out.st bW2 HM.out.1))
              clear hys hb2
              by_cases hmm : my = mx
              · have hmd : (my == mx) = true := by simp [hmm]
                have CP := Lib.hid (HPY.out Y2 bW2 HYS.out)
                cases pb
                · have R : Hid (cnt (k + 1) = cnt k) := Lib.hid (by rw [HCT.out]; simp)
                  clear HCT he hmm
                  go_wp2_with (first | (go_at_call 12; with_reducible refine (CM2.out).mono ?_; rintro e w' ⟨rfl, hw'⟩; rw [hw']; clear hw' w'))
                  refine CP.out.mono ?_
                  rintro e w5 ⟨rfl, hbn⟩
                  have bY5 := bY2.trans (hbn.mono (by have := bY2.size; omega))
                  clear hbn CP
                  go_wp2_with fail
                  go_roundw
                  case rel => exact ⟨k + 1, HK.out, by go_num, by rw [R.out], bY5⟩
                  case measure => have := HK.out; simp [RowKit.intOf]; omega
                · have R : Hid (cnt (k + 1) = cnt k + 1) := Lib.hid (by rw [HCT.out, he, decide_eq_true (by simpa using HYS.out), decide_eq_true hmm]; rfl)
                  clear HCT he hmm
                  go_wp2_with (first | (go_at_call 12; with_reducible refine (CM2.out).mono ?_; rintro e w' ⟨rfl, hw'⟩; rw [hw']; clear hw' w'))
                  refine CP.out.mono ?_
                  rintro e w5 ⟨rfl, hbn⟩
                  have bY5 := bY2.trans (hbn.mono (by have := bY2.size; omega))
                  clear hbn CP
                  go_wp2_with fail
                  go_roundw
                  case rel => exact ⟨k + 1, HK.out, by go_num, by rw [R.out]; go_num, bY5⟩
                  case measure => have := HK.out; simp [RowKit.intOf]; omega
              · have hmd : (my == mx) = false := by simp [hmm]
                have R : Hid (cnt (k + 1) = cnt k) := Lib.hid (by rw [HCT.out, decide_eq_false hmm]; simp)
                clear HCT he hmm
                go_wp2_with (first | (go_at_call 12; with_reducible refine (CM2.out).mono ?_; rintro e w' ⟨rfl, hw'⟩; rw [hw']; clear hw' w'))
                go_roundw
                case rel => exact ⟨k + 1, HK.out, by go_num, by rw [R.out], bY2⟩
                case measure => have := HK.out; simp [RowKit.intOf]; omega
        · obtain rfl : k = l.length := by omega
          have R2 := Lib.hid (show rn = cnt l.length by rw [R.out, ← HCN.out l.length]; simp only [HFA.out])
          go_wp2_with fail
          go_ret
          exact ⟨by rw [R2.out]; rfl, HbW.out.trans (bY.mono (by omega))⟩
end Go.Proofs.YtlnnbkpcnhlfcaaDoor
/- Arguments opened: from the row's reading to lists (Rd). -/
namespace Go.Proofs.YtlnnbkpcnhlfcaaDoor
open Go.ChangeShapes Go.WideShapes Go.ChangeAt Go.RowKit Go.Lib Go.Deep

section
variable {H : Type} {encH : TypeId × Value → H} {P : Program} {w : World} {base : Nat} {spare : Nat → Bool} {held : Bool} {α : Type} {enc : α → List Value} {k t e : Nat}

theorem cell_lt {a : Addr} {v : Value} (h : w.cell? a = some v) : a.block < w.heap.size := by
  rcases Nat.lt_or_ge a.block w.heap.size with hlt | hge
  · exact hlt
  · unfold World.cell? at h
    rw [Array.getElem?_eq_none hge] at h
    cases h
theorem add_lit' (a : Addr) (i : Nat) (ha : a.spot = none) : a.add i = ⟨a.block, a.off + i, none⟩ := by
  obtain ⟨b, off, spot⟩ := a
  simp only at ha
  subst ha
  unfold Addr.add
  split <;> simp_all
theorem add_add' (a : Addr) (i j : Nat) : (a.add i).add j = a.add (i + j) := by
  unfold Addr.add
  by_cases hi : i = 0 <;> by_cases hj : j = 0 <;> simp [hi, hj, Nat.add_assoc]

/-- how the cells of one element are opened: they are the code of some x with OK x -/
def Opens (encH : TypeId × Value → H) (P : Program) (w : World) (base : Nat) (spare : Nat → Bool) (held : Bool) (e : Nat) (enc : α → List Value) (OK : α → Prop) : Prop :=
  ∀ (fuel : Nat) (cs : List Value) (x : DataW H × List MemPlace), DataW.trod encH P w base spare held fuel e cs = some x → ∃ a : α, cs = enc a ∧ OK a

theorem open_list {OK : α → Prop} (ht : P.underlying t = some (.slice e)) (hC : P.cellsOf e = k) (hk0 : 0 < k) (hE : ∀ x, (enc x).length = k) (ho : Opens encH P w base spare held e enc OK)
    {fuel : Nat} {cs : List Value} {x : DataW H × List MemPlace} (h : DataW.trod encH P w base spare held fuel t cs = some x) :
    ∃ (A : Option Addr) (cap : Nat) (l : List α), cs = [.slice A l.length cap] ∧ l.length ≤ cap ∧ cap ≤ maxLen ∧ Rd enc k w w.heap.size A l ∧ ∀ a ∈ l, OK a := by
  rcases open_slice ht h with ⟨rfl, _⟩ | ⟨a, len, cap, m, n, D, Pl, rfl, _, hlc, hcm, hmm, _, hi⟩
  · exact ⟨none, 0, [], rfl, Nat.le_refl _, Nat.zero_le _, Rd.nil, by simp⟩
  · have hlm : len ≤ m := by rw [hmm]; split <;> omega
    have hel : ∀ i, i < len → ∃ y : α, OK y ∧ ∀ j u, (enc y)[j]? = some u → w.cell? (a.add (i * k + j)) = some u := by
      intro i hil
      obtain ⟨cs', hc, ht'⟩ := hi i (by omega)
      obtain ⟨y, hy, hok⟩ := ho _ _ _ ht'
      obtain ⟨_, hcl, hat⟩ := World.cells?_some hc
      refine ⟨y, hok, fun j u hu => ?_⟩
      have hj : j < k := by have := (List.getElem?_eq_some_iff.1 hu).1; rwa [hE] at this
      have := hat j (by rw [hC]; exact hj)
      rw [add_add', hC] at this
      rw [this, hy]
      exact hu
    obtain ⟨f, hf⟩ : ∃ f : (i : Nat) → i < len → α, ∀ i hi, OK (f i hi) ∧ ∀ j u, (enc (f i hi))[j]? = some u → w.cell? (a.add (i * k + j)) = some u :=
      ⟨fun i hi => (hel i hi).choose, fun i hi => (hel i hi).choose_spec⟩
    let l : List α := (List.finRange len).map fun i => f i.1 i.2
    have hl : l.length = len := by simp [l]
    refine ⟨some a, cap, l, by rw [hl], by rw [hl]; exact hlc, hcm, ?_, ?_⟩
    · intro hne
      have h0 : 0 < len := by
        rcases Nat.eq_zero_or_pos len with h0 | h0
        · exact absurd (List.eq_nil_of_length_eq_zero (by rw [hl]; exact h0)) hne
        · exact h0
      have hc0 : ∃ u, w.cell? (a.add 0) = some u := by
        have hl0 : 0 < (enc (f 0 h0)).length := by rw [hE]; exact hk0
        exact ⟨_, by simpa using (hf 0 h0).2 0 _ (List.getElem?_eq_getElem hl0)⟩
      obtain ⟨u0, hu0⟩ := hc0
      rw [show a.add 0 = a by simp [Addr.add]] at hu0
      have hsp := World.cell?_spot hu0
      have hb := cell_lt hu0
      refine ⟨a.block, a.off, by obtain ⟨b, o, s⟩ := a; simp only at hsp; subst hsp; rfl, hb, fun i x hx j u hu => ?_⟩
      have hil : i < len := by have := (List.getElem?_eq_some_iff.1 hx).1; rwa [hl] at this
      have hxe : x = f i hil := by
        have := (List.getElem?_eq_some_iff.1 hx).2
        rw [← this]
        simp [l]
      subst hxe
      have := (hf i hil).2 j u hu
      rw [add_lit' a _ hsp, ← Nat.add_assoc] at this
      exact this
    · intro y hy
      simp only [l, List.mem_map] at hy
      obtain ⟨i, _, rfl⟩ := hy
      exact (hf i.1 i.2).1

/-- a struct's cells, part by part -/
theorem pieces (cs : List Value) (o s o' : Nat) (h : o' = o + s) : cs.drop o = (cs.drop o).take s ++ cs.drop o' := by
  subst h
  rw [← List.drop_drop, List.take_append_drop]
end
end Go.Proofs.YtlnnbkpcnhlfcaaDoor
