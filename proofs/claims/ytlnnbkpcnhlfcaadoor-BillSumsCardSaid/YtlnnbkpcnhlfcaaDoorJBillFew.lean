/- Joined texts: BillFew, Trip, BillTrip. -/
import Derived.Test.YtlnnbkpcnhlfcaaDoorJCapRMath
import Derived.Test.YtlnnbkpcnhlfcaaDoorJInts
import Derived.Test.YtlnnbkpcnhlfcaaDoorProg
import Derived.Test.YtlnnbkpcnhlfcaaDoorBase
import Derived.Test.YtlnnbkpcnhlfcaaDoorJStrEq
import Derived.Test.YtlnnbkpcnhlfcaaDoorBillDate
import Derived.Test.YtlnnbkpcnhlfcaaDoorJStabList
import Derived.Test.YtlnnbkpcnhlfcaaDoorJBox
import Derived.BigQuiet
/- few, walked. -/
set_option linter.unusedSimpArgs false
namespace Go.Proofs.YtlnnbkpcnhlfcaaDoor
open Go.RowKit Go.Lib

/-- what lies in the law's argument -/
structure BRaw (w : World) (aA : Option Addr) (ac : Nat) (acs : List Ac) (cA : Option Addr) (caps : List Cp) (A : Option Addr) (l : List Cg) : Prop where
  al : AL w aA ac acs
  cp : Rd encCp 4 w w.heap.size cA caps
  cl : CL w A l
  cpl : caps.length ≤ 9223372036854775807
  cll : l.length ≤ 9223372036854775807
theorem BRaw.st {w w' : World} {aA : Option Addr} {ac : Nat} {acs : List Ac} {cA : Option Addr} {caps : List Cp} {A : Option Addr} {l : List Cg} (h : BRaw w aA ac acs cA caps A l) (hb : Below w.heap.size w w') : BRaw w' aA ac acs cA caps A l :=
  ⟨h.al.st hb, h.cp.st hb, h.cl.st hb, h.cpl, h.cll⟩
def FwA (a : Ac) : Prop := a.v.os.length ≤ 8 ∧ (∀ o ∈ a.v.os, smO o) ∧ a.v.name.size ≤ 40
def Fw (acs : List Ac) (caps : List Cp) (l : List Cg) : Prop := acs.length ≤ 8 ∧ (∀ a ∈ acs, FwA a) ∧ caps.length ≤ 14 ∧ l.length ≤ 30 ∧ ∀ x ∈ l, x.c.lns.length ≤ 8
theorem Fw.small {acs : List Ac} {caps : List Cp} {l : List Cg} (h : Fw acs caps l) : smL acs := ⟨by have := h.1; omega, fun a ha => ⟨by have := (h.2.1 a ha).1; omega, (h.2.1 a ha).2.1⟩⟩
theorem BRaw.ok {w : World} {aA : Option Addr} {ac : Nat} {acs : List Ac} {cA : Option Addr} {caps : List Cp} {A : Option Addr} {l : List Cg} (h : BRaw w aA ac acs cA caps A l) (f : Fw acs caps l) (hm : Mon w) : BLO w aA ac acs cA caps A l :=
  ⟨h.al, f.small, h.cp, h.cl.1, fun x hx => ⟨(h.cl.2 x hx).1, by have := f.2.2.2.2 x hx; omega⟩, hm, by have := f.2.2.1; omega, by have := f.2.2.2.1; omega, fun a ha => by have := (f.2.1 a ha).2.2; omega⟩
def YesR (p : Prop) (e : Ending) : Prop := ∃ b, e = .returned (.bool b) ∧ (b = true → p)
theorem tk_all {α : Type} {p : α → Prop} {l : List α} {k : Nat} {x : α} (h : ∀ y ∈ l.take k, p y) (hx : l[k]? = some x) (hp : p x) : ∀ y ∈ l.take (k + 1), p y := by
  intro y hy
  rw [take_snoc hx] at hy
  rcases List.mem_append.1 hy with q | q
  · exact h y q
  · rw [List.mem_singleton] at q; subst q; exact hp

set_option maxRecDepth 100000 in
set_option maxHeartbeats 2000000 in
theorem few_any {aA cA A : Option Addr} {acs : List Ac} {caps : List Cp} {l : List Cg} (ac cc c : Nat) {w : World} (h : BRaw w aA ac acs cA caps A l) :
    Calls Tryd.prog 17 #[.agg #[.slice aA acs.length ac, .slice cA caps.length cc, .slice A l.length c]] w fun e w' => YesR (Fw acs caps l) e ∧ Below w.heap.size w w' := by
  obtain ⟨Y, hY⟩ : ∃ Y, w.alloc (.cells #[.slice aA acs.length ac, .slice cA caps.length cc, .slice A l.length c] 35) = Y := ⟨_, rfl⟩
  have bW : Below w.heap.size w Y := by rw [← hY]; exact (Below.refl _ w).al _
  have BA : Blk Y w.heap.size #[.slice aA acs.length ac, .slice cA caps.length cc, .slice A l.length c] 35 := by rw [← hY]; exact Blk.new w _ _
  have a0 := BA.cell 0 (v := .slice aA acs.length ac) rfl
  have a1 := BA.cell 1 (v := .slice cA caps.length cc) rfl
  have a2 := BA.cell 2 (v := .slice A l.length c) rfl
  have H := Lib.hid (h.st bW)
  have hal1 := h.al.2.2.1
  have hal2 := h.al.2.2.2
  have hcp := h.cpl
  have hcl := h.cll
  clear h BA
  go_enter Tryd.func17, Tryd.ntmps17
  go_wp2_with fail
  clear hY
  go_loopw [3] (fun i wr => ∃ k : Nat, k ≤ acs.length ∧ i = .int .i64 k ∧ Hid (∀ a ∈ acs.take k, FwA a) ∧ wr = Y) (fun i _ => acs.length - (RowKit.intOf i).toNat)
  case atStart => exact ⟨0, Nat.zero_le _, rfl, (by unfold Hid; simp), rfl⟩
  case round =>
    obtain ⟨k, hk, rfl, HQ, hw⟩ := hrel
    have hw := hw.symm
    subst hw
    have k1 : (0 : Int) ≤ (k : Int) := by omega
    by_cases hi : k < acs.length
    · have k2 : (k : Int) < (acs.length : Int) := by omega
      obtain ⟨b, off, a, hA1, hb, hx, d0, d1, d2, d3, d4, d5, d6, d7, d8⟩ := H.out.al.1.ac hi
      subst hA1
      have HK := Lib.hid hi
      have HX := Lib.hid hx
      have HA := Lib.hid (H.out.al.2.1 a (List.mem_of_getElem? hx))
      clear hx hi hb
      by_cases q1 : 40 < (a.v.name.size : Int)
      · go_wp2_with fail; go_ret; exact ⟨⟨false, rfl, fun h => by cases h⟩, bW⟩
      · by_cases q2 : 8 < (a.v.os.length : Int)
        · go_wp2_with fail; go_ret; exact ⟨⟨false, rfl, fun h => by cases h⟩, bW⟩
        · have hol : a.v.os.length ≤ 8 := by omega
          go_wp2_with fail
          go_loopw [4] (fun i wi => ∃ m : Nat, m ≤ a.v.os.length ∧ i = .int .i64 m ∧ Hid (∀ o ∈ a.v.os.take m, smO o) ∧ wi = Y) (fun i _ => a.v.os.length - (RowKit.intOf i).toNat)
          case atStart => exact ⟨0, Nat.zero_le _, rfl, (by unfold Hid; simp), rfl⟩
          case round =>
            obtain ⟨m, hm, rfl, HM, hw⟩ := hrel
            have hw := hw.symm
            subst hw
            have m1 : (0 : Int) ≤ (m : Int) := by omega
            by_cases hmi : m < a.v.os.length
            · have m2 : (m : Int) < (a.v.os.length : Int) := by omega
              obtain ⟨b3, off3, o, hA3, hb3, ho, e0, e1, e2, e3⟩ := HA.out.1.ow hmi
              have HMI := Lib.hid hmi
              have HO := Lib.hid ho
              rw [hA3] at d3
              have HA3 := Lib.hid hA3
              clear hmi ho hb3 hA3
              by_cases q3 : 40 < (o.tag.size : Int)
              · go_wp2_with fail; go_ret; exact ⟨⟨false, rfl, fun h => by cases h⟩, bW⟩
              · by_cases q4 : 40 < (o.pl.size : Int)
                · go_wp2_with fail; go_ret; exact ⟨⟨false, rfl, fun h => by cases h⟩, bW⟩
                · have R := Lib.hid (tk_all HM.out HO.out (show smO o from ⟨by omega, by omega⟩))
                  go_wp2_with fail
                  go_roundw
                  case rel => exact ⟨m + 1, HMI.out, by go_num, R, trivial⟩
                  case measure => have := HMI.out; simp [RowKit.intOf]; omega
            · obtain rfl : m = a.v.os.length := by omega
              have R := Lib.hid (tk_all HQ.out HX.out (show FwA a from ⟨hol, by have := HM.out; rwa [List.take_length] at this, by omega⟩))
              have m3 : ¬ (a.v.os.length : Int) < (a.v.os.length : Int) := by omega
              go_wp2_with fail
              go_roundw
              case rel => exact ⟨k + 1, HK.out, by go_num, R, by first | rfl | trivial⟩
              case measure => have := HK.out; simp [RowKit.intOf]; omega
    · obtain rfl : k = acs.length := by omega
      have RA : Hid (∀ a ∈ acs, FwA a) := Lib.hid (by have := HQ.out; rwa [List.take_length] at this)
      clear HQ
      go_wp2_with fail
      go_loopw [5] (fun i wi => ∃ m : Nat, m ≤ caps.length ∧ i = .int .i64 m ∧ wi = Y) (fun i _ => caps.length - (RowKit.intOf i).toNat)
      case atStart => exact ⟨0, Nat.zero_le _, rfl, by first | rfl | trivial⟩
      case round =>
        obtain ⟨m, hm, rfl, hw⟩ := hrel
        have hw := hw.symm
        subst hw
        have m1 : (0 : Int) ≤ (m : Int) := by omega
        by_cases hmi : m < caps.length
        · have m2 : (m : Int) < (caps.length : Int) := by omega
          obtain ⟨b, off, x, hA1, hb, hx, d0, d1, d2, d3⟩ := H.out.cp.cp hmi
          subst hA1
          have HMI := Lib.hid hmi
          clear hmi hx hb
          by_cases q1 : 40 < (x.name.size : Int)
          · go_wp2_with fail; go_ret; exact ⟨⟨false, rfl, fun h => by cases h⟩, bW⟩
          · by_cases q2 : 40 < (x.sys.size : Int)
            · go_wp2_with fail; go_ret; exact ⟨⟨false, rfl, fun h => by cases h⟩, bW⟩
            · go_wp2_with fail
              go_roundw
              case rel => exact ⟨m + 1, HMI.out, by go_num, by first | rfl | trivial⟩
              case measure => have := HMI.out; simp [RowKit.intOf]; omega
        · obtain rfl : m = caps.length := by omega
          go_wp2_with fail
          go_loopw [6] (fun i wi => ∃ m : Nat, m ≤ l.length ∧ i = .int .i64 m ∧ Hid (∀ x ∈ l.take m, x.c.lns.length ≤ 8) ∧ wi = Y) (fun i _ => l.length - (RowKit.intOf i).toNat)
          case atStart => exact ⟨0, Nat.zero_le _, rfl, (by unfold Hid; simp), by first | rfl | trivial⟩
          case round =>
            obtain ⟨m, hm, rfl, HM, hw⟩ := hrel
            have hw := hw.symm
            subst hw
            have m1 : (0 : Int) ≤ (m : Int) := by omega
            by_cases hmi : m < l.length
            · have m2 : (m : Int) < (l.length : Int) := by omega
              obtain ⟨b, off, x, hA1, hb, hx, d0, d1, d2, d3, d4, d5, d6⟩ := H.out.cl.1.cg hmi
              subst hA1
              have HMI := Lib.hid hmi
              have HX := Lib.hid hx
              clear hmi hx hb
              by_cases q1 : 80 < (x.c.key.size : Int)
              · go_wp2_with fail; go_ret; exact ⟨⟨false, rfl, fun h => by cases h⟩, bW⟩
              · by_cases q2 : 40 < (x.c.veh.size : Int)
                · go_wp2_with fail; go_ret; exact ⟨⟨false, rfl, fun h => by cases h⟩, bW⟩
                · by_cases q3 : 40 < (x.c.sys.size : Int)
                  · go_wp2_with fail; go_ret; exact ⟨⟨false, rfl, fun h => by cases h⟩, bW⟩
                  · by_cases q4 : 8 < (x.c.lns.length : Int)
                    · go_wp2_with fail; go_ret; exact ⟨⟨false, rfl, fun h => by cases h⟩, bW⟩
                    · have R := Lib.hid (tk_all HM.out HX.out (show x.c.lns.length ≤ 8 by omega))
                      go_wp2_with fail
                      go_roundw
                      case rel => exact ⟨m + 1, HMI.out, by go_num, R, by first | rfl | trivial⟩
                      case measure => have := HMI.out; simp [RowKit.intOf]; omega
            · obtain rfl : m = l.length := by omega
              have RL : Hid (∀ x ∈ l, x.c.lns.length ≤ 8) := Lib.hid (by have := HM.out; rwa [List.take_length] at this)
              clear HM
              by_cases q1 : (acs.length : Int) ≤ 8
              · by_cases q2 : (caps.length : Int) ≤ 14
                · by_cases q3 : (l.length : Int) ≤ 30
                  · have R := Lib.hid (show Fw acs caps l from ⟨by omega, RA.out, by omega, by omega, RL.out⟩)
                    go_wp2_with fail
                    go_ret
                    exact ⟨⟨true, rfl, fun _ => R.out⟩, bW⟩
                  · go_wp2_with fail; go_ret; exact ⟨⟨false, rfl, fun h => by cases h⟩, bW⟩
                · go_wp2_with fail; go_ret; exact ⟨⟨false, rfl, fun h => by cases h⟩, bW⟩
              · go_wp2_with fail; go_ret; exact ⟨⟨false, rfl, fun h => by cases h⟩, bW⟩
end Go.Proofs.YtlnnbkpcnhlfcaaDoor
/- Stops and trips as values. -/
namespace Go.Proofs.YtlnnbkpcnhlfcaaDoor
open Go.RowKit Go.Lib

structure Stp where
  pt : ByteArray
  t : Int
  pg : ByteArray
instance : Inhabited Stp := ⟨⟨⟨#[]⟩, 0, ⟨#[]⟩⟩⟩
def encSp (s : Stp) : List Value := [.string s.pt, .int .i64 s.t, .string s.pg]
theorem encSp_ok : Enc encSp 3 := ⟨fun _ => rfl, fun x u hu => by simp [encSp] at hu; rcases hu with rfl | rfl | rfl <;> rfl⟩
/-- a trip -/
structure Trp where
  id : ByteArray
  vh : ByteArray
  sy : ByteArray
  cl : Int
  sA : Option Addr
  sc : Nat
  ss : List Stp
def encTr (t : Trp) : List Value := [.string t.id, .string t.vh, .string t.sy, .int .i64 t.cl, .slice t.sA t.ss.length t.sc]
theorem encTr_ok : Enc encTr 5 := ⟨fun _ => rfl, fun x u hu => by simp [encTr] at hu; rcases hu with rfl | rfl | rfl | rfl | rfl <;> rfl⟩
def TrV (t : Trp) : Value := .agg #[.string t.id, .string t.vh, .string t.sy, .int .i64 t.cl, .slice t.sA t.ss.length t.sc]
def TrOk (w : World) (t : Trp) : Prop := Rd encSp 3 w w.heap.size t.sA t.ss ∧ t.ss.length ≤ 9223372036854775807
theorem TrOk.st {w w' : World} {t : Trp} (h : TrOk w t) (hb : Below w.heap.size w w') : TrOk w' t := ⟨h.1.st hb, h.2⟩
theorem Rd.tp {w : World} {B : Nat} {A : Option Addr} {l : List Trp} (h : Rd encTr 5 w B A l) {i : Nat} (hi : i < l.length) :
    ∃ b off t, A = some ⟨b, off, none⟩ ∧ b < B ∧ l[i]? = some t ∧ w.cell? ⟨b, off + i * 5, none⟩ = some (.string t.id) ∧ w.cell? ⟨b, off + i * 5 + 1, none⟩ = some (.string t.vh) ∧ w.cell? ⟨b, off + i * 5 + 2, none⟩ = some (.string t.sy) ∧ w.cell? ⟨b, off + i * 5 + 3, none⟩ = some (.int .i64 t.cl) ∧ w.cell? ⟨b, off + i * 5 + 4, none⟩ = some (.slice t.sA t.ss.length t.sc) := by
  obtain ⟨b, off, x, hA, hb, hx, hc⟩ := h.at_ hi
  exact ⟨b, off, x, hA, hb, hx, hc 0 _ rfl, hc 1 _ rfl, hc 2 _ rfl, hc 3 _ rfl, hc 4 _ rfl⟩
end Go.Proofs.YtlnnbkpcnhlfcaaDoor
/- Trips as values; bill.precedes, walked. -/
set_option linter.unusedSimpArgs false
namespace Go.Proofs.YtlnnbkpcnhlfcaaDoor
open Go.RowKit Go.Lib

def begT (t : Trp) : Int := ((t.ss[0]?).map Stp.t).getD 0
theorem begT_of {t : Trp} {s : Stp} (h : t.ss[0]? = some s) : begT t = s.t := by unfold begT; rw [h]; rfl
def preB (a b : Trp) : Bool := if begT a = begT b then sltB a.id b.id else decide (begT a < begT b)
/-- an earlier trip of the month -/
def earB (x y : Trp) : Bool := eqS y.vh x.vh && decide (y.ss ≠ []) && decide (monN (begT y) = monN (begT x)) && preB y x
def earN (l : List Trp) (x : Trp) : Nat := if x.ss = [] ∨ monN (begT x) < 0 then 0 else (l.filter (earB x)).length
/-- the first stop in memory -/
theorem TrOk.first {w : World} {t : Trp} (h : TrOk w t) (hne : t.ss ≠ []) : ∃ b off, t.sA = some ⟨b, off, none⟩ ∧ b < w.heap.size ∧ w.cell? ⟨b, off + 1, none⟩ = some (.int .i64 (begT t)) := by
  have hl : 0 < t.ss.length := List.length_pos_iff.2 hne
  obtain ⟨b, off, x, hA, hb, hx, hc⟩ := h.1.at_ hl
  refine ⟨b, off, hA, hb, ?_⟩
  rw [begT_of hx]
  have := hc 1 _ rfl
  simpa using this

set_option maxRecDepth 100000 in
set_option maxHeartbeats 2000000 in
theorem prec_any (a b : Trp) {w : World} (ha : TrOk w a) (hb : TrOk w b) (na : a.ss ≠ []) (nb : b.ss ≠ []) :
    Calls Tryd.prog 37 #[TrV a, TrV b] w fun e w' => e = .returned (.bool (preB a b)) ∧ Below w.heap.size w w' := by
  obtain ⟨b1, o1, hA1, hb1, p1⟩ := ha.first na
  obtain ⟨b2, o2, hA2, hb2, p2⟩ := hb.first nb
  have la : 0 < a.ss.length := List.length_pos_iff.2 na
  have lb : 0 < b.ss.length := List.length_pos_iff.2 nb
  have HP : Hid (preB a b = if begT a = begT b then sltB a.id b.id else decide (begT a < begT b)) := Lib.hid rfl
  generalize preB a b = pb at *
  generalize begT a = ta at *
  generalize begT b = tb at *
  obtain ⟨ia, va, ya, ca, sA, sca, sa⟩ := a
  obtain ⟨ib, vb, yb, cb, sB, scb, sb⟩ := b
  simp only [TrV] at *
  subst hA1 hA2
  obtain ⟨sA, hsA⟩ : ∃ q, q = (some ⟨b1, o1, none⟩ : Option Addr) := ⟨_, rfl⟩
  obtain ⟨sB, hsB⟩ : ∃ q, q = (some ⟨b2, o2, none⟩ : Option Addr) := ⟨_, rfl⟩
  rw [← hsA, ← hsB]
  obtain ⟨Y1, hY1⟩ : ∃ Y, w.alloc (.cells #[.string ia, .string va, .string ya, .int .i64 ca, .slice sA sa.length sca] 28) = Y := ⟨_, rfl⟩
  obtain ⟨Y2, hY2⟩ : ∃ Y, Y1.alloc (.cells #[.string ib, .string vb, .string yb, .int .i64 cb, .slice sB sb.length scb] 28) = Y := ⟨_, rfl⟩
  have s1 : Y1.heap.size = w.heap.size + 1 := by rw [← hY1]; simp
  have bW : Below w.heap.size w Y2 := by rw [← hY2, ← hY1]; exact ((Below.refl _ w).al _).al _
  have BA : Blk Y2 w.heap.size #[.string ia, .string va, .string ya, .int .i64 ca, .slice sA sa.length sca] 28 := by rw [← hY2, ← hY1]; exact (Blk.new w _ _).alloc _
  have BB : Blk Y2 (w.heap.size + 1) #[.string ib, .string vb, .string yb, .int .i64 cb, .slice sB sb.length scb] 28 := by rw [← hY2, ← s1]; exact Blk.new Y1 _ _
  have a0 := BA.cell 0 (v := .string ia) rfl
  have a4 := BA.cell 4 (v := .slice sA sa.length sca) rfl
  have e0 := BB.cell 0 (v := .string ib) rfl
  have e4 := BB.cell 4 (v := .slice sB sb.length scb) rfl
  have P1 := (bW.cell (p := ⟨b1, o1 + 1, none⟩) hb1).trans p1
  have P2 := (bW.cell (p := ⟨b2, o2 + 1, none⟩) hb2).trans p2
  subst hsA hsB
  have j1 : (0 : Int) < (sa.length : Int) := by omega
  have j2 : (0 : Int) < (sb.length : Int) := by omega
  clear ha hb na nb p1 p2 hb1 hb2 BA BB
  by_cases ht : ta = tb
  · subst ht
    have HP := Lib.hid (HP.out.trans (if_pos rfl))
    have hne : (ta != ta) = false := by simp
    have e3 := less_slt ia ib
    generalize sltB ia ib = s at *
    go_enter Tryd.func37, Tryd.ntmps37
    go_wp2_with fail
    go_quiet (fail)
    go_wp2_with fail
    go_ret
    exact ⟨by rw [HP.out]; rfl, by (try simp only [World.drewN_drewN]); exact below_drewN bW _⟩
  · have HP := Lib.hid (HP.out.trans (if_neg ht))
    have hne : (ta != tb) = true := by simp [ht]
    clear ht
    go_enter Tryd.func37, Tryd.ntmps37
    go_wp2_with fail
    go_quiet (fail)
    go_wp2_with fail
    go_quiet (fail)
    go_wp2_with fail
    go_ret
    exact ⟨by rw [HP.out]; rfl, by (try simp only [World.drewN_drewN]); exact below_drewN bW _⟩
end Go.Proofs.YtlnnbkpcnhlfcaaDoor
