/- Joined texts: NetRight, Open, OpenS. -/
import Derived.Test.YtcpfiiapfggmpaaGreatNetTaC
import Derived.Test.YtcpfiiapfggmpaaGreatJTrpScR
import Derived.Test.YtcpfiiapfggmpaaGreatJDisAll
import Derived.Test.YtcpfiiapfggmpaaGreatJZoneAllMath
import Derived.Test.YtcpfiiapfggmpaaGreatBase
import Derived.ProofKit
import Derived.OpenShut
import Derived.ShutString
import Derived.ChangeOld
import Derived.Deep.Slices
import Derived.SizedLaws
/- The law's right and short, walked. -/
set_option linter.unusedSimpArgs false
set_option linter.unusedSimpArgs false
namespace Go.Proofs.YtcpfiiapfggmpaaGreat
open Go.RowKit Go.Lib

/-- what the law asks of a configuration's memory -/
structure CfOk (w : World) (pA lA sA tA uA dA qA kA zA : Option Addr) (pts : List Pt) (lks : List Lk) (sys : List Sy) (ts : List Ta) (us ds qs : List Int) (dcs : List Dc) (zs : List Zn) (sc : Nat) : Prop where
  top : TOk w pA lA sA pts lks sys
  sc : sys.length ≤ sc
  t : Rd encTa 4 w w.heap.size tA ts
  ta : ∀ x ∈ ts, TaOk w x
  u : Rd encI 1 w w.heap.size uA us
  d : Rd encI 1 w w.heap.size dA ds
  q : Rd encI 1 w w.heap.size qA qs
  ql : qs.length ≤ 9223372036854775807
  k : Rd encDc 10 w w.heap.size kA dcs
  z : Rd encZ 7 w w.heap.size zA zs
  zo : ZsOk w zs
  zl : zs.length ≤ 9223372036854775807
theorem CfOk.st {w w' : World} {pA lA sA tA uA dA qA kA zA : Option Addr} {pts : List Pt} {lks : List Lk} {sys : List Sy} {ts : List Ta} {us ds qs : List Int} {dcs : List Dc} {zs : List Zn} {sc : Nat} (h : CfOk w pA lA sA tA uA dA qA kA zA pts lks sys ts us ds qs dcs zs sc) (hb : Below w.heap.size w w') : CfOk w' pA lA sA tA uA dA qA kA zA pts lks sys ts us ds qs dcs zs sc :=
  ⟨h.top.st hb, h.sc, h.t.st hb, fun x hx => (h.ta x hx).st hb, h.u.st hb, h.d.st hb, h.q.st hb, h.ql, h.k.st hb, h.z.st hb, h.zo.st hb, h.zl⟩
/-- a bool is returned, and what it says -/
def YesB (p : Prop) (e : Ending) : Prop := ∃ b : Bool, e = .returned (.bool b) ∧ (b = true → p)
/-- what right tells -/
def RightB (zs : List Zn) : Prop := zs.length ≤ 6 ∧ ∀ z ∈ zs, z.hs.length ≤ 8 ∧ z.ss.length ≤ 8
def RightT (ts : List Ta) : Prop := ts.length ≤ 6 ∧ ∀ y ∈ ts, y.rs.length ≤ 60 ∧ y.bs.length ≤ 8

/-- all that right tells -/
structure RightA (pe : Int) (us ds qs : List Int) (ts : List Ta) (dcs : List Dc) (zs : List Zn) : Prop where
  b : RightB zs
  t : RightT ts
  c : ∀ x ∈ ts, ∀ y ∈ x.rs, RtC y
  k : LOk dcs
  s : ScOk pe us ds qs
set_option maxRecDepth 100000 in
set_option maxHeartbeats 16000000 in
theorem right3_any {pA lA sA tA uA dA qA kA zA : Option Addr} (pc lc sc tc uc dc qc kc zc : Nat) (pe : Int) (o3 o4 o5 o6 o7 o14 o16 o17 o18 o19 o20 o21 o22 o23 o24 : Value) {pts : List Pt} {lks : List Lk} {sys : List Sy} {ts : List Ta} {us ds qs : List Int} {dcs : List Dc} {zs : List Zn} {w : World}
    (h : CfOk w pA lA sA tA uA dA qA kA zA pts lks sys ts us ds qs dcs zs sc) :
    Calls Tryz.prog 8 #[.agg #[.slice pA pts.length pc, .slice lA lks.length lc, .slice sA sys.length sc, o3, o4, o5, o6, o7, .slice tA ts.length tc, .int .i64 pe, .slice uA us.length uc, .slice dA ds.length dc, .slice qA qs.length qc, .slice kA dcs.length kc, o14, .slice zA zs.length zc, o16, o17, o18, o19, o20, o21, o22, o23, o24]] w fun e w' => YesB (RightA pe us ds qs ts dcs zs) e ∧ Below w.heap.size w w' := by
  obtain ⟨Y, hY⟩ : ∃ Y, w.alloc (.cells #[.slice pA pts.length pc, .slice lA lks.length lc, .slice sA sys.length sc, o3, o4, o5, o6, o7, .slice tA ts.length tc, .int .i64 pe, .slice uA us.length uc, .slice dA ds.length dc, .slice qA qs.length qc, .slice kA dcs.length kc, o14, .slice zA zs.length zc, o16, o17, o18, o19, o20, o21, o22, o23, o24] 46) = Y := ⟨_, rfl⟩
  have bW : Below w.heap.size w Y := by rw [← hY]; exact (Below.refl _ w).al _
  have BP : Blk Y w.heap.size #[.slice pA pts.length pc, .slice lA lks.length lc, .slice sA sys.length sc, o3, o4, o5, o6, o7, .slice tA ts.length tc, .int .i64 pe, .slice uA us.length uc, .slice dA ds.length dc, .slice qA qs.length qc, .slice kA dcs.length kc, o14, .slice zA zs.length zc, o16, o17, o18, o19, o20, o21, o22, o23, o24] 46 := by rw [← hY]; exact Blk.new w _ _
  have H := Lib.hid h
  have C1 := Lib.hid (fun (X : World) (hX : Below w.heap.size w X) => topchk_any pc lc sc (h.st hX).top h.sc)
  have C2 := Lib.hid (fun (X : World) (hX : Below w.heap.size w X) => tall_any pc lc sc tc (h.st hX).top h.sc (h.st hX).t (h.st hX).ta)
  have C3 := Lib.hid (fun (X : World) (hX : Below w.heap.size w X) => scale2_any uc dc qc pe (h.st hX).u (h.st hX).d (h.st hX).q h.ql)
  have C4 := Lib.hid (fun (X : World) (hX : Below w.heap.size w X) => dall2_any kc (h.st hX).k)
  have C5 := Lib.hid (fun (X : World) (hX : Below w.heap.size w X) => rall_any zc (h.st hX).z (h.st hX).zo h.zl)
  have g0 := BP.cell 0 (v := .slice pA pts.length pc) rfl; have g1 := BP.cell 1 (v := .slice lA lks.length lc) rfl; have g2 := BP.cell 2 (v := .slice sA sys.length sc) rfl; have g8 := BP.cell 8 (v := .slice tA ts.length tc) rfl; have g9 := BP.cell 9 (v := .int .i64 pe) rfl; have g10 := BP.cell 10 (v := .slice uA us.length uc) rfl; have g11 := BP.cell 11 (v := .slice dA ds.length dc) rfl; have g12 := BP.cell 12 (v := .slice qA qs.length qc) rfl; have g13 := BP.cell 13 (v := .slice kA dcs.length kc) rfl; have g15 := BP.cell 15 (v := .slice zA zs.length zc) rfl
  clear h
  by_cases q1 : 16 < pts.length
  · have q2 : (16 : Int) < (pts.length : Int) := by omega
    go_enter Tryz.func8, Tryz.ntmps8
    go_wp2_with fail; go_ret; exact ⟨⟨false, rfl, fun q => by cases q⟩, bW⟩
  have q2 : ¬ (16 : Int) < (pts.length : Int) := by omega
  by_cases q3 : 40 < lks.length
  · have q4 : (40 : Int) < (lks.length : Int) := by omega
    go_enter Tryz.func8, Tryz.ntmps8
    go_wp2_with fail; go_ret; exact ⟨⟨false, rfl, fun q => by cases q⟩, bW⟩
  have q4 : ¬ (40 : Int) < (lks.length : Int) := by omega
  by_cases q5 : 8 < sys.length
  · have q6 : (8 : Int) < (sys.length : Int) := by omega
    go_enter Tryz.func8, Tryz.ntmps8
    go_wp2_with fail; go_ret; exact ⟨⟨false, rfl, fun q => by cases q⟩, bW⟩
  have q6 : ¬ (8 : Int) < (sys.length : Int) := by omega
  by_cases q7 : 6 < ts.length
  · have q8 : (6 : Int) < (ts.length : Int) := by omega
    go_enter Tryz.func8, Tryz.ntmps8
    go_wp2_with fail; go_ret; exact ⟨⟨false, rfl, fun q => by cases q⟩, bW⟩
  have q8 : ¬ (6 : Int) < (ts.length : Int) := by omega
  by_cases q9 : 16 < dcs.length
  · have q10 : (16 : Int) < (dcs.length : Int) := by omega
    go_enter Tryz.func8, Tryz.ntmps8
    go_wp2_with fail; go_ret; exact ⟨⟨false, rfl, fun q => by cases q⟩, bW⟩
  have q10 : ¬ (16 : Int) < (dcs.length : Int) := by omega
  by_cases q11 : 6 < zs.length
  · have q12 : (6 : Int) < (zs.length : Int) := by omega
    go_enter Tryz.func8, Tryz.ntmps8
    go_wp2_with fail; go_ret; exact ⟨⟨false, rfl, fun q => by cases q⟩, bW⟩
  have q12 : ¬ (6 : Int) < (zs.length : Int) := by omega
  go_enter Tryz.func8, Tryz.ntmps8
  go_wp2_with fail
  refine (C1.out _ bW).mono ?_
  rintro e W2 ⟨⟨n, rfl, -⟩, hbn⟩
  have bW := bW.st hbn
  have BP := BP.below hbn BP.lt
  clear hbn g0 g1 g2 g8 g9 g10 g11 g12 g13 g15 hY
  have g0 := BP.cell 0 (v := .slice pA pts.length pc) rfl; have g1 := BP.cell 1 (v := .slice lA lks.length lc) rfl; have g2 := BP.cell 2 (v := .slice sA sys.length sc) rfl; have g8 := BP.cell 8 (v := .slice tA ts.length tc) rfl; have g9 := BP.cell 9 (v := .int .i64 pe) rfl; have g10 := BP.cell 10 (v := .slice uA us.length uc) rfl; have g11 := BP.cell 11 (v := .slice dA ds.length dc) rfl; have g12 := BP.cell 12 (v := .slice qA qs.length qc) rfl; have g13 := BP.cell 13 (v := .slice kA dcs.length kc) rfl; have g15 := BP.cell 15 (v := .slice zA zs.length zc) rfl
  by_cases hn : n = 0
  case' neg =>
    have hn2 : (n != 0) = true := by simp [hn]
    go_wp2_with fail; go_ret; exact ⟨⟨false, rfl, fun q => by cases q⟩, bW⟩
  subst hn
  go_wp2_with fail; refine (C2.out _ bW).mono ?_; rintro e W2 ⟨⟨n, rfl, hz⟩, hbn⟩; have HA2 := Lib.hid hz; have bW := bW.st hbn; have BP := BP.below hbn BP.lt; clear hz hbn g0 g1 g2 g8 g9 g10 g11 g12 g13 g15; have g0 := BP.cell 0 (v := .slice pA pts.length pc) rfl; have g1 := BP.cell 1 (v := .slice lA lks.length lc) rfl; have g2 := BP.cell 2 (v := .slice sA sys.length sc) rfl; have g8 := BP.cell 8 (v := .slice tA ts.length tc) rfl; have g9 := BP.cell 9 (v := .int .i64 pe) rfl; have g10 := BP.cell 10 (v := .slice uA us.length uc) rfl; have g11 := BP.cell 11 (v := .slice dA ds.length dc) rfl; have g12 := BP.cell 12 (v := .slice qA qs.length qc) rfl; have g13 := BP.cell 13 (v := .slice kA dcs.length kc) rfl; have g15 := BP.cell 15 (v := .slice zA zs.length zc) rfl; (by_cases hn : n = 0); (case' neg => have hn2 : (n != 0) = true := by simp [hn]); (case' neg => go_wp2_with fail; go_ret; exact ⟨⟨false, rfl, fun q => by cases q⟩, bW⟩); subst hn; have HZ2 := Lib.hid (HA2.out rfl); clear HA2
  go_wp2_with fail; refine (C3.out _ bW).mono ?_; rintro e W2 ⟨⟨n, rfl, hz⟩, hbn⟩; have HA3 := Lib.hid hz; have bW := bW.st hbn; have BP := BP.below hbn BP.lt; clear hz hbn g0 g1 g2 g8 g9 g10 g11 g12 g13 g15; have g0 := BP.cell 0 (v := .slice pA pts.length pc) rfl; have g1 := BP.cell 1 (v := .slice lA lks.length lc) rfl; have g2 := BP.cell 2 (v := .slice sA sys.length sc) rfl; have g8 := BP.cell 8 (v := .slice tA ts.length tc) rfl; have g9 := BP.cell 9 (v := .int .i64 pe) rfl; have g10 := BP.cell 10 (v := .slice uA us.length uc) rfl; have g11 := BP.cell 11 (v := .slice dA ds.length dc) rfl; have g12 := BP.cell 12 (v := .slice qA qs.length qc) rfl; have g13 := BP.cell 13 (v := .slice kA dcs.length kc) rfl; have g15 := BP.cell 15 (v := .slice zA zs.length zc) rfl; (by_cases hn : n = 0); (case' neg => have hn2 : (n != 0) = true := by simp [hn]); (case' neg => go_wp2_with fail; go_ret; exact ⟨⟨false, rfl, fun q => by cases q⟩, bW⟩); subst hn; have HZ3 := Lib.hid (HA3.out rfl); clear HA3
  go_wp2_with fail; refine (C4.out _ bW).mono ?_; rintro e W2 ⟨⟨n, rfl, hz⟩, hbn⟩; have HA4 := Lib.hid hz; have bW := bW.st hbn; have BP := BP.below hbn BP.lt; clear hz hbn g0 g1 g2 g8 g9 g10 g11 g12 g13 g15; have g0 := BP.cell 0 (v := .slice pA pts.length pc) rfl; have g1 := BP.cell 1 (v := .slice lA lks.length lc) rfl; have g2 := BP.cell 2 (v := .slice sA sys.length sc) rfl; have g8 := BP.cell 8 (v := .slice tA ts.length tc) rfl; have g9 := BP.cell 9 (v := .int .i64 pe) rfl; have g10 := BP.cell 10 (v := .slice uA us.length uc) rfl; have g11 := BP.cell 11 (v := .slice dA ds.length dc) rfl; have g12 := BP.cell 12 (v := .slice qA qs.length qc) rfl; have g13 := BP.cell 13 (v := .slice kA dcs.length kc) rfl; have g15 := BP.cell 15 (v := .slice zA zs.length zc) rfl; (by_cases hn : n = 0); (case' neg => have hn2 : (n != 0) = true := by simp [hn]); (case' neg => go_wp2_with fail; go_ret; exact ⟨⟨false, rfl, fun q => by cases q⟩, bW⟩); subst hn; have HZ4 := Lib.hid (HA4.out.1 rfl); clear HA4
  go_wp2_with fail
  refine (C5.out _ bW).mono ?_
  rintro e W2 ⟨rfl, hbn⟩
  have bW := bW.st hbn
  have BP := BP.below hbn BP.lt
  clear hbn g0 g1 g2 g8 g9 g10 g11 g12 g13 g15
  have g0 := BP.cell 0 (v := .slice pA pts.length pc) rfl; have g1 := BP.cell 1 (v := .slice lA lks.length lc) rfl; have g2 := BP.cell 2 (v := .slice sA sys.length sc) rfl; have g8 := BP.cell 8 (v := .slice tA ts.length tc) rfl; have g9 := BP.cell 9 (v := .int .i64 pe) rfl; have g10 := BP.cell 10 (v := .slice uA us.length uc) rfl; have g11 := BP.cell 11 (v := .slice dA ds.length dc) rfl; have g12 := BP.cell 12 (v := .slice qA qs.length qc) rfl; have g13 := BP.cell 13 (v := .slice kA dcs.length kc) rfl; have g15 := BP.cell 15 (v := .slice zA zs.length zc) rfl
  generalize checkAllE zs = n at *
  by_cases hn : n = 0
  case' neg =>
    have hn2 : (n != 0) = true := by simp [hn]
    go_wp2_with fail; go_ret; exact ⟨⟨false, rfl, fun q => by cases q⟩, bW⟩
  subst hn
  have HBP := Lib.hid BP
  have HBW := Lib.hid bW
  go_wp2_with fail
  clear g0 g1 g2 g8 g9 g10 g11 g12 g13 g15
  go_loopw [3] (fun j wr => ∃ k : Nat, k ≤ ts.length ∧ j = .int .i64 k ∧ Hid (∀ y ∈ ts.take k, y.rs.length ≤ 60 ∧ y.bs.length ≤ 8) ∧ wr = W2) (fun j _ => ts.length - (RowKit.intOf j).toNat)
  case atStart => exact ⟨0, Nat.zero_le _, rfl, (by unfold Hid; simp), rfl⟩
  case round =>
    obtain ⟨k, hk, rfl, HT, hw⟩ := hrel
    have hw := hw.symm
    subst hw
    have k1 : (0 : Int) ≤ (k : Int) := by omega
    have g0 := BP.cell 0 (v := .slice pA pts.length pc) rfl; have g1 := BP.cell 1 (v := .slice lA lks.length lc) rfl; have g2 := BP.cell 2 (v := .slice sA sys.length sc) rfl; have g8 := BP.cell 8 (v := .slice tA ts.length tc) rfl; have g9 := BP.cell 9 (v := .int .i64 pe) rfl; have g10 := BP.cell 10 (v := .slice uA us.length uc) rfl; have g11 := BP.cell 11 (v := .slice dA ds.length dc) rfl; have g12 := BP.cell 12 (v := .slice qA qs.length qc) rfl; have g13 := BP.cell 13 (v := .slice kA dcs.length kc) rfl; have g15 := BP.cell 15 (v := .slice zA zs.length zc) rfl
    by_cases hi : k < ts.length
    · have k2 : (k : Int) < (ts.length : Int) := by omega
      obtain ⟨b, off, x, hA, hb, hx, d0, d1, d2, d3⟩ := (H.out.st bW).t.ta hi
      rw [hA] at g8
      have HI := Lib.hid hi
      have HX := Lib.hid hx
      clear hx hi hb hA
      by_cases a1 : 60 < x.rs.length
      · have a2 : (60 : Int) < (x.rs.length : Int) := by omega
        go_wp2_with fail; go_ret; exact ⟨⟨false, rfl, fun q => by cases q⟩, bW⟩
      · have a2 : ¬ (60 : Int) < (x.rs.length : Int) := by omega
        by_cases a3 : 8 < x.bs.length
        · have a4 : (8 : Int) < (x.bs.length : Int) := by omega
          go_wp2_with fail; go_ret; exact ⟨⟨false, rfl, fun q => by cases q⟩, bW⟩
        · have a4 : ¬ (8 : Int) < (x.bs.length : Int) := by omega
          have R : Hid (∀ y ∈ ts.take (k + 1), y.rs.length ≤ 60 ∧ y.bs.length ≤ 8) := Lib.hid (by
            intro y hy
            rw [take_snoc HX.out] at hy
            rcases List.mem_append.1 hy with q | q
            · exact HT.out y q
            · rw [List.mem_singleton] at q; subst q; omega)
          go_wp2_with fail
          go_roundw
          case rel => exact ⟨k + 1, HI.out, by go_num, R, by first | rfl | trivial⟩
          case measure => have := HI.out; simp [RowKit.intOf]; omega
    · obtain rfl : k = ts.length := by omega
      have HRT : Hid (RightT ts) := Lib.hid ⟨by omega, by have := HT.out; rwa [List.take_length] at this⟩
      clear HT
      go_wp2_with fail
      clear g0 g1 g2 g8 g9 g10 g11 g12 g13 g15
      go_loopw [4] (fun j wr => ∃ k : Nat, k ≤ zs.length ∧ j = .int .i64 k ∧ Hid (∀ z ∈ zs.take k, z.hs.length ≤ 8 ∧ z.ss.length ≤ 8) ∧ wr = W2) (fun j _ => zs.length - (RowKit.intOf j).toNat)
      case atStart => exact ⟨0, Nat.zero_le _, rfl, (by unfold Hid; simp), rfl⟩
      case round =>
        obtain ⟨k, hk, rfl, HQ, hw⟩ := hrel
        have hw := hw.symm
        subst hw
        have k1 : (0 : Int) ≤ (k : Int) := by omega
        have g0 := BP.cell 0 (v := .slice pA pts.length pc) rfl; have g1 := BP.cell 1 (v := .slice lA lks.length lc) rfl; have g2 := BP.cell 2 (v := .slice sA sys.length sc) rfl; have g8 := BP.cell 8 (v := .slice tA ts.length tc) rfl; have g9 := BP.cell 9 (v := .int .i64 pe) rfl; have g10 := BP.cell 10 (v := .slice uA us.length uc) rfl; have g11 := BP.cell 11 (v := .slice dA ds.length dc) rfl; have g12 := BP.cell 12 (v := .slice qA qs.length qc) rfl; have g13 := BP.cell 13 (v := .slice kA dcs.length kc) rfl; have g15 := BP.cell 15 (v := .slice zA zs.length zc) rfl
        by_cases hi : k < zs.length
        · have k2 : (k : Int) < (zs.length : Int) := by omega
          obtain ⟨b, off, z, hA, hb, hx, d0, d1, d2, d3⟩ := (H.out.st bW).z.z hi
          rw [hA] at g15
          have HI := Lib.hid hi
          have HX := Lib.hid hx
          clear hx hi hb hA
          by_cases a1 : 8 < z.hs.length
          · have a2 : (8 : Int) < (z.hs.length : Int) := by omega
            go_wp2_with fail; go_ret; exact ⟨⟨false, rfl, fun q => by cases q⟩, bW⟩
          · have a2 : ¬ (8 : Int) < (z.hs.length : Int) := by omega
            by_cases a3 : 8 < z.ss.length
            · have a4 : (8 : Int) < (z.ss.length : Int) := by omega
              go_wp2_with fail; go_ret; exact ⟨⟨false, rfl, fun q => by cases q⟩, bW⟩
            · have a4 : ¬ (8 : Int) < (z.ss.length : Int) := by omega
              have R : Hid (∀ z ∈ zs.take (k + 1), z.hs.length ≤ 8 ∧ z.ss.length ≤ 8) := Lib.hid (by
                intro y hy
                rw [take_snoc HX.out] at hy
                rcases List.mem_append.1 hy with q | q
                · exact HQ.out y q
                · rw [List.mem_singleton] at q; subst q; omega)
              go_wp2_with fail
              go_roundw
              case rel => exact ⟨k + 1, HI.out, by go_num, R, by first | rfl | trivial⟩
              case measure => have := HI.out; simp [RowKit.intOf]; omega
        · obtain rfl : k = zs.length := by omega
          have HR : Hid (RightB zs) := Lib.hid ⟨by omega, by have := HQ.out; rwa [List.take_length] at this⟩
          go_wp2_with fail
          go_ret
          exact ⟨⟨true, rfl, fun _ => ⟨HR.out, HRT.out, HZ2.out, HZ4.out, HZ3.out⟩⟩, bW⟩

end Go.Proofs.YtcpfiiapfggmpaaGreat
/- Arguments opened: from the row's reading to lists (Rd). -/
namespace Go.Proofs.YtcpfiiapfggmpaaGreat
open Go.ChangeShapes Go.WideShapes Go.ChangeAt Go.RowKit Go.Lib Go.Deep

section
variable {H : Type} {encH : TypeId × Value → H} {P : Program} {w : World} {base : Nat} {spare : Nat → Bool} {held : Bool} {α : Type} {enc : α → List Value} {k t e : Nat}

theorem cell_lt {a : Addr} {v : Value} (h : w.cell? a = some v) : a.block < w.heap.size := by
  rcases Nat.lt_or_ge a.block w.heap.size with hlt | hge
  · exact hlt
  · unfold World.cell? at h
    rw [Array.getElem?_eq_none hge] at h
    cases h
theorem add_lit' (a : Addr) (i : Nat) (ha : a.spot = none) : a.add i = ⟨a.block, a.off + i, none⟩ := by
  obtain ⟨b, off, spot⟩ := a
  simp only at ha
  subst ha
  unfold Addr.add
  split <;> simp_all
theorem add_add' (a : Addr) (i j : Nat) : (a.add i).add j = a.add (i + j) := by
  unfold Addr.add
  by_cases hi : i = 0 <;> by_cases hj : j = 0 <;> simp [hi, hj, Nat.add_assoc]

/-- how the cells of one element are opened: they are the code of some x with OK x -/
def Opens (encH : TypeId × Value → H) (P : Program) (w : World) (base : Nat) (spare : Nat → Bool) (held : Bool) (e : Nat) (enc : α → List Value) (OK : α → Prop) : Prop :=
  ∀ (fuel : Nat) (cs : List Value) (x : DataW H × List MemPlace), DataW.trod encH P w base spare held fuel e cs = some x → ∃ a : α, cs = enc a ∧ OK a

theorem open_list {OK : α → Prop} (ht : P.underlying t = some (.slice e)) (hC : P.cellsOf e = k) (hk0 : 0 < k) (hE : ∀ x, (enc x).length = k) (ho : Opens encH P w base spare held e enc OK)
    {fuel : Nat} {cs : List Value} {x : DataW H × List MemPlace} (h : DataW.trod encH P w base spare held fuel t cs = some x) :
    ∃ (A : Option Addr) (cap : Nat) (l : List α), cs = [.slice A l.length cap] ∧ l.length ≤ cap ∧ cap ≤ maxLen ∧ Rd enc k w w.heap.size A l ∧ ∀ a ∈ l, OK a := by
  rcases open_slice ht h with ⟨rfl, _⟩ | ⟨a, len, cap, m, n, D, Pl, rfl, _, hlc, hcm, hmm, _, hi⟩
  · exact ⟨none, 0, [], rfl, Nat.le_refl _, Nat.zero_le _, Rd.nil, by simp⟩
  · have hlm : len ≤ m := by rw [hmm]; split <;> omega
    have hel : ∀ i, i < len → ∃ y : α, OK y ∧ ∀ j u, (enc y)[j]? = some u → w.cell? (a.add (i * k + j)) = some u := by
      intro i hil
      obtain ⟨cs', hc, ht'⟩ := hi i (by omega)
      obtain ⟨y, hy, hok⟩ := ho _ _ _ ht'
      obtain ⟨_, hcl, hat⟩ := World.cells?_some hc
      refine ⟨y, hok, fun j u hu => ?_⟩
      have hj : j < k := by have := (List.getElem?_eq_some_iff.1 hu).1; rwa [hE] at this
      have := hat j (by rw [hC]; exact hj)
      rw [add_add', hC] at this
      rw [this, hy]
      exact hu
    obtain ⟨f, hf⟩ : ∃ f : (i : Nat) → i < len → α, ∀ i hi, OK (f i hi) ∧ ∀ j u, (enc (f i hi))[j]? = some u → w.cell? (a.add (i * k + j)) = some u :=
      ⟨fun i hi => (hel i hi).choose, fun i hi => (hel i hi).choose_spec⟩
    let l : List α := (List.finRange len).map fun i => f i.1 i.2
    have hl : l.length = len := by simp [l]
    refine ⟨some a, cap, l, by rw [hl], by rw [hl]; exact hlc, hcm, ?_, ?_⟩
    · intro hne
      have h0 : 0 < len := by
        rcases Nat.eq_zero_or_pos len with h0 | h0
        · exact absurd (List.eq_nil_of_length_eq_zero (by rw [hl]; exact h0)) hne
        · exact h0
      have hc0 : ∃ u, w.cell? (a.add 0) = some u := by
        have hl0 : 0 < (enc (f 0 h0)).length := by rw [hE]; exact hk0
        exact ⟨_, by simpa using (hf 0 h0).2 0 _ (List.getElem?_eq_getElem hl0)⟩
      obtain ⟨u0, hu0⟩ := hc0
      rw [show a.add 0 = a by simp [Addr.add]] at hu0
      have hsp := World.cell?_spot hu0
      have hb := cell_lt hu0
      refine ⟨a.block, a.off, by obtain ⟨b, o, s⟩ := a; simp only at hsp; subst hsp; rfl, hb, fun i x hx j u hu => ?_⟩
      have hil : i < len := by have := (List.getElem?_eq_some_iff.1 hx).1; rwa [hl] at this
      have hxe : x = f i hil := by
        have := (List.getElem?_eq_some_iff.1 hx).2
        rw [← this]
        simp [l]
      subst hxe
      have := (hf i hil).2 j u hu
      rw [add_lit' a _ hsp, ← Nat.add_assoc] at this
      exact this
    · intro y hy
      simp only [l, List.mem_map] at hy
      obtain ⟨i, _, rfl⟩ := hy
      exact (hf i.1 i.2).1

/-- a struct's cells, part by part -/
theorem pieces (cs : List Value) (o s o' : Nat) (h : o' = o + s) : cs.drop o = (cs.drop o).take s ++ cs.drop o' := by
  subst h
  rw [← List.drop_drop, List.take_append_drop]
end
end Go.Proofs.YtcpfiiapfggmpaaGreat
/- Arguments opened with the form's own reach: every slice that is met takes at most reachBytes. -/
namespace Go.Proofs.YtcpfiiapfggmpaaGreat
open Go.ChangeShapes Go.WideShapes Go.ChangeAt Go.RowKit Go.Lib Go.Deep

def Sized {H : Type} (P : Program) (t : TypeId) (d : DataW H) : Prop := ∀ n ∈ d.weights P t, n ≤ reachBytes

section
variable {H : Type} {encH : TypeId × Value → H} {P : Program} {w : World} {base : Nat} {spare : Nat → Bool} {held : Bool} {α : Type} {enc : α → List Value} {k t e : Nat}

theorem Sized.of {ts : List TypeId} {ds : List (DataW H)} (h : (DataW.weightsEach P ts ds).all (· ≤ reachBytes) = true) {j : Nat} {t : TypeId} {d : DataW H} (ht : ts[j]? = some t) (hd : ds[j]? = some d) : Sized P t d := fun n hn => by
  have := List.all_eq_true.1 h _ (DataW.weights_mem_each ht hd n hn)
  simpa using this
theorem Sized.each {ts : List TypeId} {ds : List (DataW H)} (h : ∀ n ∈ DataW.weightsEach P ts ds, n ≤ reachBytes) {j : Nat} {t : TypeId} {d : DataW H} (ht : ts[j]? = some t) (hd : ds[j]? = some d) : Sized P t d := fun n hn => h n (DataW.weights_mem_each ht hd n hn)
theorem Sized.field {fs : Array Field} (ht : P.underlying t = some (.struct fs)) {ds : List (DataW H)} (h : Sized P t (.agg ds)) {i : Nat} {f : Field} (hf : fs[i]? = some f) {d : DataW H} (hd : ds[i]? = some d) : Sized P f.type d :=
  Sized.each (ts := fs.toList.map (·.type)) (ds := ds) (j := i) (fun n hn => h n (by simp only [DataW.weights, ht]; exact hn)) (by simp [hf]) hd
theorem Sized.len (ht : P.underlying t = some (.slice e)) {es sp : List (DataW H)} (h : Sized P t (.slice es sp)) : es.length * P.bytesOf e ≤ reachBytes := by
  have := h ((es.length + sp.length) * P.bytesOf e) (by simp only [DataW.weights, ht]; exact List.mem_cons_self ..)
  exact Nat.le_trans (Nat.mul_le_mul_right _ (Nat.le_add_right _ _)) this
/-- how the cells of one element of bounded size are opened -/
def OpensS (encH : TypeId × Value → H) (P : Program) (w : World) (base : Nat) (spare : Nat → Bool) (held : Bool) (e : Nat) (enc : α → List Value) (OK : α → Prop) : Prop :=
  ∀ (fuel : Nat) (cs : List Value) (x : DataW H × List MemPlace), DataW.trod encH P w base spare held fuel e cs = some x → Sized P e x.1 → ∃ a : α, cs = enc a ∧ OK a
theorem Opens.s {OK : α → Prop} (h : Opens encH P w base spare held e enc OK) : OpensS encH P w base spare held e enc OK := fun fuel cs x hx _ => h fuel cs x hx

end
end Go.Proofs.YtcpfiiapfggmpaaGreat
