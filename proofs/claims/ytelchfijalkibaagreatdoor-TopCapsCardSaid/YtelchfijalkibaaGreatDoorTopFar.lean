/- The statement's test of what prices use, walked. -/
import Derived.Test.YtelchfijalkibaaGreatDoorNetTaC
import Derived.Test.YtelchfijalkibaaGreatDoorJTrpScR
import Derived.Test.YtelchfijalkibaaGreatDoorJDisAll
import Derived.Test.YtelchfijalkibaaGreatDoorCapChk
set_option linter.unusedSimpArgs false
set_option linter.unusedSimpArgs false
namespace Go.Proofs.YtelchfijalkibaaGreatDoor
open Go.RowKit Go.Lib

/-- what the statement asks of a configuration's memory -/
structure CfTop (w : World) (pA lA sA tA uA dA qA kA cA : Option Addr) (pts : List Pt) (lks : List Lk) (sys : List Sy) (ts : List Ta) (us ds qs : List Int) (dcs : List Dc) (caps : List Cp) (sc : Nat) : Prop where
  top : TOk w pA lA sA pts lks sys
  sc : sys.length ≤ sc
  t : Rd encTa 4 w w.heap.size tA ts
  ta : ∀ x ∈ ts, TaOk w x
  u : Rd encI 1 w w.heap.size uA us
  d : Rd encI 1 w w.heap.size dA ds
  q : Rd encI 1 w w.heap.size qA qs
  ql : qs.length ≤ 9223372036854775807
  k : Rd encDc 10 w w.heap.size kA dcs
  c : Rd encCp 4 w w.heap.size cA caps
  cl : caps.length ≤ 9223372036854775807
theorem CfTop.st {w w' : World} {pA lA sA tA uA dA qA kA cA : Option Addr} {pts : List Pt} {lks : List Lk} {sys : List Sy} {ts : List Ta} {us ds qs : List Int} {dcs : List Dc} {caps : List Cp} {sc : Nat} (h : CfTop w pA lA sA tA uA dA qA kA cA pts lks sys ts us ds qs dcs caps sc) (hb : Below w.heap.size w w') : CfTop w' pA lA sA tA uA dA qA kA cA pts lks sys ts us ds qs dcs caps sc :=
  ⟨h.top.st hb, h.sc, h.t.st hb, fun x hx => (h.ta x hx).st hb, h.u.st hb, h.d.st hb, h.q.st hb, h.ql, h.k.st hb, h.c.st hb, h.cl⟩
/-- a bool is returned, and what it says -/
def YesT (p : Prop) (e : Ending) : Prop := ∃ b : Bool, e = .returned (.bool b) ∧ (b = true → p)
structure FareA (pe : Int) (us ds qs : List Int) (ts : List Ta) (dcs : List Dc) (caps : List Cp) : Prop where
  t : ts.length ≤ 3 ∧ ∀ y ∈ ts, y.rs.length ≤ 60 ∧ y.bs.length ≤ 6
  c : ∀ x ∈ ts, ∀ y ∈ x.rs, RtC y
  k : LOk dcs
  s : ScOk pe us ds qs
  cl : caps.length ≤ 6
  cp : ∀ c ∈ caps, capE c = 0

set_option maxRecDepth 100000 in
set_option maxHeartbeats 16000000 in
theorem fares_any {pA lA sA tA uA dA qA kA cA : Option Addr} (pc lc sc tc uc dc qc kc cc : Nat) (pe : Int) (o3 o4 o5 o6 o7 o15 o16 o17 o18 o19 o20 o21 o22 o23 o24 : Value) {pts : List Pt} {lks : List Lk} {sys : List Sy} {ts : List Ta} {us ds qs : List Int} {dcs : List Dc} {caps : List Cp} {w : World}
    (h : CfTop w pA lA sA tA uA dA qA kA cA pts lks sys ts us ds qs dcs caps sc) :
    Calls Tryz.prog 4 #[.agg #[.slice pA pts.length pc, .slice lA lks.length lc, .slice sA sys.length sc, o3, o4, o5, o6, o7, .slice tA ts.length tc, .int .i64 pe, .slice uA us.length uc, .slice dA ds.length dc, .slice qA qs.length qc, .slice kA dcs.length kc, .slice cA caps.length cc, o15, o16, o17, o18, o19, o20, o21, o22, o23, o24]] w fun e w' => YesT (FareA pe us ds qs ts dcs caps) e ∧ Below w.heap.size w w' := by
  obtain ⟨Y, hY⟩ : ∃ Y, w.alloc (.cells #[.slice pA pts.length pc, .slice lA lks.length lc, .slice sA sys.length sc, o3, o4, o5, o6, o7, .slice tA ts.length tc, .int .i64 pe, .slice uA us.length uc, .slice dA ds.length dc, .slice qA qs.length qc, .slice kA dcs.length kc, .slice cA caps.length cc, o15, o16, o17, o18, o19, o20, o21, o22, o23, o24] 46) = Y := ⟨_, rfl⟩
  have bW : Below w.heap.size w Y := by rw [← hY]; exact (Below.refl _ w).al _
  have BP : Blk Y w.heap.size #[.slice pA pts.length pc, .slice lA lks.length lc, .slice sA sys.length sc, o3, o4, o5, o6, o7, .slice tA ts.length tc, .int .i64 pe, .slice uA us.length uc, .slice dA ds.length dc, .slice qA qs.length qc, .slice kA dcs.length kc, .slice cA caps.length cc, o15, o16, o17, o18, o19, o20, o21, o22, o23, o24] 46 := by rw [← hY]; exact Blk.new w _ _
  have H := Lib.hid h
  have C1 := Lib.hid (fun (X : World) (hX : Below w.heap.size w X) => topchk_any pc lc sc (h.st hX).top h.sc)
  have C2 := Lib.hid (fun (X : World) (hX : Below w.heap.size w X) => tall_any pc lc sc tc (h.st hX).top h.sc (h.st hX).t (h.st hX).ta)
  have C3 := Lib.hid (fun (X : World) (hX : Below w.heap.size w X) => scale2_any uc dc qc pe (h.st hX).u (h.st hX).d (h.st hX).q h.ql)
  have C4 := Lib.hid (fun (X : World) (hX : Below w.heap.size w X) => dall2_any kc (h.st hX).k)
  have CK := Lib.hid (fun (nm sy : ByteArray) (dy ct : Int) (X : World) => rcheck25_any nm sy dy ct X)
  have g0 := BP.cell 0 (v := .slice pA pts.length pc) rfl; have g1 := BP.cell 1 (v := .slice lA lks.length lc) rfl; have g2 := BP.cell 2 (v := .slice sA sys.length sc) rfl; have g8 := BP.cell 8 (v := .slice tA ts.length tc) rfl; have g9 := BP.cell 9 (v := .int .i64 pe) rfl; have g10 := BP.cell 10 (v := .slice uA us.length uc) rfl; have g11 := BP.cell 11 (v := .slice dA ds.length dc) rfl; have g12 := BP.cell 12 (v := .slice qA qs.length qc) rfl; have g13 := BP.cell 13 (v := .slice kA dcs.length kc) rfl; have g14 := BP.cell 14 (v := .slice cA caps.length cc) rfl
  clear h
  by_cases q1 : 12 < pts.length
  · have q2 : (12 : Int) < (pts.length : Int) := by omega
    go_enter Tryz.func4, Tryz.ntmps4
    go_wp2_with fail; go_ret; exact ⟨⟨false, rfl, fun q => by cases q⟩, bW⟩
  have q2 : ¬ (12 : Int) < (pts.length : Int) := by omega
  by_cases q3 : 24 < lks.length
  · have q4 : (24 : Int) < (lks.length : Int) := by omega
    go_enter Tryz.func4, Tryz.ntmps4
    go_wp2_with fail; go_ret; exact ⟨⟨false, rfl, fun q => by cases q⟩, bW⟩
  have q4 : ¬ (24 : Int) < (lks.length : Int) := by omega
  by_cases q5 : 8 < sys.length
  · have q6 : (8 : Int) < (sys.length : Int) := by omega
    go_enter Tryz.func4, Tryz.ntmps4
    go_wp2_with fail; go_ret; exact ⟨⟨false, rfl, fun q => by cases q⟩, bW⟩
  have q6 : ¬ (8 : Int) < (sys.length : Int) := by omega
  by_cases q7 : 3 < ts.length
  · have q8 : (3 : Int) < (ts.length : Int) := by omega
    go_enter Tryz.func4, Tryz.ntmps4
    go_wp2_with fail; go_ret; exact ⟨⟨false, rfl, fun q => by cases q⟩, bW⟩
  have q8 : ¬ (3 : Int) < (ts.length : Int) := by omega
  by_cases q9 : 12 < dcs.length
  · have q10 : (12 : Int) < (dcs.length : Int) := by omega
    go_enter Tryz.func4, Tryz.ntmps4
    go_wp2_with fail; go_ret; exact ⟨⟨false, rfl, fun q => by cases q⟩, bW⟩
  have q10 : ¬ (12 : Int) < (dcs.length : Int) := by omega
  by_cases q11 : 6 < caps.length
  · have q12 : (6 : Int) < (caps.length : Int) := by omega
    go_enter Tryz.func4, Tryz.ntmps4
    go_wp2_with fail; go_ret; exact ⟨⟨false, rfl, fun q => by cases q⟩, bW⟩
  have q12 : ¬ (6 : Int) < (caps.length : Int) := by omega
  go_enter Tryz.func4, Tryz.ntmps4
  go_wp2_with fail
  refine (C1.out _ bW).mono ?_
  rintro e W2 ⟨⟨n, rfl, -⟩, hbn⟩
  have bW := bW.st hbn
  have BP := BP.below hbn BP.lt
  clear hbn hY
  clear g0 g1 g2 g8 g9 g10 g11 g12 g13 g14
  have g0 := BP.cell 0 (v := .slice pA pts.length pc) rfl; have g1 := BP.cell 1 (v := .slice lA lks.length lc) rfl; have g2 := BP.cell 2 (v := .slice sA sys.length sc) rfl; have g8 := BP.cell 8 (v := .slice tA ts.length tc) rfl; have g9 := BP.cell 9 (v := .int .i64 pe) rfl; have g10 := BP.cell 10 (v := .slice uA us.length uc) rfl; have g11 := BP.cell 11 (v := .slice dA ds.length dc) rfl; have g12 := BP.cell 12 (v := .slice qA qs.length qc) rfl; have g13 := BP.cell 13 (v := .slice kA dcs.length kc) rfl; have g14 := BP.cell 14 (v := .slice cA caps.length cc) rfl
  by_cases hn : n = 0
  case' neg =>
    have hn2 : (n != 0) = true := by simp [hn]
    go_wp2_with fail; go_ret; exact ⟨⟨false, rfl, fun q => by cases q⟩, bW⟩
  subst hn
  go_wp2_with fail; refine (C2.out _ bW).mono ?_; rintro e W2 ⟨⟨n, rfl, hz⟩, hbn⟩; have HA2 := Lib.hid hz; have bW := bW.st hbn; have BP := BP.below hbn BP.lt; clear hz hbn; clear g0 g1 g2 g8 g9 g10 g11 g12 g13 g14; have g0 := BP.cell 0 (v := .slice pA pts.length pc) rfl; have g1 := BP.cell 1 (v := .slice lA lks.length lc) rfl; have g2 := BP.cell 2 (v := .slice sA sys.length sc) rfl; have g8 := BP.cell 8 (v := .slice tA ts.length tc) rfl; have g9 := BP.cell 9 (v := .int .i64 pe) rfl; have g10 := BP.cell 10 (v := .slice uA us.length uc) rfl; have g11 := BP.cell 11 (v := .slice dA ds.length dc) rfl; have g12 := BP.cell 12 (v := .slice qA qs.length qc) rfl; have g13 := BP.cell 13 (v := .slice kA dcs.length kc) rfl; have g14 := BP.cell 14 (v := .slice cA caps.length cc) rfl; (by_cases hn : n = 0); (case' neg => have hn2 : (n != 0) = true := by simp [hn]); (case' neg => go_wp2_with fail; go_ret; exact ⟨⟨false, rfl, fun q => by cases q⟩, bW⟩); subst hn; have HZ2 := Lib.hid (HA2.out rfl); clear HA2
  go_wp2_with fail; refine (C3.out _ bW).mono ?_; rintro e W2 ⟨⟨n, rfl, hz⟩, hbn⟩; have HA3 := Lib.hid hz; have bW := bW.st hbn; have BP := BP.below hbn BP.lt; clear hz hbn; clear g0 g1 g2 g8 g9 g10 g11 g12 g13 g14; have g0 := BP.cell 0 (v := .slice pA pts.length pc) rfl; have g1 := BP.cell 1 (v := .slice lA lks.length lc) rfl; have g2 := BP.cell 2 (v := .slice sA sys.length sc) rfl; have g8 := BP.cell 8 (v := .slice tA ts.length tc) rfl; have g9 := BP.cell 9 (v := .int .i64 pe) rfl; have g10 := BP.cell 10 (v := .slice uA us.length uc) rfl; have g11 := BP.cell 11 (v := .slice dA ds.length dc) rfl; have g12 := BP.cell 12 (v := .slice qA qs.length qc) rfl; have g13 := BP.cell 13 (v := .slice kA dcs.length kc) rfl; have g14 := BP.cell 14 (v := .slice cA caps.length cc) rfl; (by_cases hn : n = 0); (case' neg => have hn2 : (n != 0) = true := by simp [hn]); (case' neg => go_wp2_with fail; go_ret; exact ⟨⟨false, rfl, fun q => by cases q⟩, bW⟩); subst hn; have HZ3 := Lib.hid (HA3.out rfl); clear HA3
  go_wp2_with fail; refine (C4.out _ bW).mono ?_; rintro e W2 ⟨⟨n, rfl, hz⟩, hbn⟩; have HA4 := Lib.hid hz; have bW := bW.st hbn; have BP := BP.below hbn BP.lt; clear hz hbn; clear g0 g1 g2 g8 g9 g10 g11 g12 g13 g14; have g0 := BP.cell 0 (v := .slice pA pts.length pc) rfl; have g1 := BP.cell 1 (v := .slice lA lks.length lc) rfl; have g2 := BP.cell 2 (v := .slice sA sys.length sc) rfl; have g8 := BP.cell 8 (v := .slice tA ts.length tc) rfl; have g9 := BP.cell 9 (v := .int .i64 pe) rfl; have g10 := BP.cell 10 (v := .slice uA us.length uc) rfl; have g11 := BP.cell 11 (v := .slice dA ds.length dc) rfl; have g12 := BP.cell 12 (v := .slice qA qs.length qc) rfl; have g13 := BP.cell 13 (v := .slice kA dcs.length kc) rfl; have g14 := BP.cell 14 (v := .slice cA caps.length cc) rfl; (by_cases hn : n = 0); (case' neg => have hn2 : (n != 0) = true := by simp [hn]); (case' neg => go_wp2_with fail; go_ret; exact ⟨⟨false, rfl, fun q => by cases q⟩, bW⟩); subst hn; have HZ4 := Lib.hid (HA4.out.1 rfl); clear HA4
  have HBP := Lib.hid BP
  have HBW := Lib.hid bW
  go_wp2_with fail
  clear g0 g1 g2 g8 g9 g10 g11 g12 g13 g14
  go_loopw [3] (fun j wr => ∃ k : Nat, k ≤ ts.length ∧ j = .int .i64 k ∧ Hid (∀ y ∈ ts.take k, y.rs.length ≤ 60 ∧ y.bs.length ≤ 6) ∧ wr = W2) (fun j _ => ts.length - (RowKit.intOf j).toNat)
  case atStart => exact ⟨0, Nat.zero_le _, rfl, (by unfold Hid; simp), rfl⟩
  case round =>
    obtain ⟨k, hk, rfl, HT, hw⟩ := hrel
    have hw := hw.symm
    subst hw
    have k1 : (0 : Int) ≤ (k : Int) := by omega
    have g0 := BP.cell 0 (v := .slice pA pts.length pc) rfl; have g1 := BP.cell 1 (v := .slice lA lks.length lc) rfl; have g2 := BP.cell 2 (v := .slice sA sys.length sc) rfl; have g8 := BP.cell 8 (v := .slice tA ts.length tc) rfl; have g9 := BP.cell 9 (v := .int .i64 pe) rfl; have g10 := BP.cell 10 (v := .slice uA us.length uc) rfl; have g11 := BP.cell 11 (v := .slice dA ds.length dc) rfl; have g12 := BP.cell 12 (v := .slice qA qs.length qc) rfl; have g13 := BP.cell 13 (v := .slice kA dcs.length kc) rfl; have g14 := BP.cell 14 (v := .slice cA caps.length cc) rfl
    by_cases hi : k < ts.length
    · have k2 : (k : Int) < (ts.length : Int) := by omega
      obtain ⟨b, off, x, hA, hb, hx, d0, d1, d2, d3⟩ := (H.out.st bW).t.ta hi
      rw [hA] at g8
      have HI := Lib.hid hi
      have HX := Lib.hid hx
      clear hx hi hb hA
      by_cases a1 : 60 < x.rs.length
      · have a2 : (60 : Int) < (x.rs.length : Int) := by omega
        go_wp2_with fail; go_ret; exact ⟨⟨false, rfl, fun q => by cases q⟩, bW⟩
      · have a2 : ¬ (60 : Int) < (x.rs.length : Int) := by omega
        by_cases a3 : 6 < x.bs.length
        · have a4 : (6 : Int) < (x.bs.length : Int) := by omega
          go_wp2_with fail; go_ret; exact ⟨⟨false, rfl, fun q => by cases q⟩, bW⟩
        · have a4 : ¬ (6 : Int) < (x.bs.length : Int) := by omega
          have R : Hid (∀ y ∈ ts.take (k + 1), y.rs.length ≤ 60 ∧ y.bs.length ≤ 6) := Lib.hid (by
            intro y hy
            rw [take_snoc HX.out] at hy
            rcases List.mem_append.1 hy with q | q
            · exact HT.out y q
            · rw [List.mem_singleton] at q; subst q; omega)
          go_wp2_with fail
          go_roundw
          case rel => exact ⟨k + 1, HI.out, by go_num, R, by first | rfl | trivial⟩
          case measure => have := HI.out; simp [RowKit.intOf]; omega
    · obtain rfl : k = ts.length := by omega
      have HRT : Hid (ts.length ≤ 3 ∧ ∀ y ∈ ts, y.rs.length ≤ 60 ∧ y.bs.length ≤ 6) := Lib.hid ⟨by omega, by have := HT.out; rwa [List.take_length] at this⟩
      clear HT hk hi
      go_wp2_with fail
      clear g0 g1 g2 g8 g9 g10 g11 g12 g13 g14
      go_loopw [4] (fun j wr => ∃ k : Nat, k ≤ caps.length ∧ j = .int .i64 k ∧ Hid (∀ c ∈ caps.take k, capE c = 0) ∧ Below W2.heap.size W2 wr) (fun j _ => caps.length - (RowKit.intOf j).toNat)
      case atStart => exact ⟨0, Nat.zero_le _, rfl, (by unfold Hid; simp), Below.refl _ _⟩
      case round =>
        obtain ⟨k, hk, rfl, HQ, hbr⟩ := hrel
        have k1 : (0 : Int) ≤ (k : Int) := by omega
        have bW := HBW.out.st hbr
        have BP := HBP.out.below hbr HBP.out.lt
        have g14 := BP.cell 14 (v := .slice cA caps.length cc) rfl
        by_cases hi : k < caps.length
        · have k2 : (k : Int) < (caps.length : Int) := by omega
          obtain ⟨b, off, c, hA, hb, hx, d0, d1, d2, d3⟩ := (H.out.st bW).c.cp hi
          rw [hA] at g14
          have HI := Lib.hid hi
          have HX := Lib.hid hx
          have CKX := Lib.hid (CK.out c.name c.sys c.days c.ct wr)
          have HBR := Lib.hid hbr
          clear hx hi hb hA BP hbr
          go_wp2_with fail
          refine CKX.out.mono ?_
          rintro e W4 ⟨rfl, hbn⟩
          have bW := bW.st hbn
          have HB4 := Lib.hid (HBR.out.st hbn)
          obtain ⟨n, hnE⟩ : ∃ n, capE ⟨c.name, c.sys, c.days, c.ct⟩ = n := ⟨_, rfl⟩
          rw [hnE]
          have HE : Hid (capE c = n) := Lib.hid hnE
          clear hbn CKX d0 d1 d2 d3 hnE
          by_cases hn : n = 0
          case' neg =>
            have hn2 : (n != 0) = true := by simp [hn]
            go_wp2_with fail; go_ret; exact ⟨⟨false, rfl, fun q => by cases q⟩, bW⟩
          have R : Hid (∀ c ∈ caps.take (k + 1), capE c = 0) := Lib.hid (by
            intro y hy
            rw [take_snoc HX.out] at hy
            rcases List.mem_append.1 hy with q | q
            · exact HQ.out y q
            · rw [List.mem_singleton] at q; subst q; exact HE.out.trans hn)
          subst hn
          go_wp2_with fail
          go_roundw
          case rel => exact ⟨k + 1, HI.out, by go_num, R, HB4.out⟩
          case measure => have := HI.out; simp [RowKit.intOf]; omega
        · obtain rfl : k = caps.length := by omega
          have HR : Hid (caps.length ≤ 6 ∧ ∀ c ∈ caps, capE c = 0) := Lib.hid ⟨by omega, by have := HQ.out; rwa [List.take_length] at this⟩
          go_wp2_with fail
          go_ret
          exact ⟨⟨true, rfl, fun _ => ⟨HRT.out, HZ2.out, HZ4.out, HZ3.out, HR.out.1, HR.out.2⟩⟩, bW⟩
end Go.Proofs.YtelchfijalkibaaGreatDoor
