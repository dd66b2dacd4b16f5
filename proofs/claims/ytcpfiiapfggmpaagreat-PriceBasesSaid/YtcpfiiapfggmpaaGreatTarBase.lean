/- The price of a trip by the tariff: price.Base and the reference's, walked. -/
import Derived.Test.YtcpfiiapfggmpaaGreatTarRAt
import Derived.Test.YtcpfiiapfggmpaaGreatTarRRate
import Derived.Test.YtcpfiiapfggmpaaGreatJTrip
set_option linter.unusedSimpArgs false
namespace Go.Proofs.YtcpfiiapfggmpaaGreat
open Go.RowKit Go.Lib

theorem Rd.stp {w : World} {B : Nat} {A : Option Addr} {l : List Stp} (h : Rd encSp 3 w B A l) {i : Nat} (hi : i < l.length) :
    ∃ b off s, A = some ⟨b, off, none⟩ ∧ b < B ∧ l[i]? = some s ∧ w.cell? ⟨b, off + i * 3, none⟩ = some (.string s.pt) ∧ w.cell? ⟨b, off + i * 3 + 1, none⟩ = some (.int .i64 s.t) ∧ w.cell? ⟨b, off + i * 3 + 2, none⟩ = some (.string s.pg) := by
  obtain ⟨b, off, x, hA, hb, hx, hc⟩ := h.at_ hi
  exact ⟨b, off, x, hA, hb, hx, hc 0 _ rfl, hc 1 _ rfl, hc 2 _ rfl⟩
/-- the point where a trip ends, if that is another stop -/
def toM (ss : List Stp) : ByteArray := if 1 < ss.length then ((ss[ss.length - 1]?).getD default).pt else ⟨#[]⟩
/-- the price of a trip by the tariff -/
def baseM (ts : List Ta) (cl : Int) (ss : List Stp) : Int × Int := match ss[0]? with
  | none => (0, 1)
  | some s => match findM s.t ts with
    | none => (0, 22)
    | some y => rateM s.t s.pt (toM ss) cl y.bs y.rs
theorem baseM_nil {ts : List Ta} {cl : Int} {ss : List Stp} (h : ss.length = 0) : baseM ts cl ss = (0, 1) := by unfold baseM; rw [List.getElem?_eq_none (by omega)]
theorem baseM_none {ts : List Ta} {cl : Int} {ss : List Stp} {s : Stp} (h : ss[0]? = some s) (hf : findM s.t ts = none) : baseM ts cl ss = (0, 22) := by unfold baseM; rw [h]; simp only; rw [hf]
theorem baseM_some {ts : List Ta} {cl : Int} {ss : List Stp} {s : Stp} {y : Ta} (h : ss[0]? = some s) (hf : findM s.t ts = some y) : baseM ts cl ss = rateM s.t s.pt (toM ss) cl y.bs y.rs := by unfold baseM; rw [h]; simp only; rw [hf]
theorem toM_one {ss : List Stp} (h : ¬ 1 < ss.length) : toM ss = ⟨#[]⟩ := if_neg h
theorem toM_more {ss : List Stp} {m : Nat} {s : Stp} (h : m + 1 = ss.length) (h1 : 1 < ss.length) (hs : ss[m]? = some s) : toM ss = s.pt := by
  unfold toM
  rw [if_pos h1, show ss.length - 1 = m by omega, hs]; rfl

set_option maxRecDepth 100000 in
set_option maxHeartbeats 8000000 in
theorem pbase_any {tA xA : Option Addr} (tc xc : Nat) (o0 o1 o2 o3 o4 o5 o6 o7 o9 o10 o11 o12 o13 o14 o15 o16 o17 o18 o19 o20 o21 o22 o23 o24 : Value) (xi xv xy : ByteArray) (cl : Int) {ts : List Ta} {ss : List Stp} {w : World}
    (h : Rd encTa 4 w w.heap.size tA ts) (hok : ∀ y ∈ ts, TaOk w y ∧ TaSm y) (hl : ts.length ≤ 1000000) (hs : Rd encSp 3 w w.heap.size xA ss) (hsl : ss.length ≤ 9223372036854775807) :
    Calls Tryz.prog 11 #[.agg #[o0, o1, o2, o3, o4, o5, o6, o7, .slice tA ts.length tc, o9, o10, o11, o12, o13, o14, o15, o16, o17, o18, o19, o20, o21, o22, o23, o24], .agg #[.string xi, .string xv, .string xy, .int .i64 cl, .slice xA ss.length xc]] w fun e w' => e = .returned (.tuple #[.int .i64 (baseM ts cl ss).1, .int .i64 (baseM ts cl ss).2]) ∧ Below w.heap.size w w' := by
  obtain ⟨Y1, hY1⟩ : ∃ Y, w.alloc (.cells #[o0, o1, o2, o3, o4, o5, o6, o7, .slice tA ts.length tc, o9, o10, o11, o12, o13, o14, o15, o16, o17, o18, o19, o20, o21, o22, o23, o24] 46) = Y := ⟨_, rfl⟩
  obtain ⟨Y2, hY2⟩ : ∃ Y, Y1.alloc (.cells #[.string xi, .string xv, .string xy, .int .i64 cl, .slice xA ss.length xc] 49) = Y := ⟨_, rfl⟩
  have b1 : Below w.heap.size w Y1 := by rw [← hY1]; exact (Below.refl _ w).al _
  have b2 : Below w.heap.size w Y2 := by rw [← hY2]; exact b1.al _
  have B2 : Blk Y2 Y1.heap.size #[.string xi, .string xv, .string xy, .int .i64 cl, .slice xA ss.length xc] 49 := by rw [← hY2]; exact Blk.new Y1 _ _
  have B1 : Blk Y2 w.heap.size #[o0, o1, o2, o3, o4, o5, o6, o7, .slice tA ts.length tc, o9, o10, o11, o12, o13, o14, o15, o16, o17, o18, o19, o20, o21, o22, o23, o24] 46 := by rw [← hY2, ← hY1]; exact (Blk.new w _ _).alloc _
  have t4 := B2.cell 4 (v := .slice xA ss.length xc) rfl
  have HTR := Lib.hid (fun (y : Ta) (hy : y ∈ ts) => (hok y hy).2)
  by_cases h0 : ss.length = 0
  · have R := Lib.hid (baseM_nil (ts := ts) (cl := cl) h0)
    have h0b : ((ss.length : Int) == 0) = true := by simp [h0]
    clear h0 h hs hok
    go_enter Tryz.func11, Tryz.ntmps11
    go_wp2_with fail
    go_ret2
    rw [R.out]
    exact ⟨rfl, b2⟩
  obtain ⟨b, off, s, rfl, hb, hx, d0, d1, d2⟩ := (hs.st b2).stp (i := 0) (by omega)
  simp only [Nat.zero_mul, Nat.add_zero] at d0 d1 d2
  have h0b : ((ss.length : Int) == 0) = false := by rw [beq_eq_false_iff_ne]; omega
  have hpos : (0 : Int) < (ss.length : Int) := by omega
  obtain ⟨Y3, hY3⟩ : ∃ Y, Y2.alloc (.cells #[.string s.pt, .int .i64 s.t, .string s.pg] 109) = Y := ⟨_, rfl⟩
  have b3 : Below w.heap.size w Y3 := by rw [← hY3]; exact b2.al _
  have B3 : Blk Y3 Y2.heap.size #[.string s.pt, .int .i64 s.t, .string s.pg] 109 := by rw [← hY3]; exact Blk.new Y2 _ _
  have B2 := (show Blk Y3 Y1.heap.size _ _ by rw [← hY3]; exact B2.alloc _)
  have B1 : Blk Y3 w.heap.size #[o0, o1, o2, o3, o4, o5, o6, o7, .slice tA ts.length tc, o9, o10, o11, o12, o13, o14, o15, o16, o17, o18, o19, o20, o21, o22, o23, o24] 46 := by rw [← hY3]; exact B1.alloc _
  have u4 := B2.cell 4 (v := .slice (some ⟨b, off, none⟩) ss.length xc) rfl
  have c8 := B1.cell 8 (v := .slice tA ts.length tc) rfl
  have s1 := B3.cell 1 (v := .int .i64 s.t) rfl
  have CA := Lib.hid (tat_any tc s.t (h.st b3) (fun y hy => ⟨(hok y hy).1.st b3, (hok y hy).2⟩) hl)
  have HX := Lib.hid hx
  have HB1 := Lib.hid b1
  clear h hok b1 b2 B1 hb
  by_cases h1 : 1 < ss.length
  · obtain ⟨m, hm⟩ : ∃ m, m + 1 = ss.length := ⟨ss.length - 1, by omega⟩
    obtain ⟨b', off', s', hA', hb', hx', g0, g1, g2⟩ := (hs.st b3).stp (i := m) (by omega)
    injection hA' with hA'
    injection hA' with q1 q2
    subst q1
    subst q2
    have HTO := Lib.hid (toM_more hm h1 hx')
    have h1z : (1 : Int) < (ss.length : Int) := by omega
    have hwm : IntKind.i64.wrap ((ss.length : Int) - 1) = (m : Int) := by rw [show (ss.length : Int) - 1 = (m : Int) by omega]; exact IntWalk.i64_in _ (by omega)
    have m1 : (0 : Int) ≤ (m : Int) := by omega
    have m2 : (m : Int) < (ss.length : Int) := by omega
    clear hs hx hx' hb' g1 g2 h1 hm h0
    go_enter Tryz.func11, Tryz.ntmps11
    go_wp2_with fail
    refine CA.out.mono ?_
    rintro e W4 ⟨hR, hbn⟩
    have b4 := b3.st hbn
    have B2 := B2.below hbn B2.lt
    have B3 := B3.below hbn B3.lt
    clear t4 u4 c8 s1 d0 d1 d2 g0 CA hY1 hY2 hY3
    cases hf : findM s.t ts with
    | none =>
      rw [hf] at hR
      have hR : e = .returned (.tuple #[.agg #[.int .i64 0, .int .i64 0, .slice none 0 0, .slice none 0 0], .int .i64 22]) := hR
      subst hR
      have R := Lib.hid (baseM_none (cl := cl) HX.out hf)
      clear hf
      go_wp2_with fail
      go_ret2
      rw [R.out]
      exact ⟨rfl, b4.al _⟩
    | some y =>
      rw [hf] at hR
      obtain ⟨A8, c8, A9, c9, rfl, r8, r9⟩ := hR
      have R := Lib.hid (baseM_some (cl := cl) HX.out hf)
      have hsm := HTR.out y (findM_mem hf)
      obtain ⟨W5, hW5⟩ : ∃ Y, W4.alloc (.cells #[.int .i64 y.f, .int .i64 y.t, .slice A8 y.bs.length c8, .slice A9 y.rs.length c9] 104) = Y := ⟨_, rfl⟩
      have b45 : Below W4.heap.size W4 W5 := by rw [← hW5]; exact (Below.refl _ _).al _
      have b5 := b4.st b45
      have B2 := B2.below b45 B2.lt
      have B3 := B3.below b45 B3.lt
      have B5 : Blk W5 W4.heap.size #[.int .i64 y.f, .int .i64 y.t, .slice A8 y.bs.length c8, .slice A9 y.rs.length c9] 104 := by rw [← hW5]; exact Blk.new W4 _ _
      have CR := Lib.hid (trate_any y.f y.t s.t cl s.pt s'.pt c8 c9 (r8.st b45) (r9.st b45) hsm.1 hsm.2)
      have v0 := B5.cell 0 (v := .int .i64 y.f) rfl
      have v1 := B5.cell 1 (v := .int .i64 y.t) rfl
      have v2 := B5.cell 2 (v := .slice A8 y.bs.length c8) rfl
      have v3 := B5.cell 3 (v := .slice A9 y.rs.length c9) rfl
      have z0 := B3.cell 0 (v := .string s.pt) rfl
      have z1 := B3.cell 1 (v := .int .i64 s.t) rfl
      have z3 := B2.cell 3 (v := .int .i64 cl) rfl
      rw [HTO.out] at R
      clear hf r8 r9 hsm hbn b45 b4
      go_wp2_with fail
      refine CR.out.mono ?_
      rintro e W6 ⟨rfl, hbn⟩
      have b6 := b5.st hbn
      go_wp2_with fail
      go_ret2
      rw [R.out]
      exact ⟨rfl, b6⟩
  · have HTO := Lib.hid (toM_one h1)
    have h1z : ¬ (1 : Int) < (ss.length : Int) := by omega
    clear hs hx h1 h0
    go_enter Tryz.func11, Tryz.ntmps11
    go_wp2_with fail
    refine CA.out.mono ?_
    rintro e W4 ⟨hR, hbn⟩
    have b4 := b3.st hbn
    have B2 := B2.below hbn B2.lt
    have B3 := B3.below hbn B3.lt
    clear t4 u4 c8 s1 d0 d1 d2 CA hY1 hY2 hY3
    cases hf : findM s.t ts with
    | none =>
      rw [hf] at hR
      have hR : e = .returned (.tuple #[.agg #[.int .i64 0, .int .i64 0, .slice none 0 0, .slice none 0 0], .int .i64 22]) := hR
      subst hR
      have R := Lib.hid (baseM_none (cl := cl) HX.out hf)
      clear hf
      go_wp2_with fail
      go_ret2
      rw [R.out]
      exact ⟨rfl, b4.al _⟩
    | some y =>
      rw [hf] at hR
      obtain ⟨A8, c8, A9, c9, rfl, r8, r9⟩ := hR
      have R := Lib.hid (baseM_some (cl := cl) HX.out hf)
      have hsm := HTR.out y (findM_mem hf)
      obtain ⟨W5, hW5⟩ : ∃ Y, W4.alloc (.cells #[.int .i64 y.f, .int .i64 y.t, .slice A8 y.bs.length c8, .slice A9 y.rs.length c9] 104) = Y := ⟨_, rfl⟩
      have b45 : Below W4.heap.size W4 W5 := by rw [← hW5]; exact (Below.refl _ _).al _
      have b5 := b4.st b45
      have B2 := B2.below b45 B2.lt
      have B3 := B3.below b45 B3.lt
      have B5 : Blk W5 W4.heap.size #[.int .i64 y.f, .int .i64 y.t, .slice A8 y.bs.length c8, .slice A9 y.rs.length c9] 104 := by rw [← hW5]; exact Blk.new W4 _ _
      have CR := Lib.hid (trate_any y.f y.t s.t cl s.pt ⟨#[]⟩ c8 c9 (r8.st b45) (r9.st b45) hsm.1 hsm.2)
      have v0 := B5.cell 0 (v := .int .i64 y.f) rfl
      have v1 := B5.cell 1 (v := .int .i64 y.t) rfl
      have v2 := B5.cell 2 (v := .slice A8 y.bs.length c8) rfl
      have v3 := B5.cell 3 (v := .slice A9 y.rs.length c9) rfl
      have z0 := B3.cell 0 (v := .string s.pt) rfl
      have z1 := B3.cell 1 (v := .int .i64 s.t) rfl
      have z3 := B2.cell 3 (v := .int .i64 cl) rfl
      rw [HTO.out] at R
      clear hf r8 r9 hsm hbn b45 b4
      go_wp2_with fail
      refine CR.out.mono ?_
      rintro e W6 ⟨rfl, hbn⟩
      have b6 := b5.st hbn
      go_wp2_with fail
      go_ret2
      rw [R.out]
      exact ⟨rfl, b6⟩
end Go.Proofs.YtcpfiiapfggmpaaGreat
