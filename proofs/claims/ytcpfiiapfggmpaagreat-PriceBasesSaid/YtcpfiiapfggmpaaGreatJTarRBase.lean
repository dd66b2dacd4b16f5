/- Joined texts: TarRBase, PrcBase. -/
import Derived.Test.YtcpfiiapfggmpaaGreatTarBase
import Derived.Test.YtcpfiiapfggmpaaGreatPrcTf
/- The reference's price of a trip by the tariff, walked. -/
set_option linter.unusedSimpArgs false
namespace Go.Proofs.YtcpfiiapfggmpaaGreat
open Go.RowKit Go.Lib

set_option maxRecDepth 100000 in
set_option maxHeartbeats 8000000 in
theorem rbase_any {tA xA : Option Addr} (tc xc : Nat) (o0 o1 o2 o3 o4 o5 o6 o7 o9 o10 o11 o12 o13 o14 o15 o16 o17 o18 o19 o20 o21 o22 o23 o24 : Value) (xi xv xy : ByteArray) (cl : Int) {ts : List Ta} {ss : List Stp} {w : World}
    (h : Rd encTa 4 w w.heap.size tA ts) (hok : ∀ y ∈ ts, TaOk w y ∧ TaSm y) (hl : ts.length ≤ 1000000) (hs : Rd encSp 3 w w.heap.size xA ss) (hsl : ss.length ≤ 9223372036854775807) :
    Calls Tryz.prog 12 #[.agg #[o0, o1, o2, o3, o4, o5, o6, o7, .slice tA ts.length tc, o9, o10, o11, o12, o13, o14, o15, o16, o17, o18, o19, o20, o21, o22, o23, o24], .agg #[.string xi, .string xv, .string xy, .int .i64 cl, .slice xA ss.length xc]] w fun e w' => e = .returned (.tuple #[.int .i64 (baseM ts cl ss).1, .int .i64 (baseM ts cl ss).2]) ∧ Below w.heap.size w w' := by
  obtain ⟨Y1, hY1⟩ : ∃ Y, w.alloc (.cells #[o0, o1, o2, o3, o4, o5, o6, o7, .slice tA ts.length tc, o9, o10, o11, o12, o13, o14, o15, o16, o17, o18, o19, o20, o21, o22, o23, o24] 46) = Y := ⟨_, rfl⟩
  obtain ⟨Y2, hY2⟩ : ∃ Y, Y1.alloc (.cells #[.string xi, .string xv, .string xy, .int .i64 cl, .slice xA ss.length xc] 49) = Y := ⟨_, rfl⟩
  have b1 : Below w.heap.size w Y1 := by rw [← hY1]; exact (Below.refl _ w).al _
  have b2 : Below w.heap.size w Y2 := by rw [← hY2]; exact b1.al _
  have B2 : Blk Y2 Y1.heap.size #[.string xi, .string xv, .string xy, .int .i64 cl, .slice xA ss.length xc] 49 := by rw [← hY2]; exact Blk.new Y1 _ _
  have B1 : Blk Y2 w.heap.size #[o0, o1, o2, o3, o4, o5, o6, o7, .slice tA ts.length tc, o9, o10, o11, o12, o13, o14, o15, o16, o17, o18, o19, o20, o21, o22, o23, o24] 46 := by rw [← hY2, ← hY1]; exact (Blk.new w _ _).alloc _
  have t4 := B2.cell 4 (v := .slice xA ss.length xc) rfl
  have HTR := Lib.hid (fun (y : Ta) (hy : y ∈ ts) => hok y hy)
  by_cases h0 : ss.length = 0
  · have R := Lib.hid (baseM_nil (ts := ts) (cl := cl) h0)
    have h0b : ((ss.length : Int) == 0) = true := by simp [h0]
    clear h0 h hs hok
    go_enter Tryz.func12, Tryz.ntmps12
    go_wp2_with fail
    go_ret2
    rw [R.out]
    exact ⟨rfl, b2⟩
  obtain ⟨b, off, s, rfl, hb, hx, d0, d1, d2⟩ := (hs.st b2).stp (i := 0) (by omega)
  simp only [Nat.zero_mul, Nat.add_zero] at d0 d1 d2
  have h0b : ((ss.length : Int) == 0) = false := by rw [beq_eq_false_iff_ne]; omega
  have hpos : (0 : Int) < (ss.length : Int) := by omega
  obtain ⟨Y3, hY3⟩ : ∃ Y, Y2.alloc (.cells #[.string s.pt, .int .i64 s.t, .string s.pg] 109) = Y := ⟨_, rfl⟩
  have b3 : Below w.heap.size w Y3 := by rw [← hY3]; exact b2.al _
  have B3 : Blk Y3 Y2.heap.size #[.string s.pt, .int .i64 s.t, .string s.pg] 109 := by rw [← hY3]; exact Blk.new Y2 _ _
  have B2 := (show Blk Y3 Y1.heap.size _ _ by rw [← hY3]; exact B2.alloc _)
  have B1 : Blk Y3 w.heap.size #[o0, o1, o2, o3, o4, o5, o6, o7, .slice tA ts.length tc, o9, o10, o11, o12, o13, o14, o15, o16, o17, o18, o19, o20, o21, o22, o23, o24] 46 := by rw [← hY3]; exact B1.alloc _
  have u4 := B2.cell 4 (v := .slice (some ⟨b, off, none⟩) ss.length xc) rfl
  have c8 := B1.cell 8 (v := .slice tA ts.length tc) rfl
  have s1 := B3.cell 1 (v := .int .i64 s.t) rfl
  have CA := Lib.hid (rtat_any tc s.t (h.st b3) hl)
  have HX := Lib.hid hx
  have HB1 := Lib.hid b1
  clear h hok b1 b2 B1 hb
  by_cases h1 : 1 < ss.length
  · obtain ⟨m, hm⟩ : ∃ m, m + 1 = ss.length := ⟨ss.length - 1, by omega⟩
    obtain ⟨b', off', s', hA', hbw, hx', g0w, g1w, g2w⟩ := hs.stp (i := m) (by omega)
    injection hA' with hA'
    injection hA' with q1 q2
    subst q1
    subst q2
    have HTO := Lib.hid (toM_more hm h1 hx')
    have h1z : (1 : Int) < (ss.length : Int) := by omega
    have hwm : IntKind.i64.wrap ((ss.length : Int) - 1) = (m : Int) := by rw [show (ss.length : Int) - 1 = (m : Int) by omega]; exact IntWalk.i64_in _ (by omega)
    have m1 : (0 : Int) ≤ (m : Int) := by omega
    have m2 : (m : Int) < (ss.length : Int) := by omega
    have HG0 := Lib.hid (fun (X : World) (hX : Below w.heap.size w X) => (hX.cell (p := ⟨b, off + m * 3, none⟩) hbw).trans g0w)
    clear hs hx hx' hbw g0w g1w g2w h1 hm h0
    go_enter Tryz.func12, Tryz.ntmps12
    go_wp2_with fail
    refine CA.out.mono ?_
    rintro e W4 ⟨rfl, hbn⟩
    have b4 := b3.st hbn
    have B2 := B2.below hbn B2.lt
    have B3 := B3.below hbn B3.lt
    have e4 := B2.cell 4 (v := .slice (some ⟨b, off, none⟩) ss.length xc) rfl
    clear t4 u4 c8 s1 d0 d1 d2 CA hY1 hY2 hY3
    cases hf : findM s.t ts with
    | none =>
      simp only [AtV]
      have R := Lib.hid (baseM_none (cl := cl) HX.out hf)
      clear hf
      go_wp2_with fail
      go_ret2
      rw [R.out]
      exact ⟨rfl, b4.al _⟩
    | some y =>
      simp only [AtV]
      have R := Lib.hid (baseM_some (cl := cl) HX.out hf)
      have hsm := HTR.out y (findM_mem hf)
      obtain ⟨W5, hW5⟩ : ∃ Y, W4.alloc (.cells #[.int .i64 y.f, .int .i64 y.t, .slice y.bA y.bs.length y.bc, .slice y.rA y.rs.length y.rc] 104) = Y := ⟨_, rfl⟩
      have b45 : Below W4.heap.size W4 W5 := by rw [← hW5]; exact (Below.refl _ _).al _
      have b5 := b4.st b45
      have B2 := B2.below b45 B2.lt
      have B3 := B3.below b45 B3.lt
      have B5 : Blk W5 W4.heap.size #[.int .i64 y.f, .int .i64 y.t, .slice y.bA y.bs.length y.bc, .slice y.rA y.rs.length y.rc] 104 := by rw [← hW5]; exact Blk.new W4 _ _
      have CR := Lib.hid (rrate_any y.f y.t s.t cl s.pt s'.pt y.bc y.rc (hsm.1.st b5).b (hsm.1.st b5).r hsm.2.1 hsm.2.2)
      have v0 := B5.cell 0 (v := .int .i64 y.f) rfl
      have v1 := B5.cell 1 (v := .int .i64 y.t) rfl
      have v2 := B5.cell 2 (v := .slice y.bA y.bs.length y.bc) rfl
      have v3 := B5.cell 3 (v := .slice y.rA y.rs.length y.rc) rfl
      have z0 := B3.cell 0 (v := .string s.pt) rfl
      have z1 := B3.cell 1 (v := .int .i64 s.t) rfl
      have z3 := B2.cell 3 (v := .int .i64 cl) rfl
      have z4 := B2.cell 4 (v := .slice (some ⟨b, off, none⟩) ss.length xc) rfl
      have g0 := HG0.out W5 b5
      rw [HTO.out] at R
      clear hf hsm hbn b45 b4
      go_wp2_with fail
      refine CR.out.mono ?_
      rintro e W6 ⟨rfl, hbn⟩
      have b6 := b5.st hbn
      go_wp2_with fail
      go_ret2
      rw [R.out]
      exact ⟨rfl, b6⟩
  · have HTO := Lib.hid (toM_one h1)
    have h1z : ¬ (1 : Int) < (ss.length : Int) := by omega
    clear hs hx h1 h0
    go_enter Tryz.func12, Tryz.ntmps12
    go_wp2_with fail
    refine CA.out.mono ?_
    rintro e W4 ⟨rfl, hbn⟩
    have b4 := b3.st hbn
    have B2 := B2.below hbn B2.lt
    have B3 := B3.below hbn B3.lt
    have e4 := B2.cell 4 (v := .slice (some ⟨b, off, none⟩) ss.length xc) rfl
    clear t4 u4 c8 s1 d0 d1 d2 CA hY1 hY2 hY3
    cases hf : findM s.t ts with
    | none =>
      simp only [AtV]
      have R := Lib.hid (baseM_none (cl := cl) HX.out hf)
      clear hf
      go_wp2_with fail
      go_ret2
      rw [R.out]
      exact ⟨rfl, b4.al _⟩
    | some y =>
      simp only [AtV]
      have R := Lib.hid (baseM_some (cl := cl) HX.out hf)
      have hsm := HTR.out y (findM_mem hf)
      obtain ⟨W5, hW5⟩ : ∃ Y, W4.alloc (.cells #[.int .i64 y.f, .int .i64 y.t, .slice y.bA y.bs.length y.bc, .slice y.rA y.rs.length y.rc] 104) = Y := ⟨_, rfl⟩
      have b45 : Below W4.heap.size W4 W5 := by rw [← hW5]; exact (Below.refl _ _).al _
      have b5 := b4.st b45
      have B2 := B2.below b45 B2.lt
      have B3 := B3.below b45 B3.lt
      have B5 : Blk W5 W4.heap.size #[.int .i64 y.f, .int .i64 y.t, .slice y.bA y.bs.length y.bc, .slice y.rA y.rs.length y.rc] 104 := by rw [← hW5]; exact Blk.new W4 _ _
      have CR := Lib.hid (rrate_any y.f y.t s.t cl s.pt ⟨#[]⟩ y.bc y.rc (hsm.1.st b5).b (hsm.1.st b5).r hsm.2.1 hsm.2.2)
      have v0 := B5.cell 0 (v := .int .i64 y.f) rfl
      have v1 := B5.cell 1 (v := .int .i64 y.t) rfl
      have v2 := B5.cell 2 (v := .slice y.bA y.bs.length y.bc) rfl
      have v3 := B5.cell 3 (v := .slice y.rA y.rs.length y.rc) rfl
      have z0 := B3.cell 0 (v := .string s.pt) rfl
      have z1 := B3.cell 1 (v := .int .i64 s.t) rfl
      have z3 := B2.cell 3 (v := .int .i64 cl) rfl
      have z4 := B2.cell 4 (v := .slice (some ⟨b, off, none⟩) ss.length xc) rfl
      rw [HTO.out] at R
      clear hf hsm hbn b45 b4
      go_wp2_with fail
      refine CR.out.mono ?_
      rintro e W6 ⟨rfl, hbn⟩
      have b6 := b5.st hbn
      go_wp2_with fail
      go_ret2
      rw [R.out]
      exact ⟨rfl, b6⟩
end Go.Proofs.YtcpfiiapfggmpaaGreat
/- price.Base as the awake test meets it, walked. -/
set_option linter.unusedSimpArgs false
namespace Go.Proofs.YtcpfiiapfggmpaaGreat
open Go.RowKit Go.Lib

set_option maxRecDepth 100000 in
set_option maxHeartbeats 4000000 in
theorem pbase_none {tA zA : Option Addr} {tc zc : Nat} (w : World) :
    Calls Tryz.prog 11 #[.agg #[.slice none 0 0, .slice none 0 0, .slice none 0 0, .slice none 0 0, .slice none 0 0, .slice none 0 0, .int .i64 0, .int .i64 0, .slice tA 1 tc, .int .i64 0, .slice none 0 0, .slice none 0 0, .slice none 0 0, .slice none 0 0, .slice none 0 0, .slice zA 1 zc, .slice none 0 0, .slice none 0 0, .slice none 0 0, .slice none 0 0, .slice none 0 0, .slice none 0 0, .int .i64 0, .slice none 0 0, .string ⟨#[]⟩], .agg #[.string ⟨#[]⟩, .string ⟨#[]⟩, .string ⟨#[]⟩, .int .i64 0, .slice none 0 0]] w fun e w' => e = .returned (.tuple #[.int .i64 0, .int .i64 1]) ∧ Below w.heap.size w w' := by
  go_enter Tryz.func11, Tryz.ntmps11
  go_wp2
  go_ret2
  exact ⟨rfl, ((Below.refl _ _).al _).al _⟩

set_option maxRecDepth 100000 in
set_option maxHeartbeats 4000000 in
theorem pbase_one {tb sb : Nat} {ra : Addr} {zA : Option Addr} {tc sc zc rc : Nat} {w : World} (htb : tb < w.heap.size) (hsb : sb < w.heap.size)
    (h0 : w.cell? ⟨tb, 0, none⟩ = some (.int .i64 0)) (h1 : w.cell? ⟨tb, 1, none⟩ = some (.int .i64 1000)) (h2 : w.cell? ⟨tb, 2, none⟩ = some (.slice none 0 0)) (h3 : w.cell? ⟨tb, 3, none⟩ = some (.slice (some ra) 1 rc))
    (k0 : w.cell? ⟨sb, 0, none⟩ = some (.string ⟨#[111]⟩)) (k1 : w.cell? ⟨sb, 1, none⟩ = some (.int .i64 100)) (k2 : w.cell? ⟨sb, 2, none⟩ = some (.string ⟨#[99, 49, 46, 53]⟩))
    (hr : Rd encRt 5 w w.heap.size (some ra) [⟨⟨#[111]⟩, ⟨#[]⟩, 1, ⟨#[]⟩, 400⟩]) :
    Calls Tryz.prog 11 #[.agg #[.slice none 0 0, .slice none 0 0, .slice none 0 0, .slice none 0 0, .slice none 0 0, .slice none 0 0, .int .i64 0, .int .i64 0, .slice (some ⟨tb, 0, none⟩) 1 tc, .int .i64 0, .slice none 0 0, .slice none 0 0, .slice none 0 0, .slice none 0 0, .slice none 0 0, .slice zA 1 zc, .slice none 0 0, .slice none 0 0, .slice none 0 0, .slice none 0 0, .slice none 0 0, .slice none 0 0, .int .i64 0, .slice none 0 0, .string ⟨#[]⟩], .agg #[.string ⟨#[99, 49, 46, 53]⟩, .string ⟨#[65, 66, 49, 50]⟩, .string ⟨#[109]⟩, .int .i64 1, .slice (some ⟨sb, 0, none⟩) 1 sc]] w fun e w' => e = .returned (.tuple #[.int .i64 400, .int .i64 0]) ∧ Below w.heap.size w w' := by
  obtain ⟨Y1, hY1⟩ : ∃ Y, w.alloc (.cells #[.slice none 0 0, .slice none 0 0, .slice none 0 0, .slice none 0 0, .slice none 0 0, .slice none 0 0, .int .i64 0, .int .i64 0, .slice (some ⟨tb, 0, none⟩) 1 tc, .int .i64 0, .slice none 0 0, .slice none 0 0, .slice none 0 0, .slice none 0 0, .slice none 0 0, .slice zA 1 zc, .slice none 0 0, .slice none 0 0, .slice none 0 0, .slice none 0 0, .slice none 0 0, .slice none 0 0, .int .i64 0, .slice none 0 0, .string ⟨#[]⟩] 46) = Y := ⟨_, rfl⟩
  obtain ⟨Y2, hY2⟩ : ∃ Y, Y1.alloc (.cells #[.string ⟨#[99, 49, 46, 53]⟩, .string ⟨#[65, 66, 49, 50]⟩, .string ⟨#[109]⟩, .int .i64 1, .slice (some ⟨sb, 0, none⟩) 1 sc] 49) = Y := ⟨_, rfl⟩
  obtain ⟨Y3, hY3⟩ : ∃ Y, Y2.alloc (.cells #[.string ⟨#[111]⟩, .int .i64 100, .string ⟨#[99, 49, 46, 53]⟩] 109) = Y := ⟨_, rfl⟩
  have b1 : Below w.heap.size w Y1 := by rw [← hY1]; exact (Below.refl _ w).al _
  have b2 : Below w.heap.size w Y2 := by rw [← hY2]; exact b1.al _
  have b3 : Below w.heap.size w Y3 := by rw [← hY3]; exact b2.al _
  have B1 : Blk Y3 w.heap.size #[.slice none 0 0, .slice none 0 0, .slice none 0 0, .slice none 0 0, .slice none 0 0, .slice none 0 0, .int .i64 0, .int .i64 0, .slice (some ⟨tb, 0, none⟩) 1 tc, .int .i64 0, .slice none 0 0, .slice none 0 0, .slice none 0 0, .slice none 0 0, .slice none 0 0, .slice zA 1 zc, .slice none 0 0, .slice none 0 0, .slice none 0 0, .slice none 0 0, .slice none 0 0, .slice none 0 0, .int .i64 0, .slice none 0 0, .string ⟨#[]⟩] 46 := by rw [← hY3, ← hY2, ← hY1]; exact ((Blk.new w _ _).alloc _).alloc _
  have B2 : Blk Y3 Y1.heap.size #[.string ⟨#[99, 49, 46, 53]⟩, .string ⟨#[65, 66, 49, 50]⟩, .string ⟨#[109]⟩, .int .i64 1, .slice (some ⟨sb, 0, none⟩) 1 sc] 49 := by rw [← hY3, ← hY2]; exact (Blk.new Y1 _ _).alloc _
  have B22 : Blk Y2 Y1.heap.size #[.string ⟨#[99, 49, 46, 53]⟩, .string ⟨#[65, 66, 49, 50]⟩, .string ⟨#[109]⟩, .int .i64 1, .slice (some ⟨sb, 0, none⟩) 1 sc] 49 := by rw [← hY2]; exact Blk.new Y1 _ _
  have B3 : Blk Y3 Y2.heap.size #[.string ⟨#[111]⟩, .int .i64 100, .string ⟨#[99, 49, 46, 53]⟩] 109 := by rw [← hY3]; exact Blk.new Y2 _ _
  have t4 := B22.cell 4 (v := .slice (some ⟨sb, 0, none⟩) 1 sc) rfl
  have u4 := B2.cell 4 (v := .slice (some ⟨sb, 0, none⟩) 1 sc) rfl
  have j0 := (b2.cell (p := ⟨sb, 0, none⟩) hsb).trans k0
  have j1 := (b2.cell (p := ⟨sb, 1, none⟩) hsb).trans k1
  have j2 := (b2.cell (p := ⟨sb, 2, none⟩) hsb).trans k2
  have c8 := B1.cell 8 (v := .slice (some ⟨tb, 0, none⟩) 1 tc) rfl
  have s1 := B3.cell 1 (v := .int .i64 100) rfl
  have CA := Lib.hid (tat_one (rs := [⟨⟨#[111]⟩, ⟨#[]⟩, 1, ⟨#[]⟩, 400⟩]) (b := tb) (off := 0) (a := ra) (rc := rc) (c := tc) ((b3.cell (p := ⟨tb, 0, none⟩) htb).trans h0) ((b3.cell (p := ⟨tb, 1, none⟩) htb).trans h1) ((b3.cell (p := ⟨tb, 2, none⟩) htb).trans h2) ((b3.cell (p := ⟨tb, 3, none⟩) htb).trans h3) (Nat.lt_of_lt_of_le htb b3.size) (hr.st b3) (by simp))
  clear h0 h1 h2 h3 k0 k1 k2 hr htb hsb b1 b2 B22
  go_enter Tryz.func11, Tryz.ntmps11
  go_wp2_with fail
  refine CA.out.mono ?_
  rintro e W4 ⟨A9, c9, rfl, hown, hbn⟩
  have b4 := b3.st hbn
  have B2 := B2.below hbn B2.lt
  have B3 := B3.below hbn B3.lt
  obtain ⟨W5, hW5⟩ : ∃ Y, W4.alloc (.cells #[.int .i64 0, .int .i64 1000, .slice none 0 0, .slice A9 1 c9] 104) = Y := ⟨_, rfl⟩
  have hb5 : Below W4.heap.size W4 W5 := by rw [← hW5]; exact (Below.refl _ _).al _
  have b5 := b4.st hb5
  have B2 := B2.below hb5 B2.lt
  have B3 := B3.below hb5 B3.lt
  have B5 : Blk W5 W4.heap.size #[.int .i64 0, .int .i64 1000, .slice none 0 0, .slice A9 1 c9] 104 := by rw [← hW5]; exact Blk.new W4 _ _
  have CR := Lib.hid (trate_one (rc := c9) ((hown.rd encRt_ok).st hb5))
  have v0 := B5.cell 0 (v := .int .i64 0) rfl
  have v1 := B5.cell 1 (v := .int .i64 1000) rfl
  have v2 := B5.cell 2 (v := .slice none 0 0) rfl
  have v3 := B5.cell 3 (v := .slice A9 1 c9) rfl
  have s0 := B3.cell 0 (v := .string ⟨#[111]⟩) rfl
  have s1 := B3.cell 1 (v := .int .i64 100) rfl
  have u3 := B2.cell 3 (v := .int .i64 1) rfl
  clear hbn hown CA B1 t4 u4 j0 j1 j2 c8
  go_wp2_with fail
  refine CR.out.mono ?_
  rintro e W6 ⟨rfl, hbn⟩
  have b6 := b5.st hbn
  go_wp2_with fail
  go_ret2
  exact ⟨rfl, b6⟩
end Go.Proofs.YtcpfiiapfggmpaaGreat
