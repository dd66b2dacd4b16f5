/- The reference's check of a rate, walked. -/
import Derived.Test.YtelchfijalkibaaGreatDoorJValid
set_option linter.unusedSimpArgs false
set_option linter.unusedSimpArgs false
namespace Go.Proofs.YtelchfijalkibaaGreatDoor
open Go.RowKit Go.Lib

/-- an integer that is 0 only if P holds -/
def ZI (P : Prop) (e : Ending) : Prop := ∃ n : Int, e = .returned (.int .i64 n) ∧ (n = 0 → P)
theorem ZI.no {P : Prop} {n : Int} (hn : n ≠ 0) : ZI P (.returned (.int .i64 n)) := ⟨n, rfl, fun h => absurd h hn⟩
theorem ZI.yes {P : Prop} {n : Int} (h : P) : ZI P (.returned (.int .i64 n)) := ⟨n, rfl, fun _ => h⟩
/-- a rate's cents fit -/
def RtC (y : Rt) : Prop := 0 ≤ y.ct ∧ y.ct ≤ 1125899906842624
set_option maxRecDepth 100000 in
set_option maxHeartbeats 16000000 in
theorem rate_any {pA lA sA bA rA : Option Addr} (pc lc sc bc rc : Nat) {pts : List Pt} {lks : List Lk} {sys : List Sy} {bs : List Bd} {rs : List Rt} (tf tt : Int) (i : Nat) {w : World} (h : TOk w pA lA sA pts lks sys) (hsc : sys.length ≤ sc) (hb : Rd encBd 4 w w.heap.size bA bs) (hbl : bs.length ≤ 9223372036854775807)
    (hr : Rd encRt 5 w w.heap.size rA rs) (hrl : rs.length ≤ 9223372036854775807) (hi : i < rs.length) :
    Calls Tryz.prog 69 #[.agg #[.int .i64 tf, .int .i64 tt, .slice bA bs.length bc, .slice rA rs.length rc], .agg #[.slice pA pts.length pc, .slice lA lks.length lc, .slice sA sys.length sc], .int .i64 i] w fun e w' => ZI (∀ y, rs[i]? = some y → RtC y) e ∧ Below w.heap.size w w' := by
  obtain ⟨rg, ro, r, rfl, hg, hx, d0, d1, d2, d3, d4⟩ := hr.rt hi
  obtain ⟨rf, rt, rcl, rb, rct⟩ := r
  have HP : Hid (0 ≤ rct → rct ≤ 1125899906842624 → ∀ y, rs[i]? = some y → RtC y) := Lib.hid (fun a b y hy => by rw [hx] at hy; obtain rfl := Option.some.inj hy; exact ⟨by show 0 ≤ rct; omega, by show rct ≤ 1125899906842624; omega⟩)
  simp only at d0 d1 d2 d3 d4
  obtain ⟨Y1, hY1⟩ : ∃ Y, w.alloc (.cells #[.int .i64 tf, .int .i64 tt, .slice bA bs.length bc, .slice (some ⟨rg, ro, none⟩) rs.length rc] 77) = Y := ⟨_, rfl⟩
  obtain ⟨Y2, hY2⟩ : ∃ Y, Y1.alloc (.cells #[.slice pA pts.length pc, .slice lA lks.length lc, .slice sA sys.length sc] 28) = Y := ⟨_, rfl⟩
  obtain ⟨Y3, hY3⟩ : ∃ Y, Y2.alloc (.cells #[.string rf, .string rt, .int .i64 rcl, .string rb, .int .i64 rct] 80) = Y := ⟨_, rfl⟩
  have b2 : Below w.heap.size w Y2 := by rw [← hY2, ← hY1]; exact ((Below.refl _ w).al _).al _
  have bW : Below w.heap.size w Y3 := by rw [← hY3]; exact b2.al _
  have B1 : Blk Y3 w.heap.size #[.int .i64 tf, .int .i64 tt, .slice bA bs.length bc, .slice (some ⟨rg, ro, none⟩) rs.length rc] 77 := by rw [← hY3, ← hY2, ← hY1]; exact ((Blk.new w _ _).alloc _).alloc _
  have B2 : Blk Y3 Y1.heap.size #[.slice pA pts.length pc, .slice lA lks.length lc, .slice sA sys.length sc] 28 := by rw [← hY3, ← hY2]; exact (Blk.new Y1 _ _).alloc _
  have B3 : Blk Y3 Y2.heap.size #[.string rf, .string rt, .int .i64 rcl, .string rb, .int .i64 rct] 80 := by rw [← hY3]; exact Blk.new Y2 _ _
  have B12 : Blk Y2 w.heap.size #[.int .i64 tf, .int .i64 tt, .slice bA bs.length bc, .slice (some ⟨rg, ro, none⟩) rs.length rc] 77 := by rw [← hY2, ← hY1]; exact (Blk.new w _ _).alloc _
  have v3 := B12.cell 3 (v := .slice (some ⟨rg, ro, none⟩) rs.length rc) rfl
  have g0 := (b2.cell (p := ⟨rg, ro + i * 5, none⟩) hg).trans d0
  have g1 := (b2.cell (p := ⟨rg, ro + i * 5 + 1, none⟩) hg).trans d1
  have g2 := (b2.cell (p := ⟨rg, ro + i * 5 + 2, none⟩) hg).trans d2
  have g3 := (b2.cell (p := ⟨rg, ro + i * 5 + 3, none⟩) hg).trans d3
  have g4 := (b2.cell (p := ⟨rg, ro + i * 5 + 4, none⟩) hg).trans d4
  have i1 : (0 : Int) ≤ (i : Int) := by omega
  have i2 : (i : Int) < (rs.length : Int) := by omega
  have y0 := B3.cell 0 (v := .string rf) rfl; have y1 := B3.cell 1 (v := .string rt) rfl; have y2 := B3.cell 2 (v := .int .i64 rcl) rfl; have y3 := B3.cell 3 (v := .string rb) rfl; have y4 := B3.cell 4 (v := .int .i64 rct) rfl
  have z0 := B2.cell 0 (v := .slice pA pts.length pc) rfl; have z1 := B2.cell 1 (v := .slice lA lks.length lc) rfl; have z2 := B2.cell 2 (v := .slice sA sys.length sc) rfl
  have x2 := B1.cell 2 (v := .slice bA bs.length bc) rfl; have x3 := B1.cell 3 (v := .slice (some ⟨rg, ro, none⟩) rs.length rc) rfl
  have CP := Lib.hid (tplace_any pc lc sc rf rt rcl rb rct (h.st bW) hsc)
  have CN := Lib.hid (fun (X : World) (hX : Below w.heap.size w X) => named_any bc rb (hb.st hX) hbl)
  have HR := Lib.hid hr
  have HI := Lib.hid hi
  clear d0 d1 d2 d3 d4 hx hg b2 B12 h hb hr hi
  go_enter Tryz.func69, Tryz.ntmps69
  go_wp2_with fail
  refine CP.out.mono ?_
  rintro e W4 ⟨⟨b, rfl⟩, hbn⟩
  have bW := bW.st hbn; have B1 := B1.below hbn B1.lt; have B2 := B2.below hbn B2.lt; have B3 := B3.below hbn B3.lt
  clear hbn CP g0 g1 g2 g3 g4 v3 y0 y1 y2 y3 y4 z0 z1 z2 x2 x3 hY1 hY2 hY3
  cases b
  · go_wp2_with fail
    go_ret
    exact ⟨ZI.no (by simp), bW⟩
  have y0 := B3.cell 0 (v := .string rf) rfl; have y1 := B3.cell 1 (v := .string rt) rfl; have y2 := B3.cell 2 (v := .int .i64 rcl) rfl; have y3 := B3.cell 3 (v := .string rb) rfl; have y4 := B3.cell 4 (v := .int .i64 rct) rfl
  have x2 := B1.cell 2 (v := .slice bA bs.length bc) rfl; have x3 := B1.cell 3 (v := .slice (some ⟨rg, ro, none⟩) rs.length rc) rfl
  by_cases a1 : rcl < 1
  · go_wp2_with fail
    go_ret
    exact ⟨ZI.no (by simp), bW⟩
  by_cases a2 : 9 < rcl
  · go_wp2_with fail
    go_ret
    exact ⟨ZI.no (by simp), bW⟩
  have HB3 := Lib.hid B3
  have HB1 := Lib.hid B1
  have HBW := Lib.hid bW
  have HC := Lib.hid (CN.out W4 bW)
  cases he : emp rb
  case' false =>
    obtain ⟨e1, e2, e3⟩ := toList_neE he
    go_wp2_with fail
    refine HC.out.mono ?_
    rintro e w' ⟨⟨b, rfl⟩, hw'⟩
    rw [hw']
    clear hw' w'
    cases b
    · go_wp2_with fail
      go_ret
      exact ⟨ZI.no (by simp), bW⟩
  case' true =>
    obtain ⟨e1, e2, e3⟩ := toList_eE he
  all_goals
    clear he
    by_cases a3 : rct < 0
    · go_wp2_with fail
      go_ret
      exact ⟨ZI.no (by simp), bW⟩
    by_cases a4 : 1125899906842624 < rct
    · go_wp2_with fail
      go_ret
      exact ⟨ZI.no (by simp), bW⟩
    have HP0 := Lib.hid (HP.out (by omega) (by omega))
    go_wp2_with fail
    clear y0 y1 y2 y3 y4 x2 x3 B1 B2 B3 bW e1 e2 e3
    go_loopw [8] (fun j wr => ∃ k : Nat, k ≤ i ∧ j = .int .i64 k ∧ Below W4.heap.size W4 wr) (fun j _ => i - (RowKit.intOf j).toNat)
    case atStart => exact ⟨0, Nat.zero_le _, rfl, Below.refl _ _⟩
    case round =>
      obtain ⟨k, hk, rfl, bY⟩ := hrel
      have k1 : (0 : Int) ≤ (k : Int) := by omega
      have B1 := HB1.out.below bY HB1.out.lt
      have B3 := HB3.out.below bY HB3.out.lt
      have bW := HBW.out.st bY
      by_cases hki : k < i
      · have k2 : (k : Int) < (i : Int) := by omega
        have k3 : (k : Int) < (rs.length : Int) := by have := HI.out; omega
        obtain ⟨b', off', x, hA, hb, hx, d0, d1, d2, d3, d4⟩ := (HR.out.st bW).rt (i := k) (by have := HI.out; omega)
        injection hA with hA
        injection hA with q1 q2
        subst q1 q2
        obtain ⟨xf, xt, xcl, xb, xct⟩ := x
        simp only at d0 d1 d2 d3 d4
        have HK := Lib.hid hki
        obtain ⟨Y5, hY5⟩ : ∃ Y, wr.alloc (.cells #[.string xf, .string xt, .int .i64 xcl, .string xb, .int .i64 xct] 80) = Y := ⟨_, rfl⟩
        have b5 : Below wr.heap.size wr Y5 := by rw [← hY5]; exact (Below.refl _ wr).al _
        have B5 : Blk Y5 wr.heap.size #[.string xf, .string xt, .int .i64 xcl, .string xb, .int .i64 xct] 80 := by rw [← hY5]; exact Blk.new wr _ _
        have x3 := B1.cell 3 (v := .slice (some ⟨rg, ro, none⟩) rs.length rc) rfl
        have B3 := B3.below b5 B3.lt
        have bW5 := bW.st b5
        have bY5 := bY.st b5
        have y0 := B3.cell 0 (v := .string rf) rfl; have y1 := B3.cell 1 (v := .string rt) rfl; have y2 := B3.cell 2 (v := .int .i64 rcl) rfl; have y3 := B3.cell 3 (v := .string rb) rfl; have y4 := B3.cell 4 (v := .int .i64 rct) rfl
        have p0 := B5.cell 0 (v := .string xf) rfl
        have p1 := B5.cell 1 (v := .string xt) rfl
        have p2 := B5.cell 2 (v := .int .i64 xcl) rfl
        have p3 := B5.cell 3 (v := .string xb) rfl
        have t0 : (xf.toList == rf.toList) = eqS xf rf := rfl
        have t1 : (xt.toList == rt.toList) = eqS xt rt := rfl
        have t3 : (xb.toList == rb.toList) = eqS xb rb := rfl
        clear hx hb hki B1 b5 B5 bW bY
        cases u0 : eqS xf rf
        · rw [u0] at t0
          clear u0 t1 t3
          go_wp2_with fail
          go_roundw
          case rel => exact ⟨k + 1, HK.out, by go_num, bY5⟩
          case measure => have := HK.out; simp [RowKit.intOf]; omega
        · rw [u0] at t0
          cases u1 : eqS xt rt
          · rw [u1] at t1
            clear u0 u1 t3
            go_wp2_with fail
            go_roundw
            case rel => exact ⟨k + 1, HK.out, by go_num, bY5⟩
            case measure => have := HK.out; simp [RowKit.intOf]; omega
          · rw [u1] at t1
            by_cases u2 : xcl = rcl
            case' neg =>
              have u4 : (xcl == rcl) = false := by simp [u2]
              have u5 : decide (xcl = rcl) = false := decide_eq_false u2
              clear u0 u1 t3
              go_wp2_with fail
              go_roundw
              case rel => exact ⟨k + 1, HK.out, by go_num, bY5⟩
              case measure => have := HK.out; simp [RowKit.intOf]; omega
            case' pos =>
              subst u2
              cases u3 : eqS xb rb
              · rw [u3] at t3
                clear u0 u1 u3
                go_wp2_with fail
                go_roundw
                case rel => exact ⟨k + 1, HK.out, by go_num, bY5⟩
                case measure => have := HK.out; simp [RowKit.intOf]; omega
              · rw [u3] at t3
                clear u0 u1 u3
                go_wp2_with fail
                go_ret
                exact ⟨ZI.no (by simp), bW5⟩
      · obtain rfl : k = i := by omega
        go_wp2_with fail
        go_ret
        exact ⟨ZI.yes HP0.out, bW⟩
end Go.Proofs.YtelchfijalkibaaGreatDoor
