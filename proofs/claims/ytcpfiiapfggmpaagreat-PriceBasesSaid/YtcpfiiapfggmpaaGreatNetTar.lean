/- The reference's small checks of tariffs, walked. -/
import Derived.Test.YtcpfiiapfggmpaaGreatNetSys
import Derived.Test.YtcpfiiapfggmpaaGreatPrcTf
set_option linter.unusedSimpArgs false
set_option linter.unusedSimpArgs false
namespace Go.Proofs.YtcpfiiapfggmpaaGreat
open Go.RowKit Go.Lib

/-- a bool is returned -/
def BoolR (e : Ending) : Prop := ∃ b : Bool, e = .returned (.bool b)
set_option maxRecDepth 100000 in
set_option maxHeartbeats 4000000 in
theorem vwin_any (d f t : Int) (w : World) : Calls Tryz.prog 101 #[.agg #[.int .i64 d, .int .i64 f, .int .i64 t]] w fun e w' => BoolR e ∧ Below w.heap.size w w' := by
  go_enter Tryz.func101, Tryz.ntmps101
  go_wp2
  all_goals (go_ret; exact ⟨⟨_, rfl⟩, (Below.refl _ _).al _⟩)
set_option maxRecDepth 100000 in
set_option maxHeartbeats 4000000 in
theorem rvalid5_any (f t : Int) (w : World) : Calls Tryz.prog 38 #[.agg #[.int .i64 f, .int .i64 t]] w fun e w' => BoolR e ∧ Below w.heap.size w w' := by
  go_enter Tryz.func38, Tryz.ntmps38
  go_wp2
  all_goals (go_ret; exact ⟨⟨_, rfl⟩, (Below.refl _ _).al _⟩)

structure Bd where
  name : ByteArray
  d : Int
  f : Int
  t : Int
def encBd (x : Bd) : List Value := [.string x.name, .int .i64 x.d, .int .i64 x.f, .int .i64 x.t]
theorem encBd_ok : Enc encBd 4 := ⟨fun _ => rfl, fun x u hu => by simp [encBd] at hu; rcases hu with rfl | rfl | rfl | rfl <;> rfl⟩
theorem Rd.bd {w : World} {B : Nat} {A : Option Addr} {l : List Bd} (h : Rd encBd 4 w B A l) {i : Nat} (hi : i < l.length) :
    ∃ b off p, A = some ⟨b, off, none⟩ ∧ b < B ∧ l[i]? = some p ∧ w.cell? ⟨b, off + i * 4, none⟩ = some (.string p.name) ∧ w.cell? ⟨b, off + i * 4 + 1, none⟩ = some (.int .i64 p.d) ∧ w.cell? ⟨b, off + i * 4 + 2, none⟩ = some (.int .i64 p.f) ∧ w.cell? ⟨b, off + i * 4 + 3, none⟩ = some (.int .i64 p.t) := by
  obtain ⟨b, off, x, hA, hb, hx, hc⟩ := h.at_ hi
  exact ⟨b, off, x, hA, hb, hx, hc 0 _ rfl, hc 1 _ rfl, hc 2 _ rfl, hc 3 _ rfl⟩
set_option maxRecDepth 100000 in
set_option maxHeartbeats 4000000 in
theorem named_any {A : Option Addr} (c : Nat) {l : List Bd} (s : ByteArray) {w : World} (h : Rd encBd 4 w w.heap.size A l) (hl : l.length ≤ 9223372036854775807) :
    Calls Tryz.prog 146 #[.slice A l.length c, .string s] w fun e w' => BoolR e ∧ w' = w := by
  have H := Lib.hid h
  clear h
  go_enter Tryz.func146, Tryz.ntmps146
  go_wp2_with fail
  go_loopw [5] (fun i wr => ∃ k : Nat, k ≤ l.length ∧ i = .int .i64 k ∧ wr = w) (fun i _ => l.length - (RowKit.intOf i).toNat)
  case atStart => exact ⟨0, Nat.zero_le _, rfl, rfl⟩
  case round =>
    obtain ⟨k, hk, rfl, hw⟩ := hrel
    have hw := hw.symm
    subst hw
    have k1 : (0 : Int) ≤ (k : Int) := by omega
    by_cases hi : k < l.length
    · have k2 : (k : Int) < (l.length : Int) := by omega
      obtain ⟨b, off, p, rfl, hb, hx, d0, d1, d2, d3⟩ := H.out.bd hi
      have HK := Lib.hid hi
      clear hx hi hb d1 d2 d3
      have he2 : (p.name.toList == s.toList) = eqS p.name s := rfl
      cases he : eqS p.name s
      all_goals
        rw [he] at he2
        clear he
        go_wp2_with fail
        first
        | (go_ret; exact ⟨⟨_, rfl⟩, rfl⟩)
        | (go_roundw; (case rel => exact ⟨k + 1, HK.out, by go_num, by first | rfl | trivial⟩); (case measure => have := HK.out; simp [RowKit.intOf]; omega))
    · obtain rfl : k = l.length := by omega
      go_wp2_with fail
      go_ret
      exact ⟨⟨_, rfl⟩, rfl⟩

set_option maxRecDepth 100000 in
set_option maxHeartbeats 8000000 in
theorem tplace_any {pA lA sA : Option Addr} (pc lc sc : Nat) {pts : List Pt} {lks : List Lk} {sys : List Sy} (rf rt : ByteArray) (rcl : Int) (rb : ByteArray) (rct : Int) {w : World} (h : TOk w pA lA sA pts lks sys) (hsc : sys.length ≤ sc) :
    Calls Tryz.prog 145 #[.agg #[.slice pA pts.length pc, .slice lA lks.length lc, .slice sA sys.length sc], .agg #[.string rf, .string rt, .int .i64 rcl, .string rb, .int .i64 rct]] w fun e w' => BoolR e ∧ Below w.heap.size w w' := by
  obtain ⟨Y1, hY1⟩ : ∃ Y, w.alloc (.cells #[.slice pA pts.length pc, .slice lA lks.length lc, .slice sA sys.length sc] 28) = Y := ⟨_, rfl⟩
  obtain ⟨Y2, hY2⟩ : ∃ Y, Y1.alloc (.cells #[.string rf, .string rt, .int .i64 rcl, .string rb, .int .i64 rct] 107) = Y := ⟨_, rfl⟩
  have bW : Below w.heap.size w Y2 := by rw [← hY2, ← hY1]; exact ((Below.refl _ w).al _).al _
  have B1 : Blk Y2 w.heap.size #[.slice pA pts.length pc, .slice lA lks.length lc, .slice sA sys.length sc] 28 := by rw [← hY2, ← hY1]; exact (Blk.new w _ _).alloc _
  have B2 : Blk Y2 Y1.heap.size #[.string rf, .string rt, .int .i64 rcl, .string rb, .int .i64 rct] 107 := by rw [← hY2]; exact Blk.new Y1 _ _
  have CK := Lib.hid (fun (s : ByteArray) (X : World) (hX : Below w.heap.size w X) => kind_any pc lc sc s (h.st hX) hsc)
  have CS := Lib.hid (fun (s : ByteArray) (X : World) (hX : Below w.heap.size w X) => system_any pc lc sc s (h.st hX) hsc)
  clear h
  have z0 := B1.cell 0 (v := .slice pA pts.length pc) rfl; have z1 := B1.cell 1 (v := .slice lA lks.length lc) rfl; have z2 := B1.cell 2 (v := .slice sA sys.length sc) rfl; have y0 := B2.cell 0 (v := .string rf) rfl; have y1 := B2.cell 1 (v := .string rt) rfl
  cases he : emp rt
  · obtain ⟨e1, e2, e3⟩ := toList_neE he
    clear he
    go_enter Tryz.func145, Tryz.ntmps145
    go_wp2_with fail
    refine (CS.out _ _ bW).mono ?_
    rintro e W3 ⟨⟨x, b, rfl⟩, hbn⟩
    have bW := bW.st hbn; have B1 := B1.below hbn B1.lt; have B2 := B2.below hbn B2.lt; clear hbn
    clear z0 z1 z2 y0 y1 hY1 hY2
    obtain ⟨W4, hW4⟩ : ∃ Y, W3.alloc (.cells #[.string x.name, .bool x.cld, .int .i64 x.most] 141) = Y := ⟨_, rfl⟩
    have hbn : Below W3.heap.size W3 W4 := by rw [← hW4]; exact (Below.refl _ _).al _
    have BX : Blk W4 W3.heap.size #[.string x.name, .bool x.cld, .int .i64 x.most] 141 := by rw [← hW4]; exact Blk.new W3 _ _
    have bW := bW.st hbn; have B1 := B1.below hbn B1.lt; have B2 := B2.below hbn B2.lt; clear hbn
    have z0 := B1.cell 0 (v := .slice pA pts.length pc) rfl; have z1 := B1.cell 1 (v := .slice lA lks.length lc) rfl; have z2 := B1.cell 2 (v := .slice sA sys.length sc) rfl; have y0 := B2.cell 0 (v := .string rf) rfl; have y1 := B2.cell 1 (v := .string rt) rfl
    go_wp2_with fail
    refine (CS.out _ _ bW).mono ?_
    rintro e W5 ⟨⟨x2, b2, rfl⟩, hbn⟩
    have BX := BX.below hbn BX.lt
    have bW := bW.st hbn; have B1 := B1.below hbn B1.lt; have B2 := B2.below hbn B2.lt; clear hbn
    clear z0 z1 z2 y0 y1 hW4
    obtain ⟨W6, hW6⟩ : ∃ Y, W5.alloc (.cells #[.string x2.name, .bool x2.cld, .int .i64 x2.most] 141) = Y := ⟨_, rfl⟩
    have hbn : Below W5.heap.size W5 W6 := by rw [← hW6]; exact (Below.refl _ _).al _
    have BX2 : Blk W6 W5.heap.size #[.string x2.name, .bool x2.cld, .int .i64 x2.most] 141 := by rw [← hW6]; exact Blk.new W5 _ _
    have BX := BX.below hbn BX.lt
    have bW := bW.st hbn; have B1 := B1.below hbn B1.lt; have B2 := B2.below hbn B2.lt; clear hbn
    have z0 := B1.cell 0 (v := .slice pA pts.length pc) rfl; have z1 := B1.cell 1 (v := .slice lA lks.length lc) rfl; have z2 := B1.cell 2 (v := .slice sA sys.length sc) rfl; have y0 := B2.cell 0 (v := .string rf) rfl; have y1 := B2.cell 1 (v := .string rt) rfl
    go_wp2_with fail
    refine (CK.out _ _ bW).mono ?_
    rintro e W7 ⟨⟨n, rfl⟩, hbn⟩
    have BX := BX.below hbn BX.lt
    have BX2 := BX2.below hbn BX2.lt
    have bW := bW.st hbn; have B1 := B1.below hbn B1.lt; have B2 := B2.below hbn B2.lt; clear hbn
    clear z0 z1 z2 y0 y1 hW6
    have z0 := B1.cell 0 (v := .slice pA pts.length pc) rfl; have z1 := B1.cell 1 (v := .slice lA lks.length lc) rfl; have z2 := B1.cell 2 (v := .slice sA sys.length sc) rfl; have y0 := B2.cell 0 (v := .string rf) rfl; have y1 := B2.cell 1 (v := .string rt) rfl
    cases hn : (n == 2)
    · go_wp2_with fail
      go_ret
      exact ⟨⟨_, rfl⟩, bW⟩
    · go_wp2_with fail
      refine (CK.out _ _ bW).mono ?_
      rintro e W8 ⟨⟨n2, rfl⟩, hbn⟩
      have BX := BX.below hbn BX.lt
      have BX2 := BX2.below hbn BX2.lt
      have bW := bW.st hbn; have B1 := B1.below hbn B1.lt; have B2 := B2.below hbn B2.lt; clear hbn
      clear z0 z1 z2 y0 y1
      have x0 := BX.cell 0 (v := .string x.name) rfl
      have x20 := BX2.cell 0 (v := .string x2.name) rfl
      cases hn2 : (n2 == 3)
      · go_wp2_with fail
        go_ret
        exact ⟨⟨_, rfl⟩, bW⟩
      · go_wp2_with fail
        go_ret
        exact ⟨⟨_, rfl⟩, bW⟩
  · obtain ⟨e1, e2, e3⟩ := toList_eE he
    clear he
    go_enter Tryz.func145, Tryz.ntmps145
    go_wp2_with fail
    refine (CK.out _ _ bW).mono ?_
    rintro e W3 ⟨⟨n, rfl⟩, hbn⟩
    have bW := bW.st hbn; have B1 := B1.below hbn B1.lt; have B2 := B2.below hbn B2.lt; clear hbn
    go_wp2_with fail
    go_ret
    exact ⟨⟨_, rfl⟩, bW⟩
end Go.Proofs.YtcpfiiapfggmpaaGreat
