/- Joined texts: Valid, Has, PrcTf, NetTar. -/
import Derived.Test.YtelchfijalkibaaGreatDoorJFirst
import Derived.IntWalk
import Derived.BigRegion
import Derived.Test.YtelchfijalkibaaGreatDoorJRelMath
import Derived.Deep.RegionHeld3
import Derived.Deep.DrawnRows
import Derived.Shelf.SlicesE.Clone
import Derived.Deep.RegionWith
import Derived.Laws.StructEq
import Derived.Outline
import Derived.Test.YtelchfijalkibaaGreatDoorNetSys
/- span.Valid, walked. -/
namespace Go.Proofs.YtelchfijalkibaaGreatDoor
open Go.RowKit Go.Lib

theorem valid_any (f t : Int) (w : World) :
    Calls Tryz.prog 95 #[.agg #[.int .i64 f, .int .i64 t]] w fun e w' => e = .returned (.bool (validB f t)) ∧ w.alloc (.cells #[.int .i64 f, .int .i64 t] 73) = w' := by
  unfold validB
  go_enter Tryz.func95, Tryz.ntmps95
  go_wp2
  all_goals (go_ret; exact ⟨ret_bool (by rw [Bool.eq_iff_iff]; simp; omega), rfl⟩)
end Go.Proofs.YtelchfijalkibaaGreatDoor
/- span.Has, walked. -/
namespace Go.Proofs.YtelchfijalkibaaGreatDoor
open Go.RowKit Go.Lib Go.Shelf

theorem contains_any (p : Iv → Bool) (g : Nat) (lb : Array Value) (eg : ∀ args w, (callFunc g args).run Tryz.prog w = .ok (.enter g args) w) {A : Option Addr} (c : Nat) {l : List Iv} {w : World}
    (hp : ∀ (W : World) (x : Iv), Below w.heap.size w W → Calls Tryz.prog g (#[.agg #[.int .i64 x.1, .int .i64 x.2]] ++ lb) W fun e w' => e = .returned (.bool (p x)) ∧ Below w.heap.size w w')
    (h : Rd encIv 2 w w.heap.size A l) (hl : l.length ≤ 100000000000) :
    Calls Tryz.prog 93 #[.slice A l.length c, .func (.func g) #[] lb] w fun e w' => e = .returned (.bool (l.any p)) ∧ Below w.heap.size w w' := by
  by_cases hne : l = []
  · subst hne
    clear h hp eg
    go_enter Tryz.func93, Tryz.ntmps93
    go_wp2_with go_in
    refine wp_loop_rounds 1 ?_
    rw [rounds_succ]
    go_wp2
    go_ret
    exact ⟨rfl, Below.refl _ _⟩
  · obtain ⟨b, off, rfl, hb, hc⟩ := h hne
    have hcon := AnyQ.slices_ContainsFunc Tryz.lay_containsf_f93 2 Tryz.isAgg73 Tryz.sizeOf73 encIv encIv_ok.1 p g lb eg b off l.length c l w (fun W x hW => hp W x hW) (Nat.le_refl _) (by omega) hb
      (fun j hj i v hi => hc j l[j]! (by rw [getElem!_pos l j hj]; exact List.getElem?_eq_getElem hj) i v hi)
    rw [List.take_length] at hcon
    exact hcon

theorem hasClosure_any (x : Iv) (t : Int) (b : Nat) (W : World) (hb : b < W.heap.size) (hc : W.cell? ⟨b, 0, none⟩ = some (.int .i64 t)) :
    Calls Tryz.prog 94 #[.agg #[.int .i64 x.1, .int .i64 x.2], .pointer (some ⟨b, 0, none⟩)] W fun e w' => e = .returned (.bool (validB x.1 x.2 && decide (x.1 ≤ t) && decide (t < x.2))) ∧ Below W.heap.size W w' := by
  obtain ⟨f, u⟩ := x
  have hbel := ((Below.refl W.heap.size W).al (.cells #[.int .i64 f, .int .i64 u] 73)).al (.cells #[.int .i64 f, .int .i64 u] 73)
  have hb2 : b < W.heap.size + 1 := by omega
  have hb3 : b ≠ W.heap.size := by omega
  have hb4 : b ≠ W.heap.size + 1 := by omega
  cases hv : validB f u
  · go_enter Tryz.func94, Tryz.ntmps94
    go_wp2_with (go_at_call 95; refine (valid_any _ _ _).mono ?_; rintro e w' ⟨rfl, rfl⟩)
    go_ret
    exact ⟨ret_bool (by simp), hbel⟩
  · by_cases h1 : f ≤ t
    · by_cases h2 : t < u
      · have R := Lib.hid (show (true && decide (f ≤ t) && decide (t < u)) = true by simp [h1, h2])
        go_enter Tryz.func94, Tryz.ntmps94
        go_wp2_with (go_at_call 95; refine (valid_any _ _ _).mono ?_; rintro e w' ⟨rfl, rfl⟩)
        go_ret
        exact ⟨ret_bool (by first | exact R.out.symm | (rw [R.out]; simp; omega)), hbel⟩
      · have R := Lib.hid (show (true && decide (f ≤ t) && decide (t < u)) = false by simp [h2])
        go_enter Tryz.func94, Tryz.ntmps94
        go_wp2_with (go_at_call 95; refine (valid_any _ _ _).mono ?_; rintro e w' ⟨rfl, rfl⟩)
        go_ret
        exact ⟨ret_bool (by first | exact R.out.symm | (rw [R.out]; simp; omega)), hbel⟩
    · have R := Lib.hid (show (true && decide (f ≤ t) && decide (t < u)) = false by simp [h1])
      go_enter Tryz.func94, Tryz.ntmps94
      go_wp2_with (go_at_call 95; refine (valid_any _ _ _).mono ?_; rintro e w' ⟨rfl, rfl⟩)
      go_ret
      exact ⟨ret_bool R.out.symm, hbel⟩

theorem has_any {A : Option Addr} (c : Nat) {l : List Iv} (t : Int) {w : World} (h : Rd encIv 2 w w.heap.size A l) (hl : l.length ≤ 100000000000) :
    Calls Tryz.prog 72 #[.slice A l.length c, .int .i64 t] w fun e w' => e = .returned (.bool (hasB l t)) ∧ Below w.heap.size w w' := by
  have eg : ∀ args w, (callFunc 94 args).run Tryz.prog w = .ok (.enter 94 args) w := enters_of Tryz.func94 (by kernel_rfl) rfl
  have hz : w.heap.size < (w.alloc (.cells #[.int .i64 t] 3)).heap.size := by simp
  have hb0 := (Below.refl w.heap.size w).al (.cells #[.int .i64 t] 3)
  have C := Lib.hid (contains_any (fun x => validB x.1 x.2 && decide (x.1 ≤ t) && decide (t < x.2)) 94 #[.pointer (some ⟨w.heap.size, 0, none⟩)] eg c (w := w.alloc (.cells #[.int .i64 t] 3))
    (fun W x hW => (hasClosure_any x t w.heap.size W (Nat.lt_of_lt_of_le hz hW.size) ((hW.cell (p := ⟨w.heap.size, 0, none⟩) hz).trans (by simp))).mono fun e w' ⟨he, hw'⟩ => ⟨he, hW.trans (hw'.mono hW.size)⟩)
    ((h.keep hb0).more (Nat.le_of_lt hz)) hl)
  clear h eg
  go_enter Tryz.func72, Tryz.ntmps72
  go_wp2_with fail
  refine C.out.mono ?_
  rintro e w' ⟨rfl, hb⟩
  go_wp2_with fail
  go_ret
  exact ⟨rfl, hb0.trans (hb.mono (Nat.le_of_lt hz))⟩
end Go.Proofs.YtelchfijalkibaaGreatDoor
/- Tariffs as the awake test meets them: slices.Clone at bands and rates; tariff.At, Band, Rate at one tariff with one rate. -/
set_option linter.unusedSimpArgs false
set_option linter.unusedSimpArgs false
namespace Go.Proofs.YtelchfijalkibaaGreatDoor
open Go.RowKit Go.Lib

structure Rt where
  fr : ByteArray
  to : ByteArray
  cls : Int
  bd : ByteArray
  ct : Int
def encRt (r : Rt) : List Value := [.string r.fr, .string r.to, .int .i64 r.cls, .string r.bd, .int .i64 r.ct]
theorem encRt_ok : Enc encRt 5 := ⟨fun _ => rfl, fun x u hu => by simp [encRt] at hu; rcases hu with rfl | rfl | rfl | rfl | rfl <;> rfl⟩
theorem Rd.rt {w : World} {B : Nat} {A : Option Addr} {l : List Rt} (h : Rd encRt 5 w B A l) {i : Nat} (hi : i < l.length) :
    ∃ b off r, A = some ⟨b, off, none⟩ ∧ b < B ∧ l[i]? = some r ∧ w.cell? ⟨b, off + i * 5, none⟩ = some (.string r.fr) ∧ w.cell? ⟨b, off + i * 5 + 1, none⟩ = some (.string r.to) ∧ w.cell? ⟨b, off + i * 5 + 2, none⟩ = some (.int .i64 r.cls) ∧ w.cell? ⟨b, off + i * 5 + 3, none⟩ = some (.string r.bd) ∧ w.cell? ⟨b, off + i * 5 + 4, none⟩ = some (.int .i64 r.ct) := by
  obtain ⟨b, off, x, hA, hb, hx, hc⟩ := h.at_ hi
  exact ⟨b, off, x, hA, hb, hx, hc 0 _ rfl, hc 1 _ rfl, hc 2 _ rfl, hc 3 _ rfl, hc 4 _ rfl⟩
theorem tyRt : TyS Tryz.prog 75 80 5 64 := TyS.mk' (z := .agg #[.string ⟨#[]⟩, .string ⟨#[]⟩, .int .i64 0, .string ⟨#[]⟩, .int .i64 0]) Tryz.underlying75 (by kernel_rfl) rfl (by omega)
structure Tf where
  f : Int
  t : Int
  bA : Option Addr
  bl : Nat
  bc : Nat
  rA : Option Addr
  rc : Nat
  rs : List Rt
def encTf (x : Tf) : List Value := [.int .i64 x.f, .int .i64 x.t, .slice x.bA x.bl x.bc, .slice x.rA x.rs.length x.rc]
theorem Rd.tf {w : World} {B : Nat} {A : Option Addr} {l : List Tf} (h : Rd encTf 4 w B A l) {i : Nat} (hi : i < l.length) :
    ∃ b off x, A = some ⟨b, off, none⟩ ∧ b < B ∧ l[i]? = some x ∧ w.cell? ⟨b, off + i * 4, none⟩ = some (.int .i64 x.f) ∧ w.cell? ⟨b, off + i * 4 + 1, none⟩ = some (.int .i64 x.t) ∧ w.cell? ⟨b, off + i * 4 + 2, none⟩ = some (.slice x.bA x.bl x.bc) ∧ w.cell? ⟨b, off + i * 4 + 3, none⟩ = some (.slice x.rA x.rs.length x.rc) := by
  obtain ⟨b, off, x, hA, hb, hx, hc⟩ := h.at_ hi
  exact ⟨b, off, x, hA, hb, hx, hc 0 _ rfl, hc 1 _ rfl, hc 2 _ rfl, hc 3 _ rfl⟩
def TfV (x : Tf) : Value := .agg #[.int .i64 x.f, .int .i64 x.t, .slice x.bA x.bl x.bc, .slice x.rA x.rs.length x.rc]

set_option maxRecDepth 100000 in
set_option maxHeartbeats 2000000 in
theorem cloneRt_any {a : Addr} (c : Nat) {l : List Rt} {w : World} (h : Rd encRt 5 w w.heap.size (some a) l) (hl : l.length ≤ 1000000) :
    Calls Tryz.prog 74 #[.slice (some a) l.length c] w fun e w' => ∃ A' c', e = .returned (.slice A' l.length c') ∧ Own 80 encRt 5 w' w.heap.size A' c' l ∧ Below w.heap.size w w' := by
  have qn : ∀ (w : World) (a : Option Addr) (n c n' c' : Nat), (binOp .eql 75 (.slice a n c) (.slice none n' c')).run Tryz.prog w = .ok (.bool a.isNone) w := fun w a n c n' c' => Lib.run_eql_slice_nil w _ _ a n c n' c' Tryz.underlying75
  have H := Lib.hid h
  clear h
  have hown := Own.lit (e := 80) (cs := #[]) w w.heap.size ([] : List Rt) (g := w.heap.size) encRt_ok rfl rfl (Nat.le_refl _) (by simp)
  have hb0 := (Below.refl w.heap.size w).al (.cells #[] 80)
  have hr := H.out.st hb0
  have hbs : w.heap.size ≤ (w.alloc (.cells #[] 80)).heap.size := by simp
  go_enter Tryz.func74, Tryz.ntmps74
  go_wp2_with (at_builtin; refine wpList_appS rfl (.tmp 5) (.tmp 6) tyRt encRt_ok rfl _ rfl (by first | rfl | simp) hown l rfl (by first | rfl | simp) hr (by first | omega | (simp; done) | (simp; omega)) (by first | omega | (simp; done) | (simp; omega)) hbs ?_; intro A4 c4 w4 hown4 hb4 hs4 hf4)
  go_ret
  exact ⟨A4, c4, by simp, by simpa using hown4, hb0.trans hb4⟩
def o1 : ByteArray := ⟨#[111]⟩
end Go.Proofs.YtelchfijalkibaaGreatDoor
/- The reference's small checks of tariffs, walked. -/
set_option linter.unusedSimpArgs false
set_option linter.unusedSimpArgs false
namespace Go.Proofs.YtelchfijalkibaaGreatDoor
open Go.RowKit Go.Lib

/-- a bool is returned -/
def BoolR (e : Ending) : Prop := ∃ b : Bool, e = .returned (.bool b)
set_option maxRecDepth 100000 in
set_option maxHeartbeats 4000000 in
theorem vwin_any (d f t : Int) (w : World) : Calls Tryz.prog 68 #[.agg #[.int .i64 d, .int .i64 f, .int .i64 t]] w fun e w' => BoolR e ∧ Below w.heap.size w w' := by
  go_enter Tryz.func68, Tryz.ntmps68
  go_wp2
  all_goals (go_ret; exact ⟨⟨_, rfl⟩, (Below.refl _ _).al _⟩)
set_option maxRecDepth 100000 in
set_option maxHeartbeats 4000000 in
theorem rvalid5_any (f t : Int) (w : World) : Calls Tryz.prog 67 #[.agg #[.int .i64 f, .int .i64 t]] w fun e w' => BoolR e ∧ Below w.heap.size w w' := by
  go_enter Tryz.func67, Tryz.ntmps67
  go_wp2
  all_goals (go_ret; exact ⟨⟨_, rfl⟩, (Below.refl _ _).al _⟩)

structure Bd where
  name : ByteArray
  d : Int
  f : Int
  t : Int
def encBd (x : Bd) : List Value := [.string x.name, .int .i64 x.d, .int .i64 x.f, .int .i64 x.t]
theorem encBd_ok : Enc encBd 4 := ⟨fun _ => rfl, fun x u hu => by simp [encBd] at hu; rcases hu with rfl | rfl | rfl | rfl <;> rfl⟩
theorem Rd.bd {w : World} {B : Nat} {A : Option Addr} {l : List Bd} (h : Rd encBd 4 w B A l) {i : Nat} (hi : i < l.length) :
    ∃ b off p, A = some ⟨b, off, none⟩ ∧ b < B ∧ l[i]? = some p ∧ w.cell? ⟨b, off + i * 4, none⟩ = some (.string p.name) ∧ w.cell? ⟨b, off + i * 4 + 1, none⟩ = some (.int .i64 p.d) ∧ w.cell? ⟨b, off + i * 4 + 2, none⟩ = some (.int .i64 p.f) ∧ w.cell? ⟨b, off + i * 4 + 3, none⟩ = some (.int .i64 p.t) := by
  obtain ⟨b, off, x, hA, hb, hx, hc⟩ := h.at_ hi
  exact ⟨b, off, x, hA, hb, hx, hc 0 _ rfl, hc 1 _ rfl, hc 2 _ rfl, hc 3 _ rfl⟩
set_option maxRecDepth 100000 in
set_option maxHeartbeats 4000000 in
theorem named_any {A : Option Addr} (c : Nat) {l : List Bd} (s : ByteArray) {w : World} (h : Rd encBd 4 w w.heap.size A l) (hl : l.length ≤ 9223372036854775807) :
    Calls Tryz.prog 92 #[.slice A l.length c, .string s] w fun e w' => BoolR e ∧ w' = w := by
  have H := Lib.hid h
  clear h
  go_enter Tryz.func92, Tryz.ntmps92
  go_wp2_with fail
  go_loopw [5] (fun i wr => ∃ k : Nat, k ≤ l.length ∧ i = .int .i64 k ∧ wr = w) (fun i _ => l.length - (RowKit.intOf i).toNat)
  case atStart => exact ⟨0, Nat.zero_le _, rfl, rfl⟩
  case round =>
    obtain ⟨k, hk, rfl, hw⟩ := hrel
    have hw := hw.symm
    subst hw
    have k1 : (0 : Int) ≤ (k : Int) := by omega
    by_cases hi : k < l.length
    · have k2 : (k : Int) < (l.length : Int) := by omega
      obtain ⟨b, off, p, rfl, hb, hx, d0, d1, d2, d3⟩ := H.out.bd hi
      have HK := Lib.hid hi
      clear hx hi hb d1 d2 d3
      have he2 : (p.name.toList == s.toList) = eqS p.name s := rfl
      cases he : eqS p.name s
      all_goals
        rw [he] at he2
        clear he
        go_wp2_with fail
        first
        | (go_ret; exact ⟨⟨_, rfl⟩, rfl⟩)
        | (go_roundw; (case rel => exact ⟨k + 1, HK.out, by go_num, by first | rfl | trivial⟩); (case measure => have := HK.out; simp [RowKit.intOf]; omega))
    · obtain rfl : k = l.length := by omega
      go_wp2_with fail
      go_ret
      exact ⟨⟨_, rfl⟩, rfl⟩

set_option maxRecDepth 100000 in
set_option maxHeartbeats 8000000 in
theorem tplace_any {pA lA sA : Option Addr} (pc lc sc : Nat) {pts : List Pt} {lks : List Lk} {sys : List Sy} (rf rt : ByteArray) (rcl : Int) (rb : ByteArray) (rct : Int) {w : World} (h : TOk w pA lA sA pts lks sys) (hsc : sys.length ≤ sc) :
    Calls Tryz.prog 91 #[.agg #[.slice pA pts.length pc, .slice lA lks.length lc, .slice sA sys.length sc], .agg #[.string rf, .string rt, .int .i64 rcl, .string rb, .int .i64 rct]] w fun e w' => BoolR e ∧ Below w.heap.size w w' := by
  obtain ⟨Y1, hY1⟩ : ∃ Y, w.alloc (.cells #[.slice pA pts.length pc, .slice lA lks.length lc, .slice sA sys.length sc] 28) = Y := ⟨_, rfl⟩
  obtain ⟨Y2, hY2⟩ : ∃ Y, Y1.alloc (.cells #[.string rf, .string rt, .int .i64 rcl, .string rb, .int .i64 rct] 80) = Y := ⟨_, rfl⟩
  have bW : Below w.heap.size w Y2 := by rw [← hY2, ← hY1]; exact ((Below.refl _ w).al _).al _
  have B1 : Blk Y2 w.heap.size #[.slice pA pts.length pc, .slice lA lks.length lc, .slice sA sys.length sc] 28 := by rw [← hY2, ← hY1]; exact (Blk.new w _ _).alloc _
  have B2 : Blk Y2 Y1.heap.size #[.string rf, .string rt, .int .i64 rcl, .string rb, .int .i64 rct] 80 := by rw [← hY2]; exact Blk.new Y1 _ _
  have CK := Lib.hid (fun (s : ByteArray) (X : World) (hX : Below w.heap.size w X) => kind_any pc lc sc s (h.st hX) hsc)
  have CS := Lib.hid (fun (s : ByteArray) (X : World) (hX : Below w.heap.size w X) => system_any pc lc sc s (h.st hX) hsc)
  clear h
  have z0 := B1.cell 0 (v := .slice pA pts.length pc) rfl; have z1 := B1.cell 1 (v := .slice lA lks.length lc) rfl; have z2 := B1.cell 2 (v := .slice sA sys.length sc) rfl; have y0 := B2.cell 0 (v := .string rf) rfl; have y1 := B2.cell 1 (v := .string rt) rfl
  cases he : emp rt
  · obtain ⟨e1, e2, e3⟩ := toList_neE he
    clear he
    go_enter Tryz.func91, Tryz.ntmps91
    go_wp2_with fail
    refine (CS.out _ _ bW).mono ?_
    rintro e W3 ⟨⟨x, b, rfl⟩, hbn⟩
    have bW := bW.st hbn; have B1 := B1.below hbn B1.lt; have B2 := B2.below hbn B2.lt; clear hbn
    clear z0 z1 z2 y0 y1 hY1 hY2
    obtain ⟨W4, hW4⟩ : ∃ Y, W3.alloc (.cells #[.string x.name, .bool x.cld, .int .i64 x.most] 90) = Y := ⟨_, rfl⟩
    have hbn : Below W3.heap.size W3 W4 := by rw [← hW4]; exact (Below.refl _ _).al _
    have BX : Blk W4 W3.heap.size #[.string x.name, .bool x.cld, .int .i64 x.most] 90 := by rw [← hW4]; exact Blk.new W3 _ _
    have bW := bW.st hbn; have B1 := B1.below hbn B1.lt; have B2 := B2.below hbn B2.lt; clear hbn
    have z0 := B1.cell 0 (v := .slice pA pts.length pc) rfl; have z1 := B1.cell 1 (v := .slice lA lks.length lc) rfl; have z2 := B1.cell 2 (v := .slice sA sys.length sc) rfl; have y0 := B2.cell 0 (v := .string rf) rfl; have y1 := B2.cell 1 (v := .string rt) rfl
    go_wp2_with fail
    refine (CS.out _ _ bW).mono ?_
    rintro e W5 ⟨⟨x2, b2, rfl⟩, hbn⟩
    have BX := BX.below hbn BX.lt
    have bW := bW.st hbn; have B1 := B1.below hbn B1.lt; have B2 := B2.below hbn B2.lt; clear hbn
    clear z0 z1 z2 y0 y1 hW4
    obtain ⟨W6, hW6⟩ : ∃ Y, W5.alloc (.cells #[.string x2.name, .bool x2.cld, .int .i64 x2.most] 90) = Y := ⟨_, rfl⟩
    have hbn : Below W5.heap.size W5 W6 := by rw [← hW6]; exact (Below.refl _ _).al _
    have BX2 : Blk W6 W5.heap.size #[.string x2.name, .bool x2.cld, .int .i64 x2.most] 90 := by rw [← hW6]; exact Blk.new W5 _ _
    have BX := BX.below hbn BX.lt
    have bW := bW.st hbn; have B1 := B1.below hbn B1.lt; have B2 := B2.below hbn B2.lt; clear hbn
    have z0 := B1.cell 0 (v := .slice pA pts.length pc) rfl; have z1 := B1.cell 1 (v := .slice lA lks.length lc) rfl; have z2 := B1.cell 2 (v := .slice sA sys.length sc) rfl; have y0 := B2.cell 0 (v := .string rf) rfl; have y1 := B2.cell 1 (v := .string rt) rfl
    go_wp2_with fail
    refine (CK.out _ _ bW).mono ?_
    rintro e W7 ⟨⟨n, rfl⟩, hbn⟩
    have BX := BX.below hbn BX.lt
    have BX2 := BX2.below hbn BX2.lt
    have bW := bW.st hbn; have B1 := B1.below hbn B1.lt; have B2 := B2.below hbn B2.lt; clear hbn
    clear z0 z1 z2 y0 y1 hW6
    have z0 := B1.cell 0 (v := .slice pA pts.length pc) rfl; have z1 := B1.cell 1 (v := .slice lA lks.length lc) rfl; have z2 := B1.cell 2 (v := .slice sA sys.length sc) rfl; have y0 := B2.cell 0 (v := .string rf) rfl; have y1 := B2.cell 1 (v := .string rt) rfl
    cases hn : (n == 2)
    · go_wp2_with fail
      go_ret
      exact ⟨⟨_, rfl⟩, bW⟩
    · go_wp2_with fail
      refine (CK.out _ _ bW).mono ?_
      rintro e W8 ⟨⟨n2, rfl⟩, hbn⟩
      have BX := BX.below hbn BX.lt
      have BX2 := BX2.below hbn BX2.lt
      have bW := bW.st hbn; have B1 := B1.below hbn B1.lt; have B2 := B2.below hbn B2.lt; clear hbn
      clear z0 z1 z2 y0 y1
      have x0 := BX.cell 0 (v := .string x.name) rfl
      have x20 := BX2.cell 0 (v := .string x2.name) rfl
      cases hn2 : (n2 == 3)
      · go_wp2_with fail
        go_ret
        exact ⟨⟨_, rfl⟩, bW⟩
      · go_wp2_with fail
        go_ret
        exact ⟨⟨_, rfl⟩, bW⟩
  · obtain ⟨e1, e2, e3⟩ := toList_eE he
    clear he
    go_enter Tryz.func91, Tryz.ntmps91
    go_wp2_with fail
    refine (CK.out _ _ bW).mono ?_
    rintro e W3 ⟨⟨n, rfl⟩, hbn⟩
    have bW := bW.st hbn; have B1 := B1.below hbn B1.lt; have B2 := B2.below hbn B2.lt; clear hbn
    go_wp2_with fail
    go_ret
    exact ⟨⟨_, rfl⟩, bW⟩
end Go.Proofs.YtelchfijalkibaaGreatDoor
