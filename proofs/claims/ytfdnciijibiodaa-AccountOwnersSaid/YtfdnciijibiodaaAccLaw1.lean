/- The laws AccountUnlinks and AccountOwners, walked. -/
import Derived.Test.YtfdnciijibiodaaAccLawFns
import Derived.Test.YtfdnciijibiodaaAccAwake
import Derived.Test.YtfdnciijibiodaaAccRUnlink
import Derived.Test.YtfdnciijibiodaaAccSame
namespace Go.Proofs.Ytfdnciijibiodaa
open Go.RowKit Go.Lib

set_option maxRecDepth 100000 in
set_option maxHeartbeats 8000000 in
theorem accountUnlinks_walk {A : Option Addr} (c : Nat) {l : List Ac} (s v : ByteArray) (t : Int) {w : World} (h : AL w A c l) :
    Calls Try.prog 3 #[.slice A l.length c, .agg #[.string s, .string v, .int .i64 t]] w fun e w' => e = .returned (.bool true) ∧ Below w.heap.size w w' := by
  have CG := Lib.hid (fun (X : World) (hX : Below w.heap.size w X) => great_any c (h.st hX))
  have CU := Lib.hid (fun (q : GOk l) (X : World) (hX : Below w.heap.size w X) => unlink_any c s v t (h.st hX) q.sm)
  have CV := Lib.hid (fun (q : GOk l) (X : World) (hX : Below w.heap.size w X) => rUnlink_any c s v t (h.st hX) q.sm)
  clear h
  obtain ⟨Y, hY⟩ : ∃ Y, w.alloc (.cells #[.string s, .string v, .int .i64 t] 24) = Y := ⟨_, rfl⟩
  have bW : Below w.heap.size w Y := by rw [← hY]; exact (Below.refl _ w).al _
  have BL : Blk Y w.heap.size #[.string s, .string v, .int .i64 t] 24 := by rw [← hY]; exact Blk.new w _ _
  go_enter Try.func3, Try.ntmps3
  go_wp2_with fail
  refine (CG.out _ bW).mono ?_
  rintro e w2 ⟨⟨bb, rfl, hbb⟩, hbn⟩
  have bW := bW.st hbn
  have BL := BL.below hbn BL.lt
  clear hbn CG hY
  cases bb
  · have G := hbb rfl
    have CU := Lib.hid (CU.out G)
    have CV := Lib.hid (CV.out G)
    have HG := Lib.hid G
    have q0 := BL.cell 0 (v := .string s) rfl
    have q1 := BL.cell 1 (v := .string v) rfl
    have q2 := BL.cell 2 (v := .int .i64 t) rfl
    clear hbb G
    go_wp2_with fail
    refine (CU.out _ bW).mono ?_
    rintro e w3 ⟨A3, c3, l3, rfl, hv3, ha3, hbn⟩
    have bW := bW.st hbn
    have BL := BL.below hbn BL.lt
    have q0 := BL.cell 0 (v := .string s) rfl
    have q1 := BL.cell 1 (v := .string v) rfl
    have q2 := BL.cell 2 (v := .int .i64 t) rfl
    have H3 := Lib.hid ha3
    have V3 := Lib.hid hv3
    clear hbn ha3 hv3 CU
    go_wp2_with fail
    refine (CV.out _ bW).mono ?_
    rintro e w4 ⟨A4, c4, l4, rfl, hv4, ha4, hbn⟩
    have bW := bW.st hbn
    have CS := Lib.hid (rsame_true c3 c4 (H3.out.st hbn) ha4 (V3.out.trans hv4.symm) (unlink_small HG.out.sm V3.out))
    clear hbn ha4 hv4 H3 V3 CV
    go_wp2_with fail
    refine CS.out.mono ?_
    rintro e w5 ⟨rfl, hbn⟩
    have bW := bW.st hbn
    clear hbn CS
    go_wp2_with fail; refine (awake_any _).mono ?_; rintro e wl ⟨rfl, hbl⟩; have bL := bW.st hbl; go_wp2_with fail; go_ret; exact ⟨rfl, bL⟩
  · clear hbb CU CV
    go_wp2_with fail; refine (awake_any _).mono ?_; rintro e wl ⟨rfl, hbl⟩; have bL := bW.st hbl; go_wp2_with fail; go_ret; exact ⟨rfl, bL⟩

set_option maxRecDepth 100000 in
set_option maxHeartbeats 8000000 in
theorem accountOwners_walk {A : Option Addr} (c : Nat) {l : List Ac} (s : ByteArray) (t : Int) {w : World} (h : AL w A c l) :
    Calls Try.prog 6 #[.slice A l.length c, .string s, .int .i64 t] w fun e w' => e = .returned (.bool true) ∧ Below w.heap.size w w' := by
  have CG := Lib.hid (fun (X : World) (hX : Below w.heap.size w X) => great_any c (h.st hX))
  have CF := Lib.hid (fun (q : GOk l) (X : World) (hX : Below w.heap.size w X) => find_any c s (h.st hX) q.sm)
  have CE := Lib.hid (fun (q : GOk l) (X : World) (hX : Below w.heap.size w X) => rFind_any c s (h.st hX) q.sm)
  have CO := Lib.hid (fun (q : GOk l) (X : World) (hX : Below w.heap.size w X) => owner_any c s t (h.st hX) q.sm)
  have CP := Lib.hid (fun (q : GOk l) (X : World) (hX : Below w.heap.size w X) => rowner_any c s t (h.st hX) q.sm)
  have HSM := Lib.hid (fun (q : GOk l) => find_small (s := s) q.sm)
  unfold FindAR at CF CE
  generalize ((vals l).find? (named s)).isSome = fb at *
  generalize ((vals l).find? (named s)).getD zeroA = fa at *
  generalize ownerN (vals l) s t = on at *
  generalize ownerB (vals l) s t = ob at *
  clear h
  have bW := Below.refl w.heap.size w
  go_enter Try.func6, Try.ntmps6
  go_wp2_with fail
  refine (CG.out _ bW).mono ?_
  rintro e w2 ⟨⟨bb, rfl, hbb⟩, hbn⟩
  have bW := bW.st hbn
  clear hbn CG
  cases bb
  · have G := hbb rfl
    have CF := Lib.hid (CF.out G)
    have CE := Lib.hid (CE.out G)
    have CO := Lib.hid (CO.out G)
    have CP := Lib.hid (CP.out G)
    have HSM := Lib.hid (HSM.out G)
    clear hbb G
    go_wp2_with fail
    refine (CF.out _ bW).mono ?_
    rintro e w3 ⟨x, rfl, hx, hxo, hbn⟩
    have bW := bW.st hbn
    have VX := Lib.hid hx
    clear hbn hx CF
    simp only [AcV]
    obtain ⟨Y3, hY3⟩ : ∃ Y, w3.alloc (.cells #[.string x.v.name, .string x.v.ag, .bool x.v.pre, .slice x.oA x.v.os.length x.oc, .int .i64 x.v.r0, .int .i64 x.v.r1, .int .i64 x.v.r2, .int .i64 x.v.r3, .bool x.v.ex] 39) = Y := ⟨_, rfl⟩
    have BX : Blk Y3 w3.heap.size #[.string x.v.name, .string x.v.ag, .bool x.v.pre, .slice x.oA x.v.os.length x.oc, .int .i64 x.v.r0, .int .i64 x.v.r1, .int .i64 x.v.r2, .int .i64 x.v.r3, .bool x.v.ex] 39 := by rw [← hY3]; exact Blk.new _ _ _
    have b3 : Below w3.heap.size w3 Y3 := by rw [← hY3]; exact (Below.refl _ _).al _
    have bW3 := bW.st b3
    have HX := Lib.hid (hxo.st b3)
    clear bW hxo b3
    go_wp2_with fail
    clear hY3
    refine (CE.out _ bW3).mono ?_
    rintro e w4 ⟨y, rfl, hy, hyo, hbn⟩
    have bW := bW3.st hbn
    have VY := Lib.hid hy
    have BX := BX.below hbn BX.lt
    have HX := Lib.hid (HX.out.st hbn)
    clear hbn hy CE bW3
    simp only [AcV]
    obtain ⟨Y4, hY4⟩ : ∃ Y, w4.alloc (.cells #[.string y.v.name, .string y.v.ag, .bool y.v.pre, .slice y.oA y.v.os.length y.oc, .int .i64 y.v.r0, .int .i64 y.v.r1, .int .i64 y.v.r2, .int .i64 y.v.r3, .bool y.v.ex] 39) = Y := ⟨_, rfl⟩
    have BY : Blk Y4 w4.heap.size #[.string y.v.name, .string y.v.ag, .bool y.v.pre, .slice y.oA y.v.os.length y.oc, .int .i64 y.v.r0, .int .i64 y.v.r1, .int .i64 y.v.r2, .int .i64 y.v.r3, .bool y.v.ex] 39 := by rw [← hY4]; exact Blk.new _ _ _
    have b4 : Below w4.heap.size w4 Y4 := by rw [← hY4]; exact (Below.refl _ _).al _
    have bW4 := bW.st b4
    have HY := Lib.hid (hyo.st b4)
    have HX := Lib.hid (HX.out.st b4)
    have BX := BX.below b4 BX.lt
    clear bW hyo b4
    go_wp2_with fail
    clear hY4
    refine (CO.out _ bW4).mono ?_
    rintro e w5 ⟨rfl, hbn⟩
    have bW := bW4.st hbn
    have BX := BX.below hbn BX.lt
    have BY := BY.below hbn BY.lt
    have HX := Lib.hid (HX.out.st hbn)
    have HY := Lib.hid (HY.out.st hbn)
    clear hbn CO bW4
    go_wp2_with fail
    refine (CP.out _ bW).mono ?_
    rintro e w6 ⟨rfl, hbn⟩
    have bW := bW.st hbn
    have BX := BX.below hbn BX.lt
    have BY := BY.below hbn BY.lt
    have HX := Lib.hid (HX.out.st hbn)
    have HY := Lib.hid (HY.out.st hbn)
    clear hbn CP
    obtain ⟨Y7, hY7⟩ : ∃ Y, w6.alloc (.cells #[.string x.v.name, .string x.v.ag, .bool x.v.pre, .slice x.oA x.v.os.length x.oc, .int .i64 x.v.r0, .int .i64 x.v.r1, .int .i64 x.v.r2, .int .i64 x.v.r3, .bool x.v.ex] 39) = Y := ⟨_, rfl⟩
    obtain ⟨Y8, hY8⟩ : ∃ Y, Y7.alloc (.cells #[.string y.v.name, .string y.v.ag, .bool y.v.pre, .slice y.oA y.v.os.length y.oc, .int .i64 y.v.r0, .int .i64 y.v.r1, .int .i64 y.v.r2, .int .i64 y.v.r3, .bool y.v.ex] 39) = Y := ⟨_, rfl⟩
    have sY7 : Y7.heap.size = w6.heap.size + 1 := by rw [← hY7]; simp
    have b7 : Below w6.heap.size w6 Y7 := by rw [← hY7]; exact (Below.refl _ _).al _
    have b8 : Below Y7.heap.size Y7 Y8 := by rw [← hY8]; exact (Below.refl _ _).al _
    have BY7 := BY.below b7 BY.lt
    have rx : Rd encAc 9 Y7 Y7.heap.size (some ⟨w6.heap.size, 0, none⟩) [x] := by rw [← hY7]; exact Rd.lit w6 _ encAc_ok (by simp [encAc]) (by simp)
    have ry : Rd encAc 9 Y8 Y8.heap.size (some ⟨Y7.heap.size, 0, none⟩) [y] := by rw [← hY8]; exact Rd.lit Y7 _ encAc_ok (by simp [encAc]) (by simp)
    rw [sY7] at ry
    have lx : AL Y8 (some ⟨w6.heap.size, 0, none⟩) 1 [x] := ⟨rx.st b8, fun a ha => by simp only [List.mem_singleton] at ha; subst ha; exact (HX.out.st b7).st b8, by simp, by omega⟩
    have ly : AL Y8 (some ⟨w6.heap.size + 1, 0, none⟩) 1 [y] := ⟨ry, fun a ha => by simp only [List.mem_singleton] at ha; subst ha; exact (HY.out.st b7).st b8, by simp, by omega⟩
    have CS := Lib.hid (rsame_true 1 1 lx ly (by unfold vals; simp only [List.map_cons, List.map_nil]; rw [VX.out, VY.out]) ⟨by simp, fun a ha => by simp only [List.mem_singleton] at ha; subst ha; have := HSM.out; unfold smA; rw [VX.out]; exact this⟩)
    have bW8 := (bW.st b7).st b8
    clear rx ry lx ly b7 b8 HX HY VX VY HSM bW
    have x0 := BX.cell 0 (v := .string x.v.name) rfl
    have x1 := BX.cell 1 (v := .string x.v.ag) rfl
    have x2 := BX.cell 2 (v := .bool x.v.pre) rfl
    have x3 := BX.cell 3 (v := .slice x.oA x.v.os.length x.oc) rfl
    have x4 := BX.cell 4 (v := .int .i64 x.v.r0) rfl
    have x5 := BX.cell 5 (v := .int .i64 x.v.r1) rfl
    have x6 := BX.cell 6 (v := .int .i64 x.v.r2) rfl
    have x7 := BX.cell 7 (v := .int .i64 x.v.r3) rfl
    have x8 := BX.cell 8 (v := .bool x.v.ex) rfl
    have y0 := BY7.cell 0 (v := .string y.v.name) rfl
    have y1 := BY7.cell 1 (v := .string y.v.ag) rfl
    have y2 := BY7.cell 2 (v := .bool y.v.pre) rfl
    have y3 := BY7.cell 3 (v := .slice y.oA y.v.os.length y.oc) rfl
    have y4 := BY7.cell 4 (v := .int .i64 y.v.r0) rfl
    have y5 := BY7.cell 5 (v := .int .i64 y.v.r1) rfl
    have y6 := BY7.cell 6 (v := .int .i64 y.v.r2) rfl
    have y7 := BY7.cell 7 (v := .int .i64 y.v.r3) rfl
    have y8 := BY7.cell 8 (v := .bool y.v.ex) rfl
    simp only [List.length_singleton] at CS
    go_wp2_with fail
    refine CS.out.mono ?_
    rintro e w9 ⟨rfl, hbn⟩
    have bW := bW8.st hbn
    clear hbn CS
    go_wp2_with fail; refine (awake_any _).mono ?_; rintro e wl ⟨rfl, hbl⟩; have bL := bW.st hbl; go_wp2_with fail; go_ret; exact ⟨rfl, bL⟩
  · clear hbb CF CE CO CP
    go_wp2_with fail; refine (awake_any _).mono ?_; rintro e wl ⟨rfl, hbl⟩; have bL := bW.st hbl; go_wp2_with fail; go_ret; exact ⟨rfl, bL⟩
end Go.Proofs.Ytfdnciijibiodaa
