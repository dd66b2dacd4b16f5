/- discount.Best, walked: the best combination. -/
import Derived.Test.YtelchfijalkibaaGreatDoorDisBest1
import Derived.Laws.EntriesVeiled
set_option linter.unusedSimpArgs false
namespace Go.Proofs.YtelchfijalkibaaGreatDoor
open Go.RowKit Go.Lib

/-- the state in which the closure is first called -/
theorem BSt.start {lA : Option Addr} {lc : Nat} {l : List Dc} {n : Int} {Lb Cb : Nat} {W V1 V2 V3 V4 V5 V : World} (hL : Blk W Lb #[.slice lA l.length lc] 36) (hC : Blk W Cb #[.int .i64 n] 3) (rl : Rd encDc 10 W W.heap.size lA l) (h0 : 0 ≤ n)
    (hV1 : W.alloc (.cells #[.slice none 0 0] 33) = V1) (hV2 : V1.alloc (.cells #[.slice none 0 0] 33) = V2) (hV3 : V2.alloc (.cells #[.int .i64 0] 3) = V3) (hV4 : V3.setCell ⟨W.heap.size + 2, 0, none⟩ (.int .i64 0) = V4) (hV5 : V4.alloc (.cells #[.nilFunc] 167) = V5) (hV : V5.setCell ⟨W.heap.size + 3, 0, none⟩ (addF Lb Cb W.heap.size) = V) :
    BSt lA lc l n Lb Cb W.heap.size V none 0 [] none 0 [] ∧ Below W.heap.size W V := by
  have s1 : V1.heap.size = W.heap.size + 1 := by rw [← hV1]; simp
  have s2 : V2.heap.size = W.heap.size + 2 := by rw [← hV2]; simp [s1]
  have s3 : V3.heap.size = W.heap.size + 3 := by rw [← hV3]; simp [s2]
  have b4 : Below W.heap.size W V4 := by rw [← hV4, ← hV3, ← hV2, ← hV1]; exact ((((Below.refl _ W).al _).al _).al _).setCell (p := ⟨W.heap.size + 2, 0, none⟩) (by show W.heap.size ≤ W.heap.size + 2; omega) _
  have s4 : V4.heap.size = W.heap.size + 3 := by rw [← hV4]; simp [s3]
  have bV : Below W.heap.size W V := by rw [← hV, ← hV5]; exact (b4.al _).setCell (p := ⟨W.heap.size + 3, 0, none⟩) (by show W.heap.size ≤ W.heap.size + 3; omega) _
  have hr : red l n [] = 0 := by unfold red sumA; split <;> omega
  refine ⟨⟨hL.lt, hC.lt, hL.below bV hL.lt, hC.below bV hC.lt, ?_, ?_, ?_, ?_, Own.nil _ _, Own.nil _ _, (fun g h => by cases h), rl.keep bV⟩, bV⟩
  · rw [← hV, ← hV5, ← hV4, ← hV3, ← hV2, ← hV1]; exact (((((Blk.new W _ _).alloc _).alloc _).other (p := ⟨W.heap.size + 2, 0, none⟩) (by show W.heap.size ≠ W.heap.size + 2; omega) _).alloc _).other (p := ⟨W.heap.size + 3, 0, none⟩) (by show W.heap.size ≠ W.heap.size + 3; omega) _
  · rw [← hV, ← hV5, ← hV4, ← hV3, ← hV2]
    have h := Blk.new V1 #[.slice none 0 0] 33
    rw [s1] at h
    exact (((h.alloc _).other (p := ⟨W.heap.size + 2, 0, none⟩) (by show W.heap.size + 1 ≠ W.heap.size + 2; omega) _).alloc _).other (p := ⟨W.heap.size + 3, 0, none⟩) (by show W.heap.size + 1 ≠ W.heap.size + 3; omega) _
  · rw [hr, ← hV, ← hV5, ← hV4, ← hV3]
    have h := Blk.new V2 #[.int .i64 0] 3
    rw [s2] at h
    exact ((h.set 0 (.int .i64 0)).alloc _).other (p := ⟨W.heap.size + 3, 0, none⟩) (by show W.heap.size + 2 ≠ W.heap.size + 3; omega) _
  · rw [← hV, ← hV5]
    have h := Blk.new V4 #[.nilFunc] 167
    rw [s4] at h
    exact h.set 0 _

set_option maxRecDepth 100000 in
set_option maxHeartbeats 8000000 in
theorem pbest_any {lA : Option Addr} {lc : Nat} {l : List Dc} {n : Int} (hok : LOk l) (hlc : l.length ≤ lc) (h0 : 0 ≤ n) (h1 : n ≤ 1125899906842624) {w : World} (hr : Rd encDc 10 w w.heap.size lA l) :
    Calls Tryz.prog 57 #[.slice lA l.length lc, .int .i64 n] w fun e w' => ∃ A c b, e = .returned (.tuple #[.slice A b.length c, .int .i64 (red l n b), .int .i64 0]) ∧ BestR l n b ∧ Own 3 encN 1 w' w.heap.size A c b ∧ Below w.heap.size w w' := by
  obtain ⟨Y1, hY1⟩ : ∃ Y, w.alloc (.cells #[.slice lA l.length lc] 36) = Y := ⟨_, rfl⟩
  obtain ⟨Y2, hY2⟩ : ∃ Y, Y1.alloc (.cells #[.int .i64 n] 3) = Y := ⟨_, rfl⟩
  have s1 : Y1.heap.size = w.heap.size + 1 := by rw [← hY1]; simp
  have bW : Below w.heap.size w Y2 := by rw [← hY2, ← hY1]; exact ((Below.refl _ w).al _).al _
  have B1 : Blk Y2 w.heap.size #[.slice lA l.length lc] 36 := by rw [← hY2, ← hY1]; exact (Blk.new w _ _).alloc _
  have B2 : Blk Y2 (w.heap.size + 1) #[.int .i64 n] 3 := by rw [← s1, ← hY2]; exact Blk.new Y1 _ _
  have HR := Lib.hid (hr.st bW)
  have CA := Lib.hid (pall_any lc hok hlc (hr.st bW))
  have y1 : Y2.cell? ⟨w.heap.size, 0, none⟩ = some (.slice lA l.length lc) := B1.cell 0 rfl
  have y2 : Y2.cell? ⟨w.heap.size + 1, 0, none⟩ = some (.int .i64 n) := B2.cell 0 rfl
  have n1 : ¬ n < 0 := by omega
  have n2 : ¬ 1125899906842624 < n := by omega
  have HOK := Lib.hid hok
  clear hr hok
  go_enter Tryz.func57, Tryz.ntmps57
  go_wp2_with fail
  refine CA.out.mono ?_
  rintro e W2 ⟨rfl, hbn⟩
  have HBW := Lib.hid (bW.st hbn)
  have HB1 := Lib.hid (B1.below hbn B1.lt)
  have HB2 := Lib.hid (B2.below hbn B2.lt)
  have HR2 := Lib.hid (HR.out.st hbn)
  clear hbn bW B1 B2 HR CA y1 y2 hY1 hY2 s1
  have y1 : W2.cell? ⟨w.heap.size, 0, none⟩ = some (.slice lA l.length lc) := HB1.out.cell 0 rfl
  have y2 : W2.cell? ⟨w.heap.size + 1, 0, none⟩ = some (.int .i64 n) := HB2.out.cell 0 rfl
  obtain ⟨V1, hV1⟩ : ∃ Y, W2.alloc (.cells #[.slice none 0 0] 33) = Y := ⟨_, rfl⟩
  obtain ⟨V2, hV2⟩ : ∃ Y, V1.alloc (.cells #[.slice none 0 0] 33) = Y := ⟨_, rfl⟩
  obtain ⟨V3, hV3⟩ : ∃ Y, V2.alloc (.cells #[.int .i64 0] 3) = Y := ⟨_, rfl⟩
  obtain ⟨V4, hV4⟩ : ∃ Y, V3.setCell ⟨W2.heap.size + 2, 0, none⟩ (.int .i64 0) = Y := ⟨_, rfl⟩
  obtain ⟨V5, hV5⟩ : ∃ Y, V4.alloc (.cells #[.nilFunc] 167) = Y := ⟨_, rfl⟩
  obtain ⟨V, hV⟩ : ∃ Y, V5.setCell ⟨W2.heap.size + 3, 0, none⟩ (.func (.func 84) #[] #[.pointer (some ⟨w.heap.size + 1, 0, none⟩), .pointer (some ⟨W2.heap.size + 2, 0, none⟩), .pointer (some ⟨W2.heap.size + 1, 0, none⟩), .pointer (some ⟨W2.heap.size, 0, none⟩), .pointer (some ⟨w.heap.size, 0, none⟩), .pointer (some ⟨W2.heap.size + 3, 0, none⟩)]) = Y := ⟨_, rfl⟩
  have s1 : V1.heap.size = W2.heap.size + 1 := by rw [← hV1]; simp
  have s2 : V2.heap.size = W2.heap.size + 2 := by rw [← hV2]; simp [s1]
  have s3 : V3.heap.size = W2.heap.size + 3 := by rw [← hV3]; simp [s2]
  have s4 : V4.heap.size = W2.heap.size + 3 := by rw [← hV4]; simp [s3]
  have q3 : Blk V3 (W2.heap.size + 2) #[.int .i64 0] 3 := by rw [← s2, ← hV3]; exact Blk.new V2 _ _
  have q5 : Blk V5 (W2.heap.size + 3) #[.nilFunc] 167 := by rw [← s4, ← hV5]; exact Blk.new V4 _ _
  have c3 : V3.cell? ⟨W2.heap.size + 2, 0, none⟩ = some (.int .i64 0) := q3.cell 0 rfl
  have f3 := q3.frozen 0
  have c5 : V5.cell? ⟨W2.heap.size + 3, 0, none⟩ = some .nilFunc := q5.cell 0 rfl
  have f5 := q5.frozen 0
  have hSS := BSt.start HB1.out HB2.out HR2.out h0 hV1 hV2 hV3 hV4 hV5 hV
  have HS := Lib.hid hSS.1
  have HBV := Lib.hid (HBW.out.st hSS.2)
  have y3 : V.cell? ⟨W2.heap.size + 3, 0, none⟩ = some (.func (.func 84) #[] #[.pointer (some ⟨w.heap.size + 1, 0, none⟩), .pointer (some ⟨W2.heap.size + 2, 0, none⟩), .pointer (some ⟨W2.heap.size + 1, 0, none⟩), .pointer (some ⟨W2.heap.size, 0, none⟩), .pointer (some ⟨w.heap.size, 0, none⟩), .pointer (some ⟨W2.heap.size + 3, 0, none⟩)]) := hSS.1.ha.cell 0 rfl
  have CB := Lib.hid (badd_any HOK.out h0 h1 (l.length + 1) 0 (by omega) V none 0 [] none 0 [] HS.out (Cand.nil l) (Cand.nil l) (fun k h => absurd h (by simp)) (Nat.zero_le _))
  have HSZ : Hid (w.heap.size ≤ W2.heap.size) := Lib.hid HBW.out.size
  clear hSS q3 q5 HB1 HB2 HR2 HS HOK
  go_wp2_with fail
  refine CB.out.mono ?_
  rintro e W5 ⟨rfl, A, cap, bA, bcap, b, hs, ha, hrel⟩
  have x0 : W5.cell? ⟨W2.heap.size, 0, none⟩ = some (.slice bA b.length bcap) := hs.hb.cell 0 rfl
  have x2 : W5.cell? ⟨W2.heap.size + 2, 0, none⟩ = some (.int .i64 (red l n b)) := hs.hm.cell 0 rfl
  have HA := Lib.hid ha.best
  have HO := Lib.hid (hs.ob.mono (show w.heap.size ≤ W2.heap.size + 4 by have := HSZ.out; omega))
  have HX := Lib.hid (HBV.out.trans (hrel.below.mono HSZ.out))
  clear hs ha hrel CB
  obtain ⟨m, hm⟩ : ∃ m, red l n b = m := ⟨_, rfl⟩
  rw [hm] at x2
  have HM := Lib.hid hm
  clear hm
  go_wp2_with fail
  go_quiet (fail)
  go_wp2_with fail
  go_ret3
  exact ⟨bA, bcap, b, by rw [HM.out]; rfl, HA.out, HO.out.drewN _, below_drewN HX.out _⟩
end Go.Proofs.YtelchfijalkibaaGreatDoor
