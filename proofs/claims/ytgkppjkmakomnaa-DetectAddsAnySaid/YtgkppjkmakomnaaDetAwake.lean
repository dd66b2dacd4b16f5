/- The chapter's examples, walked. -/
import Derived.Test.YtgkppjkmakomnaaDetAwakeMath
import Derived.Test.YtgkppjkmakomnaaDetSame
import Derived.Deep.DeepCutAuto
set_option linter.unusedSimpArgs false
namespace Go.Proofs.Ytgkppjkmakomnaa
open Go.RowKit Go.Lib

set_option maxRecDepth 100000 in
set_option maxHeartbeats 16000000 in
theorem awake_any (w : World) : Calls Try.prog 13 #[] w fun e w' => e = .returned (.bool true) ∧ Below w.heap.size w w' := by
  obtain ⟨Y1, hY1⟩ : ∃ Y, w.alloc (.cells #[.string ⟨#[99, 97, 109]⟩, .string ⟨#[112]⟩, .int .i64 2, .int .i64 2, .slice none 0 0, .slice none 0 0] 59) = Y := ⟨_, rfl⟩
  have bW : Below w.heap.size w Y1 := by rw [← hY1]; exact (Below.refl _ w).al _
  have rl : Rd encD 6 Y1 Y1.heap.size (some ⟨w.heap.size, 0, none⟩) [exCam] := by rw [← hY1]; exact Rd.lit w _ encD_ok rfl (by simp)
  obtain ⟨Y2, hY2⟩ : ∃ Y, Y1.alloc (.cells #[.string ⟨#[]⟩, .int .i64 0, .int .i64 0, .string ⟨#[]⟩, .string ⟨#[]⟩, .int .i64 0, .int .i64 0] 24) = Y := ⟨_, rfl⟩
  have b2 : Below Y1.heap.size Y1 Y2 := by rw [← hY2]; exact (Below.refl _ _).al _
  have B2 : Blk Y2 Y1.heap.size #[.string ⟨#[]⟩, .int .i64 0, .int .i64 0, .string ⟨#[]⟩, .string ⟨#[]⟩, .int .i64 0, .int .i64 0] 24 := by rw [← hY2]; exact Blk.new _ _ _
  have HOK := Lib.hid (fun (X : World) => show DsOk X [exCam] from fun d hd => by
    simp only [List.mem_singleton] at hd
    subst hd
    exact ⟨Rd.nil, Rd.nil⟩)
  have HSM := Lib.hid (show ∀ y ∈ [exCam], y.os.length ≤ 100 ∧ y.ds.length ≤ 100 from fun d hd => by
    simp only [List.mem_singleton] at hd
    subst hd
    simp [exCam])
  go_enter Try.func13, Try.ntmps13
  go_upto_region 3 with (refine wpList_boxStore rfl (ty := 24) (x := .tmp 2) (y := .tmp 14) rfl B2 rfl rfl (by kernel_rfl) rfl (by kernel_rfl) ?_; intro W2 B2 hoz hbz; have bW := bW.st (hbz _ _ (Nat.le_refl _) b2); have rl := rl.st (hbz _ _ (Nat.le_refl _) b2))
  clear hY1 hY2 b2 hoz hbz
  have CC := Lib.hid (fun (X : World) (hX : Below W2.heap.size W2 X) => correct_any (l := [exCam]) 1 exD (rl.st hX) (HOK.out X) HSM.out (by simp) exSz.1)
  simp only [CorR, exCS, exW] at CC
  have CK := Lib.hid (fun (X : World) (hX : Below W2.heap.size W2 X) => check_any (l := [exCam]) 1 exD (rl.st hX) (HOK.out X) HSM.out (by simp) exSz.1)
  simp only [exW] at CK
  have CS := Lib.hid (fun (X : World) => sameSn_true exS ⟨exSz.1, by decide⟩ X)
  have z3 : ∀ x ∈ [exD, exF, exD], SzD x := fun x hx => by
    simp only [List.mem_cons, List.not_mem_nil, or_false] at hx
    rcases hx with rfl | rfl | rfl
    · exact exSz.1
    · exact exSz.2.2
    · exact exSz.1
  have k3 : ∀ x ∈ [exD, exF, exD], SrcOk (srcOf x) := fun x hx => by
    simp only [List.mem_cons, List.not_mem_nil, or_false] at hx
    rcases hx with rfl | rfl | rfl
    · exact exOk.1
    · exact exOk.2.2
    · exact exOk.1
  have za : ∀ x ∈ addD [exS] exR1 exE, SzD x := fun x hx => by
    simp only [addD, exR1, List.map_cons, List.map_nil, List.cons_append, List.nil_append, List.mem_cons, List.not_mem_nil, or_false] at hx
    rcases hx with rfl | rfl | rfl
    · exact exSz.2.1
    · exact exSz.1
    · exact exSz.2.2
  have ka : ∀ x ∈ addD [exS] exR1 exE, SrcOk (srcOf x) := fun x hx => by
    simp only [addD, exR1, List.map_cons, List.map_nil, List.cons_append, List.nil_append, List.mem_cons, List.not_mem_nil, or_false] at hx
    rcases hx with rfl | rfl | rfl
    · exact exOk.2.1
    · exact exOk.1
    · exact exOk.2.2
  have CF := Lib.hid (fun (X : World) (hX : Below W2.heap.size W2 X) (B : Option Addr) (hd : Rd encDt 7 X X.heap.size B [exD, exF, exD]) => sift_any (l := [exCam]) (ds := [exD, exF, exD]) 1 3 (rl.st hX) (HOK.out X) HSM.out (by simp) hd (by simp) z3 k3)
  have CA := Lib.hid (fun (X : World) (hX : Below W2.heap.size W2 X) (As Ar : Option Addr) (cs cr : Nat) (rs : Rd encSn 11 X X.heap.size As [exS]) (rr : Rd encRj 8 X X.heap.size Ar exR1) => add_any (l := [exCam]) (S := [exS]) (R := exR1) 1 cs cr exE (rl.st hX) (HOK.out X) HSM.out (by simp) rs rr (by simp [exR1]) za ka)
  have n1 : [exCam].length = 1 := rfl
  have n2 : [exD, exF, exD].length = 3 := rfl
  have n3 : [exS].length = 1 := rfl
  have n4 : exR1.length = 1 := rfl
  have m1 : DtV exD = .agg #[.string ⟨#[99, 97, 109]⟩, .int .i64 1, .int .i64 100, .string ⟨#[]⟩, .string ⟨#[65, 66, 49]⟩, .int .i64 0, .int .i64 900] := rfl
  have m2 : SnV exS = .agg #[.string ⟨#[99, 97, 109]⟩, .int .i64 1, .int .i64 100, .string ⟨#[]⟩, .string ⟨#[65, 66, 49]⟩, .int .i64 0, .int .i64 900, .int .i64 100, .string ⟨#[112]⟩, .int .i64 2, .int .i64 2] := rfl
  have m3 : DtV exE = .agg #[.string ⟨#[99, 97, 109]⟩, .int .i64 1, .int .i64 100, .string ⟨#[]⟩, .string ⟨#[65, 66, 50]⟩, .int .i64 0, .int .i64 900] := rfl
  simp only [n1, m1, m2] at CC
  simp only [n1, m1] at CK
  simp only [m2] at CS
  simp only [n1, n2] at CF
  simp only [n1, n3, n4, m3] at CA
  clear z3 k3 za ka n1 n2 n3 n4 m1 m2 m3
  clear rl HOK HSM
  have bX := Below.refl W2.heap.size W2
  have HBW := Lib.hid bW
  clear bW
  go_wp2_with (refine wpList_boxLoad rfl (ty := 24) (x := .tmp 2) (cs := #[.string ⟨#[99, 97, 109]⟩, .int .i64 1, .int .i64 100, .string ⟨#[]⟩, .string ⟨#[65, 66, 49]⟩, .int .i64 0, .int .i64 900]) rfl B2 rfl ⟨_, Try.underlying24, by kernel_rfl⟩ ?_)
  refine (CC.out _ bX).mono ?_
  rintro e W3 ⟨rfl, bX⟩
  have B2 := B2.below bX B2.lt
  obtain ⟨Z, hZ⟩ : ∃ Z, W3.alloc (.cells #[.string ⟨#[]⟩, .int .i64 0, .int .i64 0, .string ⟨#[]⟩, .string ⟨#[]⟩, .int .i64 0, .int .i64 0, .int .i64 0, .string ⟨#[]⟩, .int .i64 0, .int .i64 0] 29) = Z := ⟨_, rfl⟩
  have bz : Below W3.heap.size W3 Z := by rw [← hZ]; exact (Below.refl _ _).al _
  have BZ : Blk Z W3.heap.size #[.string ⟨#[]⟩, .int .i64 0, .int .i64 0, .string ⟨#[]⟩, .string ⟨#[]⟩, .int .i64 0, .int .i64 0, .int .i64 0, .string ⟨#[]⟩, .int .i64 0, .int .i64 0] 29 := by rw [← hZ]; exact Blk.new _ _ _
  go_upto_region 4 with (refine wpList_boxStore rfl (ty := 29) (x := .tmp 3) (y := .tmp 19) rfl BZ rfl rfl (by kernel_rfl) rfl (by kernel_rfl) ?_; intro W4 B3 hoz hbz; have hb := hbz _ _ (Nat.le_refl _) bz; have bX := bX.st hb; have B2 := B2.below hb B2.lt)
  clear hb hoz hbz bz BZ hZ CC
  obtain ⟨Z, hZ⟩ : ∃ Z, W4.alloc (.cells #[.string ⟨#[]⟩, .int .i64 0, .int .i64 0, .string ⟨#[]⟩, .string ⟨#[]⟩, .int .i64 0, .int .i64 0, .int .i64 0, .string ⟨#[]⟩, .int .i64 0, .int .i64 0] 29) = Z := ⟨_, rfl⟩
  have bz : Below W4.heap.size W4 Z := by rw [← hZ]; exact (Below.refl _ _).al _
  have BZ : Blk Z W4.heap.size #[.string ⟨#[]⟩, .int .i64 0, .int .i64 0, .string ⟨#[]⟩, .string ⟨#[]⟩, .int .i64 0, .int .i64 0, .int .i64 0, .string ⟨#[]⟩, .int .i64 0, .int .i64 0] 29 := by rw [← hZ]; exact Blk.new _ _ _
  go_upto_region 5 with (first | (refine wpList_boxLoad rfl (ty := 24) (x := .tmp 2) (cs := #[.string ⟨#[99, 97, 109]⟩, .int .i64 1, .int .i64 100, .string ⟨#[]⟩, .string ⟨#[65, 66, 49]⟩, .int .i64 0, .int .i64 900]) rfl B2 rfl ⟨_, Try.underlying24, by kernel_rfl⟩ ?_) | (refine wpList_boxBuild rfl (t := 29) rfl (cells := #[.string ⟨#[99, 97, 109]⟩, .int .i64 1, .int .i64 100, .string ⟨#[]⟩, .string ⟨#[65, 66, 49]⟩, .int .i64 0, .int .i64 900, .int .i64 100, .string ⟨#[112]⟩, .int .i64 2, .int .i64 2]) (by kernel_rfl) ?_) | (refine wpList_boxStore rfl (ty := 29) (x := .tmp 5) (y := .tmp 22) rfl BZ rfl rfl (by kernel_rfl) rfl (by kernel_rfl) ?_; intro W5 B5 hoz hbz; have hb := hbz _ _ (Nat.le_refl _) bz; have bX := bX.st hb; have B2 := B2.below hb B2.lt; have B3 := B3.below hb B3.lt))
  clear hb hoz hbz bz BZ hZ
  have p0 := B3.cell 0 (v := .string ⟨#[99, 97, 109]⟩) rfl; have p1 := B3.cell 1 (v := .int .i64 1) rfl; have p2 := B3.cell 2 (v := .int .i64 100) rfl; have p3 := B3.cell 3 (v := .string ⟨#[]⟩) rfl; have p4 := B3.cell 4 (v := .string ⟨#[65, 66, 49]⟩) rfl; have p5 := B3.cell 5 (v := .int .i64 0) rfl; have p6 := B3.cell 6 (v := .int .i64 900) rfl; have p7 := B3.cell 7 (v := .int .i64 100) rfl; have p8 := B3.cell 8 (v := .string ⟨#[112]⟩) rfl; have p9 := B3.cell 9 (v := .int .i64 2) rfl; have p10 := B3.cell 10 (v := .int .i64 2) rfl; have q0 := B5.cell 0 (v := .string ⟨#[99, 97, 109]⟩) rfl; have q1 := B5.cell 1 (v := .int .i64 1) rfl; have q2 := B5.cell 2 (v := .int .i64 100) rfl; have q3 := B5.cell 3 (v := .string ⟨#[]⟩) rfl; have q4 := B5.cell 4 (v := .string ⟨#[65, 66, 49]⟩) rfl; have q5 := B5.cell 5 (v := .int .i64 0) rfl; have q6 := B5.cell 6 (v := .int .i64 900) rfl; have q7 := B5.cell 7 (v := .int .i64 100) rfl; have q8 := B5.cell 8 (v := .string ⟨#[112]⟩) rfl; have q9 := B5.cell 9 (v := .int .i64 2) rfl; have q10 := B5.cell 10 (v := .int .i64 2) rfl
  go_wp2_with fail
  clear p0 q0 p1 q1 p2 q2 p3 q3 p4 q4 p5 q5 p6 q6 p7 q7 p8 q8 p9 q9 p10 q10
  refine (CS.out _).mono ?_
  rintro e W6 ⟨rfl, hg⟩
  have hb := hg.below
  have bX := bX.st hb
  have B2 := B2.below hb B2.lt
  have B3 := B3.below hb B3.lt
  have B5 := B5.below hb B5.lt
  clear hb hg CS
  have p0 := B2.cell 0 (v := .string ⟨#[99, 97, 109]⟩) rfl; have p1 := B2.cell 1 (v := .int .i64 1) rfl; have p2 := B2.cell 2 (v := .int .i64 100) rfl; have p3 := B2.cell 3 (v := .string ⟨#[]⟩) rfl; have p4 := B2.cell 4 (v := .string ⟨#[65, 66, 49]⟩) rfl; have p5 := B2.cell 5 (v := .int .i64 0) rfl; have p6 := B2.cell 6 (v := .int .i64 900) rfl
  go_wp2_with fail
  clear p0 p1 p2 p3 p4 p5 p6
  refine (CK.out _ bX).mono ?_
  rintro e W7 ⟨rfl, hb⟩
  have bX := bX.st hb
  have B2 := B2.below hb B2.lt
  have B3 := B3.below hb B3.lt
  have B5 := B5.below hb B5.lt
  clear hb CK
  obtain ⟨Z, hZ⟩ : ∃ Z, W7.alloc (.cells #[.string ⟨#[]⟩, .int .i64 0, .int .i64 0, .string ⟨#[]⟩, .string ⟨#[]⟩, .int .i64 0, .int .i64 0] 24) = Z := ⟨_, rfl⟩
  have bz : Below W7.heap.size W7 Z := by rw [← hZ]; exact (Below.refl _ _).al _
  have BZ : Blk Z W7.heap.size #[.string ⟨#[]⟩, .int .i64 0, .int .i64 0, .string ⟨#[]⟩, .string ⟨#[]⟩, .int .i64 0, .int .i64 0] 24 := by rw [← hZ]; exact Blk.new _ _ _
  go_upto_region 8 with (first | (refine wpList_boxLoad rfl (ty := 24) (x := .tmp 2) (cs := #[.string ⟨#[99, 97, 109]⟩, .int .i64 1, .int .i64 100, .string ⟨#[]⟩, .string ⟨#[65, 66, 49]⟩, .int .i64 0, .int .i64 900]) rfl B2 rfl ⟨_, Try.underlying24, by kernel_rfl⟩ ?_) | (refine wpList_boxStore rfl (ty := 24) (x := .tmp 6) (y := .tmp 37) rfl BZ rfl rfl (by kernel_rfl) rfl (by kernel_rfl) ?_; intro W8 B6 hoz hbz; have hb := hbz _ _ (Nat.le_refl _) bz))
  clear hoz hbz bz BZ hZ
  obtain ⟨X8, hX8⟩ : ∃ X, W8.setCell ⟨W7.heap.size, 4, none⟩ (.string ⟨#[65, 66, 50]⟩) = X := ⟨_, rfl⟩
  have B6' : Blk X8 W7.heap.size #[.string ⟨#[99, 97, 109]⟩, .int .i64 1, .int .i64 100, .string ⟨#[]⟩, .string ⟨#[65, 66, 50]⟩, .int .i64 0, .int .i64 900] 24 := by rw [← hX8]; exact B6.set 4 _
  have hb8 : Below W7.heap.size W7 X8 := by rw [← hX8]; exact hb.setCell (p := ⟨W7.heap.size, 4, none⟩) (Nat.le_refl _) _
  have p4 := B6.cell 4 (v := .string ⟨#[65, 66, 49]⟩) rfl
  have fp4 := B6.frozen 4
  go_upto_region 9 with fail
  clear p4 fp4 hX8 B6 hb
  have bX := bX.st hb8; have B2 := B2.below hb8 B2.lt; have B3 := B3.below hb8 B3.lt; have B5 := B5.below hb8 B5.lt; (try have B6 := B6.below hb8 B6.lt); (try have B7 := B7.below hb8 B7.lt); (try have rs := rs.st hb8); (try have rr := rr.st hb8); (try have r3 := r3.st hb8)
  have B6 := B6'
  clear B6' hb8
  obtain ⟨Z, hZ⟩ : ∃ Z, X8.alloc (.cells #[.string ⟨#[]⟩, .int .i64 0, .int .i64 0, .string ⟨#[]⟩, .string ⟨#[]⟩, .int .i64 0, .int .i64 0] 24) = Z := ⟨_, rfl⟩
  have bz : Below X8.heap.size X8 Z := by rw [← hZ]; exact (Below.refl _ _).al _
  have BZ : Blk Z X8.heap.size #[.string ⟨#[]⟩, .int .i64 0, .int .i64 0, .string ⟨#[]⟩, .string ⟨#[]⟩, .int .i64 0, .int .i64 0] 24 := by rw [← hZ]; exact Blk.new _ _ _
  go_upto_region 10 with (first | (refine wpList_boxLoad rfl (ty := 24) (x := .tmp 2) (cs := #[.string ⟨#[99, 97, 109]⟩, .int .i64 1, .int .i64 100, .string ⟨#[]⟩, .string ⟨#[65, 66, 49]⟩, .int .i64 0, .int .i64 900]) rfl B2 rfl ⟨_, Try.underlying24, by kernel_rfl⟩ ?_) | (refine wpList_boxStore rfl (ty := 24) (x := .tmp 7) (y := .tmp 39) rfl BZ rfl rfl (by kernel_rfl) rfl (by kernel_rfl) ?_; intro W9 B7 hoz hbz; have hb := hbz _ _ (Nat.le_refl _) bz))
  clear hoz hbz bz BZ hZ
  obtain ⟨X9, hX9⟩ : ∃ X, W9.setCell ⟨X8.heap.size, 0, none⟩ (.string ⟨#[120]⟩) = X := ⟨_, rfl⟩
  have B79 : Blk X9 X8.heap.size #[.string ⟨#[120]⟩, .int .i64 1, .int .i64 100, .string ⟨#[]⟩, .string ⟨#[65, 66, 49]⟩, .int .i64 0, .int .i64 900] 24 := by rw [← hX9]; exact B7.set 0 _
  have hb9 : Below X8.heap.size X8 X9 := by rw [← hX9]; exact hb.setCell (p := ⟨X8.heap.size, 0, none⟩) (Nat.le_refl _) _
  have p0 := B7.cell 0 (v := .string ⟨#[99, 97, 109]⟩) rfl
  have fp0 := B7.frozen 0
  go_upto_region 11 with fail
  clear p0 fp0 hX9 B7 hb
  obtain ⟨X10, hX10⟩ : ∃ X, X9.setCell ⟨X8.heap.size, 1, none⟩ (.int .i64 (-1)) = X := ⟨_, rfl⟩
  have B710 : Blk X10 X8.heap.size #[.string ⟨#[120]⟩, .int .i64 (-1), .int .i64 100, .string ⟨#[]⟩, .string ⟨#[65, 66, 49]⟩, .int .i64 0, .int .i64 900] 24 := by rw [← hX10]; exact B79.set 1 _
  have hb10 : Below X8.heap.size X8 X10 := by rw [← hX10]; exact hb9.setCell (p := ⟨X8.heap.size, 1, none⟩) (Nat.le_refl _) _
  have p1 := B79.cell 1 (v := .int .i64 1) rfl
  have fp1 := B79.frozen 1
  go_upto_region 12 with fail
  clear p1 fp1 hX10 B79 hb9
  have bX := bX.st hb10; have B2 := B2.below hb10 B2.lt; have B3 := B3.below hb10 B3.lt; have B5 := B5.below hb10 B5.lt; (try have B6 := B6.below hb10 B6.lt); (try have B7 := B7.below hb10 B7.lt); (try have rs := rs.st hb10); (try have rr := rr.st hb10); (try have r3 := r3.st hb10)
  have B7 := B710
  clear B710 hb10
  obtain ⟨V, hV⟩ : ∃ V, X10.alloc (.cells #[.string ⟨#[99, 97, 109]⟩, .int .i64 1, .int .i64 100, .string ⟨#[]⟩, .string ⟨#[65, 66, 49]⟩, .int .i64 0, .int .i64 900, .string ⟨#[120]⟩, .int .i64 (-1), .int .i64 100, .string ⟨#[]⟩, .string ⟨#[65, 66, 49]⟩, .int .i64 0, .int .i64 900, .string ⟨#[99, 97, 109]⟩, .int .i64 1, .int .i64 100, .string ⟨#[]⟩, .string ⟨#[65, 66, 49]⟩, .int .i64 0, .int .i64 900] 24) = V := ⟨_, rfl⟩
  have hb : Below X10.heap.size X10 V := by rw [← hV]; exact (Below.refl _ _).al _
  have rd : Rd encDt 7 V V.heap.size (some ⟨X10.heap.size, 0, none⟩) [exD, exF, exD] := by rw [← hV]; exact Rd.lit X10 _ encDt_ok rfl (by simp)
  go_wp2_with (first | (refine wpList_boxLoad rfl (ty := 24) (x := .tmp 2) (cs := #[.string ⟨#[99, 97, 109]⟩, .int .i64 1, .int .i64 100, .string ⟨#[]⟩, .string ⟨#[65, 66, 49]⟩, .int .i64 0, .int .i64 900]) rfl B2 rfl ⟨_, Try.underlying24, by kernel_rfl⟩ ?_) | (refine wpList_boxLoad rfl (ty := 24) (x := .tmp 7) (cs := #[.string ⟨#[120]⟩, .int .i64 (-1), .int .i64 100, .string ⟨#[]⟩, .string ⟨#[65, 66, 49]⟩, .int .i64 0, .int .i64 900]) rfl B7 rfl ⟨_, Try.underlying24, by kernel_rfl⟩ ?_))
  have bX := bX.st hb; have B2 := B2.below hb B2.lt; have B3 := B3.below hb B3.lt; have B5 := B5.below hb B5.lt; (try have B6 := B6.below hb B6.lt); (try have B7 := B7.below hb B7.lt); (try have rs := rs.st hb); (try have rr := rr.st hb); (try have r3 := r3.st hb)
  clear hb hV
  refine (CF.out _ bX _ rd).mono ?_
  rintro e W12 ⟨S, R, As, Ar, cs, cr, hof, _, _, he, rs, rr, hb⟩
  obtain ⟨rfl, rfl⟩ := exOne hof
  obtain rfl := he.trans (show _ = .returned (.tuple #[.slice As 1 cs, .slice Ar 1 cr]) from rfl)
  clear he hof CF rd
  have RS := rs
  have RR := rr
  clear rs rr
  have bX := bX.st hb; have B2 := B2.below hb B2.lt; have B3 := B3.below hb B3.lt; have B5 := B5.below hb B5.lt; (try have B6 := B6.below hb B6.lt); (try have B7 := B7.below hb B7.lt); (try have rs := rs.st hb); (try have rr := rr.st hb); (try have r3 := r3.st hb)
  have rs := RS
  have rr := RR
  clear RS RR hb
  have CA1 := Lib.hid (CA.out _ bX _ _ cs cr rs rr)
  clear CA
  go_wp2_with (refine wpList_boxLoad rfl (ty := 24) (x := .tmp 6) (cs := #[.string ⟨#[99, 97, 109]⟩, .int .i64 1, .int .i64 100, .string ⟨#[]⟩, .string ⟨#[65, 66, 50]⟩, .int .i64 0, .int .i64 900]) rfl B6 rfl ⟨_, Try.underlying24, by kernel_rfl⟩ ?_)
  refine CA1.out.mono ?_
  rintro e W13 ⟨S, R, As2, Ar2, cs2, cr2, hof, _, _, he, _, r3, hb⟩
  obtain ⟨rfl, rfl⟩ := exTwo hof
  obtain rfl := he.trans (show _ = .returned (.tuple #[.slice As2 0 cs2, .slice Ar2 3 cr2]) from rfl)
  clear he hof CA1
  have RR := r3
  clear r3
  have bX := bX.st hb; have B2 := B2.below hb B2.lt; have B3 := B3.below hb B3.lt; have B5 := B5.below hb B5.lt; (try have B6 := B6.below hb B6.lt); (try have B7 := B7.below hb B7.lt); (try have rs := rs.st hb); (try have rr := rr.st hb); (try have r3 := r3.st hb)
  have r3 := RR
  clear RR hb
  go_upto_region 14 with fail
  obtain ⟨V, hV⟩ : ∃ V, W13.alloc (.cells #[.string ⟨#[99, 97, 109]⟩, .int .i64 1, .int .i64 100, .string ⟨#[]⟩, .string ⟨#[65, 66, 49]⟩, .int .i64 0, .int .i64 900, .int .i64 100, .string ⟨#[112]⟩, .int .i64 2, .int .i64 2] 29) = V := ⟨_, rfl⟩
  have hb : Below W13.heap.size W13 V := by rw [← hV]; exact (Below.refl _ _).al _
  have rd : Rd encSn 11 V V.heap.size (some ⟨W13.heap.size, 0, none⟩) [exS] := by rw [← hV]; exact Rd.lit W13 _ encSn_ok rfl (by simp)
  have CG := Lib.hid (sameSns_true cs 1 (rs.st hb) rd (by simp) (by simp only [List.mem_singleton]; rintro x rfl; exact ⟨exSz.1, by decide⟩))
  simp only [show [exS].length = 1 from rfl] at CG
  go_wp2_with (refine wpList_boxLoad rfl (ty := 29) (x := .tmp 5) (cs := #[.string ⟨#[99, 97, 109]⟩, .int .i64 1, .int .i64 100, .string ⟨#[]⟩, .string ⟨#[65, 66, 49]⟩, .int .i64 0, .int .i64 900, .int .i64 100, .string ⟨#[112]⟩, .int .i64 2, .int .i64 2]) rfl B5 rfl ⟨_, Try.underlying29, by kernel_rfl⟩ ?_)
  have bX := bX.st hb; have B2 := B2.below hb B2.lt; have B3 := B3.below hb B3.lt; have B5 := B5.below hb B5.lt; (try have B6 := B6.below hb B6.lt); (try have B7 := B7.below hb B7.lt); (try have rs := rs.st hb); (try have rr := rr.st hb); (try have r3 := r3.st hb)
  clear hb hV rd rs
  refine CG.out.mono ?_
  rintro e W14 ⟨rfl, hb⟩
  have bX := bX.st hb; have B2 := B2.below hb B2.lt; have B3 := B3.below hb B3.lt; have B5 := B5.below hb B5.lt; (try have B6 := B6.below hb B6.lt); (try have B7 := B7.below hb B7.lt); (try have rs := rs.st hb); (try have rr := rr.st hb); (try have r3 := r3.st hb)
  clear hb CG
  obtain ⟨V2, hV⟩ : ∃ V, W14.alloc (.cells #[.string ⟨#[120]⟩, .int .i64 (-1), .int .i64 100, .string ⟨#[]⟩, .string ⟨#[65, 66, 49]⟩, .int .i64 0, .int .i64 900, .int .i64 1] 36) = V := ⟨_, rfl⟩
  have hb : Below W14.heap.size W14 V2 := by rw [← hV]; exact (Below.refl _ _).al _
  have rd : Rd encRj 8 V2 V2.heap.size (some ⟨W14.heap.size, 0, none⟩) exR1 := by rw [← hV]; exact Rd.lit W14 _ encRj_ok rfl (by simp [exR1])
  have CG := Lib.hid (sameRjs_true cr 1 (rr.st hb) rd (by simp [exR1]) (by simp only [exR1, List.mem_singleton]; rintro x rfl; exact exSz.2.2))
  simp only [show exR1.length = 1 from rfl] at CG
  have p0 := B7.cell 0 (v := .string ⟨#[120]⟩) rfl; have p1 := B7.cell 1 (v := .int .i64 (-1)) rfl; have p2 := B7.cell 2 (v := .int .i64 100) rfl; have p3 := B7.cell 3 (v := .string ⟨#[]⟩) rfl; have p4 := B7.cell 4 (v := .string ⟨#[65, 66, 49]⟩) rfl; have p5 := B7.cell 5 (v := .int .i64 0) rfl; have p6 := B7.cell 6 (v := .int .i64 900) rfl
  go_wp2_with fail
  clear p0 p1 p2 p3 p4 p5 p6
  have bX := bX.st hb; have B2 := B2.below hb B2.lt; have B3 := B3.below hb B3.lt; have B5 := B5.below hb B5.lt; (try have B6 := B6.below hb B6.lt); (try have B7 := B7.below hb B7.lt); (try have rs := rs.st hb); (try have rr := rr.st hb); (try have r3 := r3.st hb)
  clear hb hV rd rr
  refine CG.out.mono ?_
  rintro e W15 ⟨rfl, hb⟩
  have bX := bX.st hb; have B2 := B2.below hb B2.lt; have B3 := B3.below hb B3.lt; have B5 := B5.below hb B5.lt; (try have B6 := B6.below hb B6.lt); (try have B7 := B7.below hb B7.lt); (try have rs := rs.st hb); (try have rr := rr.st hb); (try have r3 := r3.st hb)
  clear hb CG
  go_wp2_with fail
  obtain ⟨b, off, x, hA, hlt, hx, c0, c1, c2, c3, c4, c5, c6, c7⟩ := r3.rj (i := 0) (by simp [exR3])
  obtain ⟨b', off', x', hA', _, hx', e0, e1, e2, e3, e4, e5, e6, e7⟩ := r3.rj (i := 1) (by simp [exR3])
  obtain rfl : x = ⟨exD, 4⟩ := by simpa [exR3] using hx.symm
  obtain rfl : x' = ⟨exE, 4⟩ := by simpa [exR3] using hx'.symm
  subst hA
  simp only [Option.some.injEq, Addr.mk.injEq, and_true] at hA'
  obtain ⟨rfl, rfl⟩ := hA'
  simp only [Nat.zero_mul, Nat.one_mul, Nat.add_zero, exD, exE] at c0 c1 c2 c3 c4 c5 c6 c7 e0 e1 e2 e3 e4 e5 e6 e7
  have HB := Lib.hid hlt
  have CG := Lib.hid (fun (X : World) (hX : Below W15.heap.size W15 X) (A : Option Addr) (rd : Rd encRj 8 X X.heap.size A exR3) => sameRjs_true cr2 3 (r3.st hX) rd (by simp [exR3]) (by simp only [exR3, List.mem_cons, List.not_mem_nil, or_false]; rintro x (rfl | rfl | rfl); exact exSz.1; exact exSz.2.1; exact exSz.2.2))
  simp only [show exR3.length = 3 from rfl] at CG
  have CP := Lib.hid (fun (X : World) => comp_any exS exS X)
  simp only [exSelf, show SnV exS = .agg #[.string ⟨#[99, 97, 109]⟩, .int .i64 1, .int .i64 100, .string ⟨#[]⟩, .string ⟨#[65, 66, 49]⟩, .int .i64 0, .int .i64 900, .int .i64 100, .string ⟨#[112]⟩, .int .i64 2, .int .i64 2] from rfl] at CP
  have CL1 := Lib.hid (fun (X : World) => less_any ⟨exD, 4⟩ ⟨exE, 4⟩ X)
  have CL2 := Lib.hid (fun (X : World) => less_any ⟨exE, 4⟩ ⟨exE, 4⟩ X)
  simp only [exLess] at CL1
  simp only [exNLess] at CL2
  simp only [RjV, exD, exE] at CL1 CL2
  have bY := HBW.out.st bX
  have HBW := Lib.hid bY
  clear hlt hx hx' r3 bX bY
  have bR := Below.refl W15.heap.size W15
  refine wp_region_held_drew (S := (fun w' : World => Blk w' Y1.heap.size #[.string ⟨#[99, 97, 109]⟩, .int .i64 1, .int .i64 100, .string ⟨#[]⟩, .string ⟨#[65, 66, 49]⟩, .int .i64 0, .int .i64 900] 24 ∧ Blk w' W7.heap.size #[.string ⟨#[99, 97, 109]⟩, .int .i64 1, .int .i64 100, .string ⟨#[]⟩, .string ⟨#[65, 66, 50]⟩, .int .i64 0, .int .i64 900] 24 ∧ Blk w' X8.heap.size #[.string ⟨#[120]⟩, .int .i64 (-1), .int .i64 100, .string ⟨#[]⟩, .string ⟨#[65, 66, 49]⟩, .int .i64 0, .int .i64 900] 24 ∧ Blk w' W3.heap.size #[.string ⟨#[99, 97, 109]⟩, .int .i64 1, .int .i64 100, .string ⟨#[]⟩, .string ⟨#[65, 66, 49]⟩, .int .i64 0, .int .i64 900, .int .i64 100, .string ⟨#[112]⟩, .int .i64 2, .int .i64 2] 29 ∧ w'.cell? ⟨b, off, none⟩ = some (.string ⟨#[99, 97, 109]⟩) ∧ w'.cell? ⟨b, off + 1, none⟩ = some (.int .i64 1) ∧ w'.cell? ⟨b, off + 2, none⟩ = some (.int .i64 100) ∧ w'.cell? ⟨b, off + 3, none⟩ = some (.string ⟨#[]⟩) ∧ w'.cell? ⟨b, off + 4, none⟩ = some (.string ⟨#[65, 66, 49]⟩) ∧ w'.cell? ⟨b, off + 5, none⟩ = some (.int .i64 0) ∧ w'.cell? ⟨b, off + 6, none⟩ = some (.int .i64 900) ∧ w'.cell? ⟨b, off + 7, none⟩ = some (.int .i64 4) ∧ w'.cell? ⟨b, off + 8, none⟩ = some (.string ⟨#[99, 97, 109]⟩) ∧ w'.cell? ⟨b, off + 8 + 1, none⟩ = some (.int .i64 1) ∧ w'.cell? ⟨b, off + 8 + 2, none⟩ = some (.int .i64 100) ∧ w'.cell? ⟨b, off + 8 + 3, none⟩ = some (.string ⟨#[]⟩) ∧ w'.cell? ⟨b, off + 8 + 4, none⟩ = some (.string ⟨#[65, 66, 50]⟩) ∧ w'.cell? ⟨b, off + 8 + 5, none⟩ = some (.int .i64 0) ∧ w'.cell? ⟨b, off + 8 + 6, none⟩ = some (.int .i64 900) ∧ w'.cell? ⟨b, off + 8 + 7, none⟩ = some (.int .i64 4))) (by kernel_rfl) ?_ (fun hHeld => ?_)
  focus exact ⟨B2.drew, B6.drew, B7.drew, B3.drew, c0, c1, c2, c3, c4, c5, c6, c7, e0, e1, e2, e3, e4, e5, e6, e7⟩
  have bR := bR.drew
  have B2 := B2.drew
  have B3 := B3.drew
  have B5 := B5.drew
  have B6 := B6.drew
  have B7 := B7.drew
  generalize W15.drew = W16 at bR B2 B3 B5 B6 B7 hHeld ⊢
  change wpAnyH _ _ _ _ _ 40 _ _ _
  refine wpAnyH_take (i := 0) (v := ?_) (by simp only [List.getElem?_toArray, List.getElem?_cons_zero, List.getElem?_cons_succ]; rfl) (by kernel_rfl) (by kernel_rfl) (by kernel_rfl) (by intro _ _ _ h; exact h) (Or.inl ⟨by rfl, ?_⟩) (by assumption) ?_; rotate_left; (focus (intro w1 hSw; (try dsimp only at hSw); go_simp; (try with_reducible rfl))); (try simp only [Act.put, List.setIfInBounds_toArray, List.set_cons_zero, List.set_cons_succ, List.getElem_toArray, List.getElem_cons_zero, List.getElem_cons_succ])
  refine wpAnyH_take (i := 1) (v := ?_) (by simp only [List.getElem?_toArray, List.getElem?_cons_zero, List.getElem?_cons_succ]; rfl) (by kernel_rfl) (by kernel_rfl) (by kernel_rfl) (by intro _ _ _ h; exact h) (Or.inl ⟨by rfl, ?_⟩) (by assumption) ?_; rotate_left; (focus (intro w1 hSw; (try dsimp only at hSw); go_simp; (try with_reducible rfl))); (try simp only [Act.put, List.setIfInBounds_toArray, List.set_cons_zero, List.set_cons_succ, List.getElem_toArray, List.getElem_cons_zero, List.getElem_cons_succ])
  refine wpAnyH_take (i := 2) (v := ?_) (by simp only [List.getElem?_toArray, List.getElem?_cons_zero, List.getElem?_cons_succ]; rfl) (by kernel_rfl) (by kernel_rfl) (by kernel_rfl) (by intro _ _ _ h; exact h) (Or.inl ⟨by rfl, ?_⟩) (by assumption) ?_; rotate_left; (focus (intro w1 hSw; (try dsimp only at hSw); go_simp; (try with_reducible rfl))); (try simp only [Act.put, List.setIfInBounds_toArray, List.set_cons_zero, List.set_cons_succ, List.getElem_toArray, List.getElem_cons_zero, List.getElem_cons_succ])
  refine wpAnyH_take (i := 3) (v := ?_) (by simp only [List.getElem?_toArray, List.getElem?_cons_zero, List.getElem?_cons_succ]; rfl) (by kernel_rfl) (by kernel_rfl) (by kernel_rfl) (by intro _ _ _ h; exact h) (Or.inl ⟨by rfl, ?_⟩) (by assumption) ?_; rotate_left; (focus (intro w1 hSw; (try dsimp only at hSw); go_simp; (try with_reducible rfl))); (try simp only [Act.put, List.setIfInBounds_toArray, List.set_cons_zero, List.set_cons_succ, List.getElem_toArray, List.getElem_cons_zero, List.getElem_cons_succ])
  refine wpAnyH_take (i := 4) (v := ?_) (by simp only [List.getElem?_toArray, List.getElem?_cons_zero, List.getElem?_cons_succ]; rfl) (by kernel_rfl) (by kernel_rfl) (by kernel_rfl) (by intro _ _ _ h; exact h) (Or.inl ⟨by rfl, ?_⟩) (by assumption) ?_; rotate_left; (focus (intro w1 hSw; (try dsimp only at hSw); go_simp; (try with_reducible rfl))); (try simp only [Act.put, List.setIfInBounds_toArray, List.set_cons_zero, List.set_cons_succ, List.getElem_toArray, List.getElem_cons_zero, List.getElem_cons_succ])
  refine wpAnyH_take (i := 5) (v := .agg #[.string ⟨#[99, 97, 109]⟩, .int .i64 1, .int .i64 100, .string ⟨#[]⟩, .string ⟨#[65, 66, 49]⟩, .int .i64 0, .int .i64 900]) (by simp only [List.getElem?_toArray, List.getElem?_cons_zero, List.getElem?_cons_succ]; rfl) (by kernel_rfl) (by kernel_rfl) (by kernel_rfl) (by intro _ _ _ h; exact h) (yieldsIf_boxLoad (by rfl) rfl rfl (fun _ hw => hw.1) ⟨_, Try.underlying24, by kernel_rfl⟩) (by assumption) ?_; (try simp only [Act.put, List.setIfInBounds_toArray, List.set_cons_zero, List.set_cons_succ, List.getElem_toArray, List.getElem_cons_zero, List.getElem_cons_succ])
  refine wpAnyH_take (i := 6) (v := ?_) (by simp only [List.getElem?_toArray, List.getElem?_cons_zero, List.getElem?_cons_succ]; rfl) (by kernel_rfl) (by kernel_rfl) (by kernel_rfl) (by intro _ _ _ h; exact h) (Or.inl ⟨by rfl, ?_⟩) (by assumption) ?_; rotate_left; (focus (intro w1 hSw; (try dsimp only at hSw); go_simp; (try with_reducible rfl))); (try simp only [Act.put, List.setIfInBounds_toArray, List.set_cons_zero, List.set_cons_succ, List.getElem_toArray, List.getElem_cons_zero, List.getElem_cons_succ])
  refine wpAnyH_take (i := 7) (v := .agg #[.string ⟨#[99, 97, 109]⟩, .int .i64 1, .int .i64 100, .string ⟨#[]⟩, .string ⟨#[65, 66, 50]⟩, .int .i64 0, .int .i64 900]) (by simp only [List.getElem?_toArray, List.getElem?_cons_zero, List.getElem?_cons_succ]; rfl) (by kernel_rfl) (by kernel_rfl) (by kernel_rfl) (by intro _ _ _ h; exact h) (yieldsIf_boxLoad (by rfl) rfl rfl (fun _ hw => hw.2.1) ⟨_, Try.underlying24, by kernel_rfl⟩) (by assumption) ?_; (try simp only [Act.put, List.setIfInBounds_toArray, List.set_cons_zero, List.set_cons_succ, List.getElem_toArray, List.getElem_cons_zero, List.getElem_cons_succ])
  refine wpAnyH_take (i := 8) (v := ?_) (by simp only [List.getElem?_toArray, List.getElem?_cons_zero, List.getElem?_cons_succ]; rfl) (by kernel_rfl) (by kernel_rfl) (by kernel_rfl) (by intro _ _ _ h; exact h) (Or.inl ⟨by rfl, ?_⟩) (by assumption) ?_; rotate_left; (focus (intro w1 hSw; (try dsimp only at hSw); go_simp; (try with_reducible rfl))); (try simp only [Act.put, List.setIfInBounds_toArray, List.set_cons_zero, List.set_cons_succ, List.getElem_toArray, List.getElem_cons_zero, List.getElem_cons_succ])
  refine wpAnyH_take (i := 9) (v := .agg #[.string ⟨#[120]⟩, .int .i64 (-1), .int .i64 100, .string ⟨#[]⟩, .string ⟨#[65, 66, 49]⟩, .int .i64 0, .int .i64 900]) (by simp only [List.getElem?_toArray, List.getElem?_cons_zero, List.getElem?_cons_succ]; rfl) (by kernel_rfl) (by kernel_rfl) (by kernel_rfl) (by intro _ _ _ h; exact h) (yieldsIf_boxLoad (by rfl) rfl rfl (fun _ hw => hw.2.2.1) ⟨_, Try.underlying24, by kernel_rfl⟩) (by assumption) ?_; (try simp only [Act.put, List.setIfInBounds_toArray, List.set_cons_zero, List.set_cons_succ, List.getElem_toArray, List.getElem_cons_zero, List.getElem_cons_succ])
  refine wpAnyH_take (i := 10) (v := ?_) (by simp only [List.getElem?_toArray, List.getElem?_cons_zero, List.getElem?_cons_succ]; rfl) (by kernel_rfl) (by kernel_rfl) (by kernel_rfl) (by intro _ _ _ h; exact h) (Or.inl ⟨by rfl, ?_⟩) (by assumption) ?_; rotate_left; (focus (intro w1 hSw; (try dsimp only at hSw); go_simp; (try with_reducible rfl))); (try simp only [Act.put, List.setIfInBounds_toArray, List.set_cons_zero, List.set_cons_succ, List.getElem_toArray, List.getElem_cons_zero, List.getElem_cons_succ])
  obtain ⟨V, hV⟩ : ∃ V, W16.alloc (.cells #[.string ⟨#[99, 97, 109]⟩, .int .i64 1, .int .i64 100, .string ⟨#[]⟩, .string ⟨#[65, 66, 49]⟩, .int .i64 0, .int .i64 900, .int .i64 4, .string ⟨#[99, 97, 109]⟩, .int .i64 1, .int .i64 100, .string ⟨#[]⟩, .string ⟨#[65, 66, 50]⟩, .int .i64 0, .int .i64 900, .int .i64 4, .string ⟨#[120]⟩, .int .i64 (-1), .int .i64 100, .string ⟨#[]⟩, .string ⟨#[65, 66, 49]⟩, .int .i64 0, .int .i64 900, .int .i64 1] 36) = V := ⟨_, rfl⟩
  have hb : Below W16.heap.size W16 V := by rw [← hV]; exact (Below.refl _ _).al _
  have rd : Rd encRj 8 V V.heap.size (some ⟨W16.heap.size, 0, none⟩) exR3 := by rw [← hV]; exact Rd.lit W16 _ encRj_ok rfl (by simp [exR3])
  have bR := bR.st hb
  have B2 := B2.below hb B2.lt
  have B3 := B3.below hb B3.lt
  have B6 := B6.below hb B6.lt
  have B7 := B7.below hb B7.lt
  refine wpAnyH_ready (rs := [11]) (by kernel_rfl) (by simp) ?_; refine AllReadyH.cons (by simp only [List.getElem?_toArray, List.getElem?_cons_zero, List.getElem?_cons_succ]; rfl) (fun K hK => ?_) AllReadyH.nil
  rw [if_pos (by rfl)]
  clear hb
  go_wp2_with fail; refine hK.out _ _ ?_ (fun hHeld => ?_); (focus exact ⟨B2, B6, B7, B3, (bR.cell (p := ⟨b, off, none⟩) HB.out).trans c0, (bR.cell (p := ⟨b, off + 1, none⟩) HB.out).trans c1, (bR.cell (p := ⟨b, off + 2, none⟩) HB.out).trans c2, (bR.cell (p := ⟨b, off + 3, none⟩) HB.out).trans c3, (bR.cell (p := ⟨b, off + 4, none⟩) HB.out).trans c4, (bR.cell (p := ⟨b, off + 5, none⟩) HB.out).trans c5, (bR.cell (p := ⟨b, off + 6, none⟩) HB.out).trans c6, (bR.cell (p := ⟨b, off + 7, none⟩) HB.out).trans c7, (bR.cell (p := ⟨b, off + 8, none⟩) HB.out).trans e0, (bR.cell (p := ⟨b, off + 8 + 1, none⟩) HB.out).trans e1, (bR.cell (p := ⟨b, off + 8 + 2, none⟩) HB.out).trans e2, (bR.cell (p := ⟨b, off + 8 + 3, none⟩) HB.out).trans e3, (bR.cell (p := ⟨b, off + 8 + 4, none⟩) HB.out).trans e4, (bR.cell (p := ⟨b, off + 8 + 5, none⟩) HB.out).trans e5, (bR.cell (p := ⟨b, off + 8 + 6, none⟩) HB.out).trans e6, (bR.cell (p := ⟨b, off + 8 + 7, none⟩) HB.out).trans e7⟩); clear hK K; (try simp only [Act.put, List.setIfInBounds_toArray, List.set_cons_zero, List.set_cons_succ, List.getElem_toArray, List.getElem_cons_zero, List.getElem_cons_succ])
  clear hV
  refine wpAnyH_ready (rs := [12]) (by kernel_rfl) (by simp) ?_; refine AllReadyH.cons (by simp only [List.getElem?_toArray, List.getElem?_cons_zero, List.getElem?_cons_succ]; rfl) (fun K hK => ?_) AllReadyH.nil
  rw [if_pos (by rfl)]; go_wp2_with fail
  refine (CG.out _ bR _ rd).mono ?_
  rintro e W17 ⟨rfl, hb⟩
  have bR := bR.st hb
  have B2 := B2.below hb B2.lt
  have B3 := B3.below hb B3.lt
  have B6 := B6.below hb B6.lt
  have B7 := B7.below hb B7.lt
  clear hb
  go_wp2_with fail; refine hK.out _ _ ?_ (fun hHeld => ?_); (focus exact ⟨B2, B6, B7, B3, (bR.cell (p := ⟨b, off, none⟩) HB.out).trans c0, (bR.cell (p := ⟨b, off + 1, none⟩) HB.out).trans c1, (bR.cell (p := ⟨b, off + 2, none⟩) HB.out).trans c2, (bR.cell (p := ⟨b, off + 3, none⟩) HB.out).trans c3, (bR.cell (p := ⟨b, off + 4, none⟩) HB.out).trans c4, (bR.cell (p := ⟨b, off + 5, none⟩) HB.out).trans c5, (bR.cell (p := ⟨b, off + 6, none⟩) HB.out).trans c6, (bR.cell (p := ⟨b, off + 7, none⟩) HB.out).trans c7, (bR.cell (p := ⟨b, off + 8, none⟩) HB.out).trans e0, (bR.cell (p := ⟨b, off + 8 + 1, none⟩) HB.out).trans e1, (bR.cell (p := ⟨b, off + 8 + 2, none⟩) HB.out).trans e2, (bR.cell (p := ⟨b, off + 8 + 3, none⟩) HB.out).trans e3, (bR.cell (p := ⟨b, off + 8 + 4, none⟩) HB.out).trans e4, (bR.cell (p := ⟨b, off + 8 + 5, none⟩) HB.out).trans e5, (bR.cell (p := ⟨b, off + 8 + 6, none⟩) HB.out).trans e6, (bR.cell (p := ⟨b, off + 8 + 7, none⟩) HB.out).trans e7⟩); clear hK K; (try simp only [Act.put, List.setIfInBounds_toArray, List.set_cons_zero, List.set_cons_succ, List.getElem_toArray, List.getElem_cons_zero, List.getElem_cons_succ])
  clear rd CG
  refine wpAnyH_take (i := 13) (v := ?_) (by simp only [List.getElem?_toArray, List.getElem?_cons_zero, List.getElem?_cons_succ]; rfl) (by kernel_rfl) (by kernel_rfl) (by kernel_rfl) (by intro _ _ _ h; exact h) (Or.inl ⟨by rfl, ?_⟩) (by assumption) ?_; rotate_left; (focus (intro w1 hSw; (try dsimp only at hSw); go_simp; (try with_reducible rfl))); (try simp only [Act.put, List.setIfInBounds_toArray, List.set_cons_zero, List.set_cons_succ, List.getElem_toArray, List.getElem_cons_zero, List.getElem_cons_succ])
  refine wpAnyH_take (i := 14) (v := ?_) (by simp only [List.getElem?_toArray, List.getElem?_cons_zero, List.getElem?_cons_succ]; rfl) (by kernel_rfl) (by kernel_rfl) (by kernel_rfl) (by intro _ _ _ h; exact h) (Or.inl ⟨by rfl, ?_⟩) (by assumption) ?_; rotate_left; (focus (intro w1 hSw; (try dsimp only at hSw); go_simp; (try with_reducible rfl))); (try simp only [Act.put, List.setIfInBounds_toArray, List.set_cons_zero, List.set_cons_succ, List.getElem_toArray, List.getElem_cons_zero, List.getElem_cons_succ])
  refine wpAnyH_take (i := 15) (v := .agg #[.string ⟨#[99, 97, 109]⟩, .int .i64 1, .int .i64 100, .string ⟨#[]⟩, .string ⟨#[65, 66, 49]⟩, .int .i64 0, .int .i64 900, .int .i64 100, .string ⟨#[112]⟩, .int .i64 2, .int .i64 2]) (by simp only [List.getElem?_toArray, List.getElem?_cons_zero, List.getElem?_cons_succ]; rfl) (by kernel_rfl) (by kernel_rfl) (by kernel_rfl) (by intro _ _ _ h; exact h) (yieldsIf_boxLoad (by rfl) rfl rfl (fun _ hw => hw.2.2.2.1) ⟨_, Try.underlying29, by kernel_rfl⟩) (by assumption) ?_; (try simp only [Act.put, List.setIfInBounds_toArray, List.set_cons_zero, List.set_cons_succ, List.getElem_toArray, List.getElem_cons_zero, List.getElem_cons_succ])
  refine wpAnyH_take (i := 16) (v := .agg #[.string ⟨#[99, 97, 109]⟩, .int .i64 1, .int .i64 100, .string ⟨#[]⟩, .string ⟨#[65, 66, 49]⟩, .int .i64 0, .int .i64 900, .int .i64 100, .string ⟨#[112]⟩, .int .i64 2, .int .i64 2]) (by simp only [List.getElem?_toArray, List.getElem?_cons_zero, List.getElem?_cons_succ]; rfl) (by kernel_rfl) (by kernel_rfl) (by kernel_rfl) (by intro _ _ _ h; exact h) (yieldsIf_boxLoad (by rfl) rfl rfl (fun _ hw => hw.2.2.2.1) ⟨_, Try.underlying29, by kernel_rfl⟩) (by assumption) ?_; (try simp only [Act.put, List.setIfInBounds_toArray, List.set_cons_zero, List.set_cons_succ, List.getElem_toArray, List.getElem_cons_zero, List.getElem_cons_succ])
  refine wpAnyH_ready (rs := [17]) (by kernel_rfl) (by simp) ?_; refine AllReadyH.cons (by simp only [List.getElem?_toArray, List.getElem?_cons_zero, List.getElem?_cons_succ]; rfl) (fun K hK => ?_) AllReadyH.nil
  rw [if_pos (by rfl)]; go_wp2_with fail
  refine (CP.out _).mono ?_
  rintro e W18 ⟨rfl, hg⟩
  have hb := hg.below
  have bR := bR.st hb
  have B2 := B2.below hb B2.lt
  have B3 := B3.below hb B3.lt
  have B6 := B6.below hb B6.lt
  have B7 := B7.below hb B7.lt
  clear hb hg
  go_wp2_with fail; refine hK.out _ _ ?_ (fun hHeld => ?_); (focus exact ⟨B2, B6, B7, B3, (bR.cell (p := ⟨b, off, none⟩) HB.out).trans c0, (bR.cell (p := ⟨b, off + 1, none⟩) HB.out).trans c1, (bR.cell (p := ⟨b, off + 2, none⟩) HB.out).trans c2, (bR.cell (p := ⟨b, off + 3, none⟩) HB.out).trans c3, (bR.cell (p := ⟨b, off + 4, none⟩) HB.out).trans c4, (bR.cell (p := ⟨b, off + 5, none⟩) HB.out).trans c5, (bR.cell (p := ⟨b, off + 6, none⟩) HB.out).trans c6, (bR.cell (p := ⟨b, off + 7, none⟩) HB.out).trans c7, (bR.cell (p := ⟨b, off + 8, none⟩) HB.out).trans e0, (bR.cell (p := ⟨b, off + 8 + 1, none⟩) HB.out).trans e1, (bR.cell (p := ⟨b, off + 8 + 2, none⟩) HB.out).trans e2, (bR.cell (p := ⟨b, off + 8 + 3, none⟩) HB.out).trans e3, (bR.cell (p := ⟨b, off + 8 + 4, none⟩) HB.out).trans e4, (bR.cell (p := ⟨b, off + 8 + 5, none⟩) HB.out).trans e5, (bR.cell (p := ⟨b, off + 8 + 6, none⟩) HB.out).trans e6, (bR.cell (p := ⟨b, off + 8 + 7, none⟩) HB.out).trans e7⟩); clear hK K; (try simp only [Act.put, List.setIfInBounds_toArray, List.set_cons_zero, List.set_cons_succ, List.getElem_toArray, List.getElem_cons_zero, List.getElem_cons_succ])
  refine wpAnyH_take (i := 18) (v := ?_) (by simp only [List.getElem?_toArray, List.getElem?_cons_zero, List.getElem?_cons_succ]; rfl) (by kernel_rfl) (by kernel_rfl) (by kernel_rfl) (by intro _ _ _ h; exact h) (Or.inl ⟨by rfl, ?_⟩) (by assumption) ?_; rotate_left; (focus (intro w1 hSw; (try dsimp only at hSw); go_simp; (try with_reducible rfl))); (try simp only [Act.put, List.setIfInBounds_toArray, List.set_cons_zero, List.set_cons_succ, List.getElem_toArray, List.getElem_cons_zero, List.getElem_cons_succ])
  refine wpAnyH_take (i := 19) (v := ?_) (by simp only [List.getElem?_toArray, List.getElem?_cons_zero, List.getElem?_cons_succ]; rfl) (by kernel_rfl) (by kernel_rfl) (by kernel_rfl) (by intro _ _ _ h; exact h) (Or.inl ⟨by rfl, ?_⟩) (by assumption) ?_; rotate_left; (focus (intro w1 hSw; (try dsimp only at hSw); go_simp; (try with_reducible rfl))); (try simp only [Act.put, List.setIfInBounds_toArray, List.set_cons_zero, List.set_cons_succ, List.getElem_toArray, List.getElem_cons_zero, List.getElem_cons_succ])
  refine wpAnyH_take (i := 20) (v := ?_) (by simp only [List.getElem?_toArray, List.getElem?_cons_zero, List.getElem?_cons_succ]; rfl) (by kernel_rfl) (by kernel_rfl) (by kernel_rfl) (by intro _ _ _ h; exact h) (Or.inl ⟨by rfl, ?_⟩) (by assumption) ?_; rotate_left; (focus (intro w1 hSw; (try dsimp only at hSw); go_simp; (try with_reducible rfl))); (try simp only [Act.put, List.setIfInBounds_toArray, List.set_cons_zero, List.set_cons_succ, List.getElem_toArray, List.getElem_cons_zero, List.getElem_cons_succ])
  refine wpAnyH_take (i := 21) (v := ?_) (by simp only [List.getElem?_toArray, List.getElem?_cons_zero, List.getElem?_cons_succ]; rfl) (by kernel_rfl) (by kernel_rfl) (by kernel_rfl) (by intro _ _ _ h; exact h) (Or.inl ⟨by rfl, ?_⟩) (by assumption) ?_; rotate_left; (focus (intro w1 hSw; (try dsimp only at hSw); go_simp; (try with_reducible rfl))); (try simp only [Act.put, List.setIfInBounds_toArray, List.set_cons_zero, List.set_cons_succ, List.getElem_toArray, List.getElem_cons_zero, List.getElem_cons_succ])
  refine wpAnyH_take (i := 22) (v := ?_) (by simp only [List.getElem?_toArray, List.getElem?_cons_zero, List.getElem?_cons_succ]; rfl) (by kernel_rfl) (by kernel_rfl) (by kernel_rfl) (by intro _ _ _ h; exact h) (Or.inl ⟨by rfl, ?_⟩) (by assumption) ?_; rotate_left; (focus (intro w1 hSw; (try dsimp only at hSw); go_simp; (try with_reducible rfl))); (try simp only [Act.put, List.setIfInBounds_toArray, List.set_cons_zero, List.set_cons_succ, List.getElem_toArray, List.getElem_cons_zero, List.getElem_cons_succ])
  refine wpAnyH_take (i := 23) (v := ?_) (by simp only [List.getElem?_toArray, List.getElem?_cons_zero, List.getElem?_cons_succ]; rfl) (by kernel_rfl) (by kernel_rfl) (by kernel_rfl) (by intro _ _ _ h; exact h) (Or.inl ⟨by rfl, ?_⟩) (by assumption) ?_; rotate_left; (focus (intro w1 hSw; (try dsimp only at hSw); go_simp; (try with_reducible rfl))); (try simp only [Act.put, List.setIfInBounds_toArray, List.set_cons_zero, List.set_cons_succ, List.getElem_toArray, List.getElem_cons_zero, List.getElem_cons_succ])
  refine wpAnyH_take (i := 24) (v := ?_) (by simp only [List.getElem?_toArray, List.getElem?_cons_zero, List.getElem?_cons_succ]; rfl) (by kernel_rfl) (by kernel_rfl) (by kernel_rfl) (by intro _ _ _ h; exact h) (Or.inl ⟨by rfl, ?_⟩) (by assumption) ?_; rotate_left; (focus (intro w1 hSw; (try dsimp only at hSw); go_simp; (try with_reducible rfl))); (try simp only [Act.put, List.setIfInBounds_toArray, List.set_cons_zero, List.set_cons_succ, List.getElem_toArray, List.getElem_cons_zero, List.getElem_cons_succ])
  refine wpAnyH_take (i := 25) (v := ?_) (by simp only [List.getElem?_toArray, List.getElem?_cons_zero, List.getElem?_cons_succ]; rfl) (by kernel_rfl) (by kernel_rfl) (by kernel_rfl) (by intro _ _ _ h; exact h) (Or.inl ⟨by rfl, ?_⟩) (by assumption) ?_; rotate_left; (focus (intro w1 hSw; (try dsimp only at hSw); go_simp; (try with_reducible rfl))); (try simp only [Act.put, List.setIfInBounds_toArray, List.set_cons_zero, List.set_cons_succ, List.getElem_toArray, List.getElem_cons_zero, List.getElem_cons_succ])
  refine wpAnyH_take (i := 26) (v := ?_) (by simp only [List.getElem?_toArray, List.getElem?_cons_zero, List.getElem?_cons_succ]; rfl) (by kernel_rfl) (by kernel_rfl) (by kernel_rfl) (by intro _ _ _ h; exact h) (Or.inl ⟨by rfl, ?_⟩) (by assumption) ?_; rotate_left; (focus (intro w1 hSw; (try dsimp only at hSw); go_simp; (try with_reducible rfl))); (try simp only [Act.put, List.setIfInBounds_toArray, List.set_cons_zero, List.set_cons_succ, List.getElem_toArray, List.getElem_cons_zero, List.getElem_cons_succ])
  refine wpAnyH_ready (rs := [27]) (by kernel_rfl) (by simp) ?_; refine AllReadyH.cons (by simp only [List.getElem?_toArray, List.getElem?_cons_zero, List.getElem?_cons_succ]; rfl) (fun K hK => ?_) AllReadyH.nil
  rw [if_pos (by rfl)]; go_wp2_with fail
  refine (CL1.out _).mono ?_
  rintro e W19 ⟨rfl, hg⟩
  have hb := hg.below
  have bR := bR.st hb
  have B2 := B2.below hb B2.lt
  have B3 := B3.below hb B3.lt
  have B6 := B6.below hb B6.lt
  have B7 := B7.below hb B7.lt
  clear hb hg
  go_wp2_with fail; refine hK.out _ _ ?_ (fun hHeld => ?_); (focus exact ⟨B2, B6, B7, B3, (bR.cell (p := ⟨b, off, none⟩) HB.out).trans c0, (bR.cell (p := ⟨b, off + 1, none⟩) HB.out).trans c1, (bR.cell (p := ⟨b, off + 2, none⟩) HB.out).trans c2, (bR.cell (p := ⟨b, off + 3, none⟩) HB.out).trans c3, (bR.cell (p := ⟨b, off + 4, none⟩) HB.out).trans c4, (bR.cell (p := ⟨b, off + 5, none⟩) HB.out).trans c5, (bR.cell (p := ⟨b, off + 6, none⟩) HB.out).trans c6, (bR.cell (p := ⟨b, off + 7, none⟩) HB.out).trans c7, (bR.cell (p := ⟨b, off + 8, none⟩) HB.out).trans e0, (bR.cell (p := ⟨b, off + 8 + 1, none⟩) HB.out).trans e1, (bR.cell (p := ⟨b, off + 8 + 2, none⟩) HB.out).trans e2, (bR.cell (p := ⟨b, off + 8 + 3, none⟩) HB.out).trans e3, (bR.cell (p := ⟨b, off + 8 + 4, none⟩) HB.out).trans e4, (bR.cell (p := ⟨b, off + 8 + 5, none⟩) HB.out).trans e5, (bR.cell (p := ⟨b, off + 8 + 6, none⟩) HB.out).trans e6, (bR.cell (p := ⟨b, off + 8 + 7, none⟩) HB.out).trans e7⟩); clear hK K; (try simp only [Act.put, List.setIfInBounds_toArray, List.set_cons_zero, List.set_cons_succ, List.getElem_toArray, List.getElem_cons_zero, List.getElem_cons_succ])
  refine wpAnyH_take (i := 28) (v := ?_) (by simp only [List.getElem?_toArray, List.getElem?_cons_zero, List.getElem?_cons_succ]; rfl) (by kernel_rfl) (by kernel_rfl) (by kernel_rfl) (by intro _ _ _ h; exact h) (Or.inl ⟨by rfl, ?_⟩) (by assumption) ?_; rotate_left; (focus (intro w1 hSw; (try dsimp only at hSw); go_simp; (try with_reducible rfl))); (try simp only [Act.put, List.setIfInBounds_toArray, List.set_cons_zero, List.set_cons_succ, List.getElem_toArray, List.getElem_cons_zero, List.getElem_cons_succ])
  refine wpAnyH_take (i := 29) (v := ?_) (by simp only [List.getElem?_toArray, List.getElem?_cons_zero, List.getElem?_cons_succ]; rfl) (by kernel_rfl) (by kernel_rfl) (by kernel_rfl) (by intro _ _ _ h; exact h) (Or.inl ⟨by rfl, ?_⟩) (by assumption) ?_; rotate_left; (focus (intro w1 hSw; (try dsimp only at hSw); go_simp; (try with_reducible rfl))); (try simp only [Act.put, List.setIfInBounds_toArray, List.set_cons_zero, List.set_cons_succ, List.getElem_toArray, List.getElem_cons_zero, List.getElem_cons_succ])
  refine wpAnyH_take (i := 30) (v := ?_) (by simp only [List.getElem?_toArray, List.getElem?_cons_zero, List.getElem?_cons_succ]; rfl) (by kernel_rfl) (by kernel_rfl) (by kernel_rfl) (by intro _ _ _ h; exact h) (Or.inl ⟨by rfl, ?_⟩) (by assumption) ?_; rotate_left; (focus (intro w1 hSw; (try dsimp only at hSw); go_simp; (try with_reducible rfl))); (try simp only [Act.put, List.setIfInBounds_toArray, List.set_cons_zero, List.set_cons_succ, List.getElem_toArray, List.getElem_cons_zero, List.getElem_cons_succ])
  refine wpAnyH_take (i := 31) (v := ?_) (by simp only [List.getElem?_toArray, List.getElem?_cons_zero, List.getElem?_cons_succ]; rfl) (by kernel_rfl) (by kernel_rfl) (by kernel_rfl) (by intro _ _ _ h; exact h) (Or.inl ⟨by rfl, ?_⟩) (by assumption) ?_; rotate_left; (focus (intro w1 hSw; (try dsimp only at hSw); go_simp; (try with_reducible rfl))); (try simp only [Act.put, List.setIfInBounds_toArray, List.set_cons_zero, List.set_cons_succ, List.getElem_toArray, List.getElem_cons_zero, List.getElem_cons_succ])
  refine wpAnyH_take (i := 32) (v := ?_) (by simp only [List.getElem?_toArray, List.getElem?_cons_zero, List.getElem?_cons_succ]; rfl) (by kernel_rfl) (by kernel_rfl) (by kernel_rfl) (by intro _ _ _ h; exact h) (Or.inl ⟨by rfl, ?_⟩) (by assumption) ?_; rotate_left; (focus (intro w1 hSw; (try dsimp only at hSw); go_simp; (try with_reducible rfl))); (try simp only [Act.put, List.setIfInBounds_toArray, List.set_cons_zero, List.set_cons_succ, List.getElem_toArray, List.getElem_cons_zero, List.getElem_cons_succ])
  refine wpAnyH_take (i := 33) (v := ?_) (by simp only [List.getElem?_toArray, List.getElem?_cons_zero, List.getElem?_cons_succ]; rfl) (by kernel_rfl) (by kernel_rfl) (by kernel_rfl) (by intro _ _ _ h; exact h) (Or.inl ⟨by rfl, ?_⟩) (by assumption) ?_; rotate_left; (focus (intro w1 hSw; (try dsimp only at hSw); go_simp; (try with_reducible rfl))); (try simp only [Act.put, List.setIfInBounds_toArray, List.set_cons_zero, List.set_cons_succ, List.getElem_toArray, List.getElem_cons_zero, List.getElem_cons_succ])
  refine wpAnyH_take (i := 34) (v := ?_) (by simp only [List.getElem?_toArray, List.getElem?_cons_zero, List.getElem?_cons_succ]; rfl) (by kernel_rfl) (by kernel_rfl) (by kernel_rfl) (by intro _ _ _ h; exact h) (Or.inl ⟨by rfl, ?_⟩) (by assumption) ?_; rotate_left; (focus (intro w1 hSw; (try dsimp only at hSw); go_simp; (try with_reducible rfl))); (try simp only [Act.put, List.setIfInBounds_toArray, List.set_cons_zero, List.set_cons_succ, List.getElem_toArray, List.getElem_cons_zero, List.getElem_cons_succ])
  refine wpAnyH_take (i := 35) (v := ?_) (by simp only [List.getElem?_toArray, List.getElem?_cons_zero, List.getElem?_cons_succ]; rfl) (by kernel_rfl) (by kernel_rfl) (by kernel_rfl) (by intro _ _ _ h; exact h) (Or.inl ⟨by rfl, ?_⟩) (by assumption) ?_; rotate_left; (focus (intro w1 hSw; (try dsimp only at hSw); go_simp; (try with_reducible rfl))); (try simp only [Act.put, List.setIfInBounds_toArray, List.set_cons_zero, List.set_cons_succ, List.getElem_toArray, List.getElem_cons_zero, List.getElem_cons_succ])
  refine wpAnyH_ready (rs := [36]) (by kernel_rfl) (by simp) ?_; refine AllReadyH.cons (by simp only [List.getElem?_toArray, List.getElem?_cons_zero, List.getElem?_cons_succ]; rfl) (fun K hK => ?_) AllReadyH.nil
  rw [if_pos (by rfl)]; go_wp2_with fail
  refine (CL2.out _).mono ?_
  rintro e W20 ⟨rfl, hg⟩
  have hb := hg.below
  have bR := bR.st hb
  have B2 := B2.below hb B2.lt
  have B3 := B3.below hb B3.lt
  have B6 := B6.below hb B6.lt
  have B7 := B7.below hb B7.lt
  clear hb hg
  go_wp2_with fail; refine hK.out _ _ ?_ (fun hHeld => ?_); (focus exact ⟨B2, B6, B7, B3, (bR.cell (p := ⟨b, off, none⟩) HB.out).trans c0, (bR.cell (p := ⟨b, off + 1, none⟩) HB.out).trans c1, (bR.cell (p := ⟨b, off + 2, none⟩) HB.out).trans c2, (bR.cell (p := ⟨b, off + 3, none⟩) HB.out).trans c3, (bR.cell (p := ⟨b, off + 4, none⟩) HB.out).trans c4, (bR.cell (p := ⟨b, off + 5, none⟩) HB.out).trans c5, (bR.cell (p := ⟨b, off + 6, none⟩) HB.out).trans c6, (bR.cell (p := ⟨b, off + 7, none⟩) HB.out).trans c7, (bR.cell (p := ⟨b, off + 8, none⟩) HB.out).trans e0, (bR.cell (p := ⟨b, off + 8 + 1, none⟩) HB.out).trans e1, (bR.cell (p := ⟨b, off + 8 + 2, none⟩) HB.out).trans e2, (bR.cell (p := ⟨b, off + 8 + 3, none⟩) HB.out).trans e3, (bR.cell (p := ⟨b, off + 8 + 4, none⟩) HB.out).trans e4, (bR.cell (p := ⟨b, off + 8 + 5, none⟩) HB.out).trans e5, (bR.cell (p := ⟨b, off + 8 + 6, none⟩) HB.out).trans e6, (bR.cell (p := ⟨b, off + 8 + 7, none⟩) HB.out).trans e7⟩); clear hK K; (try simp only [Act.put, List.setIfInBounds_toArray, List.set_cons_zero, List.set_cons_succ, List.getElem_toArray, List.getElem_cons_zero, List.getElem_cons_succ])
  refine wpAnyH_take (i := 37) (v := ?_) (by simp only [List.getElem?_toArray, List.getElem?_cons_zero, List.getElem?_cons_succ]; rfl) (by kernel_rfl) (by kernel_rfl) (by kernel_rfl) (by intro _ _ _ h; exact h) (Or.inl ⟨by rfl, ?_⟩) (by assumption) ?_; rotate_left; (focus (intro w1 hSw; (try dsimp only at hSw); go_simp; (try with_reducible rfl))); (try simp only [Act.put, List.setIfInBounds_toArray, List.set_cons_zero, List.set_cons_succ, List.getElem_toArray, List.getElem_cons_zero, List.getElem_cons_succ])
  refine wpAnyH_take (i := 38) (v := ?_) (by simp only [List.getElem?_toArray, List.getElem?_cons_zero, List.getElem?_cons_succ]; rfl) (by kernel_rfl) (by kernel_rfl) (by kernel_rfl) (by intro _ _ _ h; exact h) (Or.inl ⟨by rfl, ?_⟩) (by assumption) ?_; rotate_left; (focus (intro w1 hSw; (try dsimp only at hSw); go_simp; (try with_reducible rfl))); (try simp only [Act.put, List.setIfInBounds_toArray, List.set_cons_zero, List.set_cons_succ, List.getElem_toArray, List.getElem_cons_zero, List.getElem_cons_succ])
  refine wpAnyH_take (i := 39) (v := ?_) (by simp only [List.getElem?_toArray, List.getElem?_cons_zero, List.getElem?_cons_succ]; rfl) (by kernel_rfl) (by kernel_rfl) (by kernel_rfl) (by intro _ _ _ h; exact h) (Or.inl ⟨by rfl, ?_⟩) (by assumption) ?_; rotate_left; (focus (intro w1 hSw; (try dsimp only at hSw); go_simp; (try with_reducible rfl))); (try simp only [Act.put, List.setIfInBounds_toArray, List.set_cons_zero, List.set_cons_succ, List.getElem_toArray, List.getElem_cons_zero, List.getElem_cons_succ])
  refine wpAnyH_done (by kernel_rfl) ?_ _
  go_wp2_with fail
  go_ret
  exact ⟨rfl, HBW.out.st bR⟩
end Go.Proofs.Ytgkppjkmakomnaa
