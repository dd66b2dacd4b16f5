/- The law's awake, walked. -/
import Derived.Test.YtcpfiiapfggmpaaGreatJPrcStay0
import Derived.Test.YtcpfiiapfggmpaaGreatPrcCk
import Derived.Test.YtcpfiiapfggmpaaGreatJPrcTot
import Derived.Test.YtcpfiiapfggmpaaGreatJStabOwn
import Derived.Deep.DeepCutAuto
set_option linter.unusedSimpArgs false
set_option linter.unusedSimpArgs false
namespace Go.Proofs.YtcpfiiapfggmpaaGreat
open Go.RowKit Go.Lib

theorem cell_belowP {w w' : World} {b i : Nat} {v : Value} (h : w.cell? ⟨b, i, none⟩ = some v) (hb : Below w.heap.size w w') (hl : b < w.heap.size) : w'.cell? ⟨b, i, none⟩ = some v := (World.cell?_of_block (hb.block b hl)).trans h
def cv3 (k : ByteArray) (t : Int) : Cg := ⟨⟨k, ⟨#[]⟩, ⟨#[]⟩, 0, t, [], 0⟩, none, 0⟩
def ex3 : List Cg := [cv3 ⟨#[98]⟩ 2, cv3 ⟨#[97]⟩ 2, cv3 ⟨#[99]⟩ 1]
def ct2 (n : Int) : Cg := ⟨⟨⟨#[]⟩, ⟨#[]⟩, ⟨#[]⟩, 0, 0, [], n⟩, none, 0⟩
theorem lt_ab : ltC (cv3 ⟨#[97]⟩ 2).c (cv3 ⟨#[98]⟩ 2).c = true := by
  rw [ltC_iff]
  have : sltB ⟨#[97]⟩ ⟨#[98]⟩ = true := by unfold sltB; rw [ByteArray.toList_eq, ByteArray.toList_eq]; decide
  simp [cv3, this]
theorem lt_ca : ltC (cv3 ⟨#[99]⟩ 1).c (cv3 ⟨#[97]⟩ 2).c = true := by rw [ltC_iff]; simp [cv3]
theorem ex3_sort {r : List Cg} (h : SortC (cvs ex3) (cvs r)) : (cvs r)[0]? = some (cv3 ⟨#[99]⟩ 1).c ∧ (cvs r)[1]? = some (cv3 ⟨#[97]⟩ 2).c := by
  have k : StabOf ltC (cvs ex3) (insS ltC (cv3 ⟨#[99]⟩ 1).c (insS ltC (cv3 ⟨#[97]⟩ 2).c (insS ltC (cv3 ⟨#[98]⟩ 2).c []))) := ((StabOf.nil (lt := ltC)).snoc swoC (cv3 ⟨#[98]⟩ 2).c).snoc swoC (cv3 ⟨#[97]⟩ 2).c |>.snoc swoC (cv3 ⟨#[99]⟩ 1).c
  have e := StabOf.unique h k
  have e1 : insS ltC (cv3 ⟨#[98]⟩ 2).c [] = [(cv3 ⟨#[98]⟩ 2).c] := rfl
  have e2 : insS ltC (cv3 ⟨#[97]⟩ 2).c [(cv3 ⟨#[98]⟩ 2).c] = [(cv3 ⟨#[97]⟩ 2).c, (cv3 ⟨#[98]⟩ 2).c] := by rw [insS, if_pos lt_ab]
  have e3 : insS ltC (cv3 ⟨#[99]⟩ 1).c [(cv3 ⟨#[97]⟩ 2).c, (cv3 ⟨#[98]⟩ 2).c] = [(cv3 ⟨#[99]⟩ 1).c, (cv3 ⟨#[97]⟩ 2).c, (cv3 ⟨#[98]⟩ 2).c] := by rw [insS, if_pos lt_ca]
  rw [e1, e2, e3] at e
  rw [e]
  exact ⟨rfl, rfl⟩
theorem ex2_V : sumV (ctL (cvs [ct2 3, ct2 4])) = 7 ∧ sumE (ctL (cvs [ct2 3, ct2 4])) = 0 := by constructor <;> kernel_rfl
def chA : CV := ⟨⟨#[112, 58, 115]⟩, ⟨#[65, 66, 49, 50]⟩, ⟨#[122]⟩, 0, 9, [], 0⟩
theorem chA_ok : chkE chA = 0 := by
  have h1 : emp chA.key = false := by kernel_rfl
  have h2 : emp chA.veh = false := by kernel_rfl
  exact (chk_T h1 h2 (by decide) (by decide)).trans (by kernel_rfl)
theorem zeroC_6 : chkE zeroC = 6 := chk_6 (.inl (by kernel_rfl))
set_option maxRecDepth 100000 in
set_option maxHeartbeats 16000000 in
theorem awake_any (w : World) : Calls Tryz.prog 10 #[] w fun e w' => e = .returned (.bool true) ∧ Below w.heap.size w w' := by
  obtain ⟨Y1, hY1⟩ : ∃ Y, w.alloc (.cells #[.string ⟨#[111]⟩, .string ⟨#[]⟩, .int .i64 1, .string ⟨#[]⟩, .int .i64 400] 107) = Y := ⟨_, rfl⟩
  obtain ⟨Y2, hY2⟩ : ∃ Y, Y1.alloc (.cells #[.int .i64 0, .int .i64 1000, .slice none 0 0, .slice (some ⟨w.heap.size, 0, none⟩) 1 1] 104) = Y := ⟨_, rfl⟩
  obtain ⟨Y3, hY3⟩ : ∃ Y, Y2.alloc (.cells #[.string ⟨#[122]⟩, .slice none 0 0, .slice none 0 0, .int .i64 0, .int .i64 0, .int .i64 0, .int .i64 0] 76) = Y := ⟨_, rfl⟩
  obtain ⟨Y4, hY4⟩ : ∃ Y, Y3.alloc (.cells #[.slice none 0 0, .slice none 0 0, .slice none 0 0, .slice none 0 0, .slice none 0 0, .slice none 0 0, .int .i64 0, .int .i64 0, .slice none 0 0, .int .i64 0, .slice none 0 0, .slice none 0 0, .slice none 0 0, .slice none 0 0, .slice none 0 0, .slice none 0 0, .slice none 0 0, .slice none 0 0, .slice none 0 0, .slice none 0 0, .slice none 0 0, .slice none 0 0, .int .i64 0, .slice none 0 0, .string ⟨#[]⟩] 46) = Y := ⟨_, rfl⟩
  have s1 : Y1.heap.size = (w.heap.size + 1) := by rw [← hY1]; simp
  have s2 : Y2.heap.size = (w.heap.size + 1 + 1) := by rw [← hY2, ← s1]; simp
  have s3 : Y3.heap.size = (w.heap.size + 1 + 1 + 1) := by rw [← hY3, ← s2]; simp
  have n1 : Below Y1.heap.size Y1 Y2 := by rw [← hY2]; exact (Below.refl _ _).al _
  have n2 : Below Y2.heap.size Y2 Y3 := by rw [← hY3]; exact (Below.refl _ _).al _
  have n3 : Below Y3.heap.size Y3 Y4 := by rw [← hY4]; exact (Below.refl _ _).al _
  have n0 : Below w.heap.size w Y1 := by rw [← hY1]; exact (Below.refl _ _).al _
  have BZ : Blk Y4 (w.heap.size + 1 + 1 + 1) #[.slice none 0 0, .slice none 0 0, .slice none 0 0, .slice none 0 0, .slice none 0 0, .slice none 0 0, .int .i64 0, .int .i64 0, .slice none 0 0, .int .i64 0, .slice none 0 0, .slice none 0 0, .slice none 0 0, .slice none 0 0, .slice none 0 0, .slice none 0 0, .slice none 0 0, .slice none 0 0, .slice none 0 0, .slice none 0 0, .slice none 0 0, .slice none 0 0, .int .i64 0, .slice none 0 0, .string ⟨#[]⟩] 46 := by rw [← hY4, ← s3]; exact Blk.new Y3 _ _
  have HALL : Hid (∀ V4, (∀ B w0, B ≤ (w.heap.size + 1 + 1 + 1) → Below B w0 Y4 → Below B w0 V4) → Below w.heap.size w V4 ∧ Blk V4 (w.heap.size + 1) #[.int .i64 0, .int .i64 1000, .slice none 0 0, .slice (some ⟨w.heap.size, 0, none⟩) 1 1] 104 ∧ Rd encRt 5 V4 V4.heap.size (some ⟨w.heap.size, 0, none⟩) [⟨⟨#[111]⟩, ⟨#[]⟩, 1, ⟨#[]⟩, 400⟩] ∧ Rd encZ 7 V4 V4.heap.size (some ⟨(w.heap.size + 1 + 1), 0, none⟩) [z1]) := Lib.hid (by
    intro V4 hbz
    have n34 := hbz _ _ (by omega) n3
    have n24 := n2.st n34
    have n14 := n1.st n24
    refine ⟨n0.st n14, (show Blk Y2 (w.heap.size + 1) #[.int .i64 0, .int .i64 1000, .slice none 0 0, .slice (some ⟨w.heap.size, 0, none⟩) 1 1] 104 by rw [← hY2, ← s1]; exact Blk.new Y1 _ _).below n24 (by omega), (show Rd encRt 5 Y1 Y1.heap.size (some ⟨w.heap.size, 0, none⟩) [⟨⟨#[111]⟩, ⟨#[]⟩, 1, ⟨#[]⟩, 400⟩] by rw [← hY1]; exact Rd.lit w _ encRt_ok rfl (by simp)).st n14, (show Rd encZ 7 Y3 Y3.heap.size (some ⟨(w.heap.size + 1 + 1), 0, none⟩) [z1] by rw [← hY3, ← s2]; exact Rd.lit Y2 _ encZ_ok rfl (by simp)).st n34⟩)
  clear n0 n1 n2 n3
  go_enter Tryz.func10, Tryz.ntmps10
  go_wp2_with (first | (refine wpList_boxStore rfl (ty := 46) (x := .tmp 1) (y := .tmp 19) (cells := #[.slice none 0 0, .slice none 0 0, .slice none 0 0, .slice none 0 0, .slice none 0 0, .slice none 0 0, .int .i64 0, .int .i64 0, .slice (some ⟨w.heap.size + 1, 0, none⟩) 1 1, .int .i64 0, .slice none 0 0, .slice none 0 0, .slice none 0 0, .slice none 0 0, .slice none 0 0, .slice (some ⟨w.heap.size + 1 + 1, 0, none⟩) 1 1, .slice none 0 0, .slice none 0 0, .slice none 0 0, .slice none 0 0, .slice none 0 0, .slice none 0 0, .int .i64 0, .slice none 0 0, .string ⟨#[]⟩]) rfl BZ rfl rfl (by kernel_rfl) rfl (by kernel_rfl) ?_; intro V4 BC hoz hbz; have BCx := BC.alloc (.cells #[.string ⟨#[111]⟩, .int .i64 100, .string ⟨#[99, 49, 46, 53]⟩] 109); have BCy := BCx.alloc (.cells #[.string ⟨#[99, 49, 46, 53]⟩, .string ⟨#[65, 66, 49, 50]⟩, .string ⟨#[109]⟩, .int .i64 1, .slice (some ⟨V4.heap.size, 0, none⟩) 1 1] 49)) | (refine wpList_boxLoad rfl (ty := 46) (x := .tmp 1) (cs := #[.slice none 0 0, .slice none 0 0, .slice none 0 0, .slice none 0 0, .slice none 0 0, .slice none 0 0, .int .i64 0, .int .i64 0, .slice (some ⟨w.heap.size + 1, 0, none⟩) 1 1, .int .i64 0, .slice none 0 0, .slice none 0 0, .slice none 0 0, .slice none 0 0, .slice none 0 0, .slice (some ⟨w.heap.size + 1 + 1, 0, none⟩) 1 1, .slice none 0 0, .slice none 0 0, .slice none 0 0, .slice none 0 0, .slice none 0 0, .slice none 0 0, .int .i64 0, .slice none 0 0, .string ⟨#[]⟩]) rfl BCy rfl ⟨_, Tryz.underlying46, by kernel_rfl⟩ ?_))
  obtain ⟨bW, BF, rR, rZ⟩ := HALL.out V4 hbz
  clear hoz hbz HALL BZ hY1 hY2 hY3 hY4 BCx BCy s1 s2 s3
  obtain ⟨Y5, hY5⟩ : ∃ Y, V4.alloc (.cells #[.string ⟨#[111]⟩, .int .i64 100, .string ⟨#[99, 49, 46, 53]⟩] 109) = Y := ⟨_, rfl⟩
  obtain ⟨Y6, hY6⟩ : ∃ Y, Y5.alloc (.cells #[.string ⟨#[99, 49, 46, 53]⟩, .string ⟨#[65, 66, 49, 50]⟩, .string ⟨#[109]⟩, .int .i64 1, .slice (some ⟨V4.heap.size, 0, none⟩) 1 1] 49) = Y := ⟨_, rfl⟩
  have s5 : Y5.heap.size = V4.heap.size + 1 := by rw [← hY5]; simp
  rw [hY5, hY6]
  have n4 : Below V4.heap.size V4 Y5 := by rw [← hY5]; exact (Below.refl _ _).al _
  have n5 : Below Y5.heap.size Y5 Y6 := by rw [← hY6]; exact (Below.refl _ _).al _
  have n46 := n4.st n5
  have bW := bW.st n46
  have BT : Blk Y6 (V4.heap.size + 1) #[.string ⟨#[99, 49, 46, 53]⟩, .string ⟨#[65, 66, 49, 50]⟩, .string ⟨#[109]⟩, .int .i64 1, .slice (some ⟨V4.heap.size, 0, none⟩) 1 1] 49 := by rw [← hY6, ← s5]; exact Blk.new Y5 _ _
  have BS : Blk Y6 V4.heap.size #[.string ⟨#[111]⟩, .int .i64 100, .string ⟨#[99, 49, 46, 53]⟩] 109 := (show Blk Y5 V4.heap.size #[.string ⟨#[111]⟩, .int .i64 100, .string ⟨#[99, 49, 46, 53]⟩] 109 by rw [← hY5]; exact Blk.new V4 _ _).below n5 (by omega)
  have BC := BC.below n46 BC.lt
  have BF := BF.below n46 BF.lt
  have rR := rR.st n46
  have rZ := rZ.st n46
  have CB := Lib.hid (fun (X : World) (hX : Below Y6.heap.size Y6 X) => pbase_one (tb := (w.heap.size + 1)) (sb := V4.heap.size) (ra := ⟨w.heap.size, 0, none⟩) (zA := some ⟨(w.heap.size + 1 + 1), 0, none⟩) (tc := 1) (sc := 1) (zc := 1) (rc := 1) (BF.below hX BF.lt).lt (BS.below hX BS.lt).lt ((BF.below hX BF.lt).cell 0 rfl) ((BF.below hX BF.lt).cell 1 rfl) ((BF.below hX BF.lt).cell 2 rfl) ((BF.below hX BF.lt).cell 3 rfl) ((BS.below hX BS.lt).cell 0 rfl) ((BS.below hX BS.lt).cell 1 rfl) ((BS.below hX BS.lt).cell 2 rfl) (rR.st hX))
  have CN := Lib.hid (fun (X : World) => pbase_none (tA := some ⟨(w.heap.size + 1), 0, none⟩) (zA := some ⟨(w.heap.size + 1 + 1), 0, none⟩) (tc := 1) (zc := 1) X)
  have CS := Lib.hid (fun (X : World) (hX : Below Y6.heap.size Y6 X) => pstay_one (zb := (w.heap.size + 1 + 1)) (tA := some ⟨(w.heap.size + 1), 0, none⟩) (tc := 1) (zc_ := 1) (rZ.st hX))
  have HW := Lib.hid bW
  have bY := Below.refl Y6.heap.size Y6
  clear s5 n4 n5 n46 bW BF BS rR rZ hY5 hY6
  refine (CB.out _ bY).mono ?_
  rintro e W1 ⟨rfl, hbn⟩
  have bY := bY.st hbn; have BC := BC.below hbn BC.lt; have BT := BT.below hbn BT.lt; clear hbn
  go_wp2_with (first | (refine wpList_boxLoad rfl (ty := 46) (x := .tmp 1) (cs := #[.slice none 0 0, .slice none 0 0, .slice none 0 0, .slice none 0 0, .slice none 0 0, .slice none 0 0, .int .i64 0, .int .i64 0, .slice (some ⟨w.heap.size + 1, 0, none⟩) 1 1, .int .i64 0, .slice none 0 0, .slice none 0 0, .slice none 0 0, .slice none 0 0, .slice none 0 0, .slice (some ⟨w.heap.size + 1 + 1, 0, none⟩) 1 1, .slice none 0 0, .slice none 0 0, .slice none 0 0, .slice none 0 0, .slice none 0 0, .slice none 0 0, .int .i64 0, .slice none 0 0, .string ⟨#[]⟩]) rfl BC rfl ⟨_, Tryz.underlying46, by kernel_rfl⟩ ?_) | (refine wpList_boxLoad rfl (ty := 49) (x := .tmp 2) (cs := #[.string ⟨#[99, 49, 46, 53]⟩, .string ⟨#[65, 66, 49, 50]⟩, .string ⟨#[109]⟩, .int .i64 1, .slice (some ⟨V4.heap.size, 0, none⟩) 1 1]) rfl BT rfl ⟨_, Tryz.underlying49, by kernel_rfl⟩ ?_))
  refine (CN.out _).mono ?_
  rintro e W2 ⟨rfl, hbn⟩
  have bY := bY.st hbn; have BC := BC.below hbn BC.lt; have BT := BT.below hbn BT.lt; clear hbn
  go_wp2_with (first | (refine wpList_boxLoad rfl (ty := 46) (x := .tmp 1) (cs := #[.slice none 0 0, .slice none 0 0, .slice none 0 0, .slice none 0 0, .slice none 0 0, .slice none 0 0, .int .i64 0, .int .i64 0, .slice (some ⟨w.heap.size + 1, 0, none⟩) 1 1, .int .i64 0, .slice none 0 0, .slice none 0 0, .slice none 0 0, .slice none 0 0, .slice none 0 0, .slice (some ⟨w.heap.size + 1 + 1, 0, none⟩) 1 1, .slice none 0 0, .slice none 0 0, .slice none 0 0, .slice none 0 0, .slice none 0 0, .slice none 0 0, .int .i64 0, .slice none 0 0, .string ⟨#[]⟩]) rfl BC rfl ⟨_, Tryz.underlying46, by kernel_rfl⟩ ?_) | (refine wpList_boxLoad rfl (ty := 49) (x := .tmp 2) (cs := #[.string ⟨#[99, 49, 46, 53]⟩, .string ⟨#[65, 66, 49, 50]⟩, .string ⟨#[109]⟩, .int .i64 1, .slice (some ⟨V4.heap.size, 0, none⟩) 1 1]) rfl BT rfl ⟨_, Tryz.underlying49, by kernel_rfl⟩ ?_))
  refine (CS.out _ bY).mono ?_
  rintro e W3 ⟨rfl, hbn⟩
  have bY := bY.st hbn; have BC := BC.below hbn BC.lt; have BT := BT.below hbn BT.lt; clear hbn
  clear CB CN CS BC BT
  go_upto_region 6 with fail
  obtain ⟨W4, hW4⟩ : ∃ Y, W3.alloc (.cells #[.string ⟨#[112, 58, 115]⟩, .string ⟨#[65, 66, 49, 50]⟩, .string ⟨#[122]⟩, .int .i64 0, .int .i64 9, .slice none 0 0, .int .i64 0] 66) = Y := ⟨_, rfl⟩
  rw [hW4]
  have hb4 : Below W3.heap.size W3 W4 := by rw [← hW4]; exact (Below.refl _ _).al _
  have b4 := bY.st hb4
  have BH : Blk W4 W3.heap.size #[.string ⟨#[112, 58, 115]⟩, .string ⟨#[65, 66, 49, 50]⟩, .string ⟨#[122]⟩, .int .i64 0, .int .i64 9, .slice none 0 0, .int .i64 0] 66 := by rw [← hW4]; exact Blk.new W3 _ _
  clear hW4 hb4 bY
  obtain ⟨W5, hW5⟩ : ∃ Y, W4.alloc (.cells #[.string ⟨#[98]⟩, .string ⟨#[]⟩, .string ⟨#[]⟩, .int .i64 0, .int .i64 2, .slice none 0 0, .int .i64 0, .string ⟨#[97]⟩, .string ⟨#[]⟩, .string ⟨#[]⟩, .int .i64 0, .int .i64 2, .slice none 0 0, .int .i64 0, .string ⟨#[99]⟩, .string ⟨#[]⟩, .string ⟨#[]⟩, .int .i64 0, .int .i64 1, .slice none 0 0, .int .i64 0] 66) = Y := ⟨_, rfl⟩
  have hb5 : Below W4.heap.size W4 W5 := by rw [← hW5]; exact (Below.refl _ _).al _
  have b5 := b4.st hb5
  have BH := BH.below hb5 BH.lt
  have r3 : Rd encCg 7 W5 W5.heap.size (some ⟨W4.heap.size, 0, none⟩) ex3 := by rw [← hW5]; exact Rd.lit W4 _ encCg_ok rfl (by simp [ex3])
  have CO := psort_any (l := ex3) 3 r3 (by intro x hx; simp only [ex3, List.mem_cons, List.not_mem_nil, or_false] at hx; rcases hx with rfl | rfl | rfl <;> exact ⟨Rd.nil, by simp [cv3]⟩) (by simp [ex3])
  rw [show ex3.length = 3 from rfl] at CO
  have CO := Lib.hid CO
  clear hb5 r3
  go_wp2_with fail
  refine CO.out.mono ?_
  rintro e W6 ⟨A6, c6, r, rfl, hrl, hown, hst, -, hbn⟩
  have b6 := b5.st hbn
  have BH := BH.below hbn BH.lt
  have hs3 := ex3_sort hst
  obtain ⟨g, off, x, hA, hg, hx, d0, -⟩ := (hown.rd encCg_ok).cg (i := 0) (by rw [hrl.out]; decide)
  obtain ⟨g', off', y, hA', -, hy, e0, -⟩ := (hown.rd encCg_ok).cg (i := 1) (by rw [hrl.out]; decide)
  subst hA
  injection hA' with hA'
  injection hA' with q1 q2
  subst q1 q2
  have hxc : x.c = (cv3 ⟨#[99]⟩ 1).c := Option.some.inj ((cvs_at hx).symm.trans hs3.1)
  have hyc : y.c = (cv3 ⟨#[97]⟩ 2).c := Option.some.inj ((cvs_at hy).symm.trans hs3.2)
  have d0 : W6.cell? ⟨g, off, none⟩ = some (.string ⟨#[99]⟩) := by rw [hxc] at d0; simpa [cv3] using d0
  have e0 : W6.cell? ⟨g, off + 7, none⟩ = some (.string ⟨#[97]⟩) := by rw [hyc] at e0; simpa [cv3] using e0
  clear hxc hyc hx hy hs3 hst hown hrl hbn CO hW5
  obtain ⟨W7, hW7⟩ : ∃ Y, W6.alloc (.cells #[.string ⟨#[]⟩, .string ⟨#[]⟩, .string ⟨#[]⟩, .int .i64 0, .int .i64 0, .slice none 0 0, .int .i64 3, .string ⟨#[]⟩, .string ⟨#[]⟩, .string ⟨#[]⟩, .int .i64 0, .int .i64 0, .slice none 0 0, .int .i64 4] 66) = Y := ⟨_, rfl⟩
  have hb7 : Below W6.heap.size W6 W7 := by rw [← hW7]; exact (Below.refl _ _).al _
  have b7 := b6.st hb7
  have BH := BH.below hb7 BH.lt
  have r2 : Rd encCg 7 W7 W7.heap.size (some ⟨W6.heap.size, 0, none⟩) [ct2 3, ct2 4] := by rw [← hW7]; exact Rd.lit W6 _ encCg_ok rfl (by simp)
  have CT := ptot_any (l := [ct2 3, ct2 4]) 2 r2 (by simp)
  rw [ex2_V.1, ex2_V.2, show [ct2 3, ct2 4].length = 2 from rfl] at CT
  have CT := Lib.hid CT
  clear r2
  go_wp2_with fail
  refine CT.out.mono ?_
  rintro e W8 ⟨rfl, hbn⟩
  have b8 := b7.st hbn
  have BH := BH.below hbn BH.lt
  have hg7 : g < W7.heap.size := Nat.lt_of_lt_of_le hg hb7.size
  have d0 := cell_belowP (cell_belowP d0 hb7 hg) hbn hg7
  have e0 := cell_belowP (cell_belowP e0 hb7 hg) hbn hg7
  have h0 := BH.cell 0 (v := .string ⟨#[112, 58, 115]⟩) rfl
  have h1 := BH.cell 1 (v := .string ⟨#[65, 66, 49, 50]⟩) rfl
  have h2 := BH.cell 2 (v := .string ⟨#[122]⟩) rfl
  have h3 := BH.cell 3 (v := .int .i64 0) rfl
  have h4 := BH.cell 4 (v := .int .i64 9) rfl
  have h5 := BH.cell 5 (v := .slice none 0 0) rfl
  have h6 := BH.cell 6 (v := .int .i64 0) rfl
  have K1 := pchk_any chA (lA := none) 0 (w := W8) Rd.nil (by simp [chA])
  rw [chA_ok] at K1
  have K1 := Lib.hid K1
  have K2 := Lib.hid (fun (X : World) => by have := pchk_any zeroC (lA := none) 0 (w := X) Rd.nil (by simp [zeroC]); rw [zeroC_6] at this; exact this)
  simp only [CHV, chA, zeroC, List.length_nil] at K1 K2
  have t1 : (⟨#[99]⟩ : ByteArray).toList = [99] := by rw [ByteArray.toList_eq]
  have t2 : (⟨#[97]⟩ : ByteArray).toList = [97] := by rw [ByteArray.toList_eq]
  clear hbn hb7 hg hg7 CT hW7 b5 b6 b7
  go_wp2_with fail
  refine K1.out.mono ?_
  rintro e W9 ⟨rfl, hbn⟩
  have b9 := b8.st hbn
  clear hbn
  go_wp2_with fail
  refine (K2.out _).mono ?_
  rintro e W10 ⟨rfl, hbn⟩
  have b10 := HW.out.st (b9.st hbn)
  go_wp2_with fail
  go_ret
  exact ⟨rfl, b10⟩
end Go.Proofs.YtcpfiiapfggmpaaGreat
