/- permit.Check at the permits that the chapter's examples use, walked. -/
import Derived.Test.YtbeoopofckbijaaPerList
import Derived.Test.YtbeoopofckbijaaZoneFind
import Derived.Test.YtbeoopofckbijaaValid
import Derived.Test.YtbeoopofckbijaaName
import Derived.Test.YtbeoopofckbijaaBox
import Derived.IntWalk
import Derived.BigRegion
namespace Go.Proofs.Ytbeoopofckbijaa
open Go.RowKit Go.Lib

set_option maxHeartbeats 1000000 in
theorem window_any (x y z : Int) (w : World) : Calls Try.prog 30 #[.agg #[.int .i64 x, .int .i64 y, .int .i64 z]] w fun e w' => e = .returned (.bool (vw (x, y, z))) ∧ Below w.heap.size w w' := by
  unfold vw
  have hb : Below w.heap.size w (w.alloc (.cells #[.int .i64 x, .int .i64 y, .int .i64 z] 42)) := (Below.refl _ w).al _
  go_enter Try.func30, Try.ntmps30
  go_wp2
  all_goals (go_ret; exact ⟨ret_bool (by rw [Bool.eq_iff_iff]; simp; omega), hb⟩)

set_option maxRecDepth 100000 in
set_option maxHeartbeats 4000000 in
/-- one plate, in its normal form -/
theorem plates_one {A : Option Addr} (c : Nat) (s : ByteArray) (h1 : plB s = true) (h2 : plS s = s) (hs : s.size ≤ 1000000) {w : World} (h : Rd encStr 1 w w.heap.size A [s]) (hc : 1 ≤ c ∧ c ≤ 9223372036854775807) :
    Calls Try.prog 29 #[.slice A 1 c] w fun e w' => e = .returned (.int .i64 0) ∧ Below w.heap.size w w' := by
  have CP := Lib.hid (fun (X : World) => normal_any s hs X)
  have e1 : plE s = 0 := by unfold plE; rw [if_pos h1]
  rw [e1, h2] at CP
  obtain ⟨b, off, y, hA, hb, hx, d0⟩ := h.str (i := 0) (by simp)
  obtain rfl : y = s := by simpa using hx.symm
  have CH := Lib.hid (fun (X : World) => hasS_any (A := A) c (l := []) y (w := X) (fun q => absurd rfl q) (by simp))
  simp only [Nat.add_zero] at d0
  have HC := Lib.hid (show hasS [] y = false from rfl)
  rw [HC.out] at CH
  simp only [List.length_nil] at CH
  subst hA
  obtain ⟨hc1, hc2⟩ := hc
  have hc1' : (1 : Int) ≤ (c : Int) := by omega
  clear h hx h1 h2 e1 HC hs
  go_enter Try.func29, Try.ntmps29
  go_wp2_with fail
  go_loopw [12] (fun i wr => ∃ k : Nat, k ≤ 1 ∧ i = .int .i64 k ∧ Below w.heap.size w wr) (fun i _ => 1 - (RowKit.intOf i).toNat)
  case atStart => exact ⟨0, by omega, rfl, Below.refl _ _⟩
  case round =>
    obtain ⟨k, hk, rfl, bW⟩ := hrel
    rcases (by omega : k = 0 ∨ k = 1) with rfl | rfl
    · have d1 : World.cell? wr ⟨b, off, none⟩ = some (.string y) := (World.cell?_of_block (bW.block b hb)).trans d0
      clear d0
      go_wp2_with fail
      refine (CP.out _).mono ?_
      rintro e w2 ⟨rfl, hbn⟩
      have bW := bW.st hbn
      go_wp2_with fail
      refine (CH.out _).mono ?_
      rintro e w3 ⟨rfl, rfl⟩
      go_wp2_with fail
      go_roundw
      case rel => exact ⟨1, by omega, by go_num, bW⟩
      case measure => simp [RowKit.intOf]
    · go_wp2_with fail
      go_ret
      exact ⟨rfl, bW⟩

set_option maxRecDepth 100000 in
set_option maxHeartbeats 8000000 in
/-- a permit of one plate and one window -/
theorem check_ex (nm zn s : ByteArray) (pA : Option Addr) (pc : Nat) (v0 v1 : Int) (hA : Option Addr) (hc : Nat) (x : Wn) (mo : Int) {B : Option Addr} (c : Nat) {l : List Zn} {w : World}
    (hn : nameB nm = true) (h1 : plB s = true) (h2 : plS s = s) (hs : s.size ≤ 1000000) (hP : Rd encStr 1 w w.heap.size pA [s]) (hpc : 1 ≤ pc ∧ pc ≤ 9223372036854775807) (hv : validB v0 v1 = true)
    (hH : Rd encW 3 w w.heap.size hA [x]) (hx : vw x = true) (hm : 1 ≤ mo ∧ mo ≤ 2147483648) (hZ : Rd encZ 7 w w.heap.size B l) (hZo : ZsOk w l) (hZs : ∀ z ∈ l, small z) (hZl : l.length ≤ 1000) :
    Calls Try.prog 12 #[.agg #[.string nm, .string zn, .slice pA 1 pc, .int .i64 v0, .int .i64 v1, .slice hA 1 hc, .int .i64 mo], .slice B l.length c] w fun e w' => e = .returned (.int .i64 (if (findZ l zn).isSome then 0 else 23)) ∧ Below w.heap.size w w' := by
  have CN := Lib.hid (fun (X : World) => name_any nm X)
  rw [hn] at CN
  have CF := Lib.hid (fun (X : World) (hX : Below w.heap.size w X) => zfind_any c (nm := zn) (hZ.st hX) (hZo.st hX) hZs (by omega))
  have CP := Lib.hid (fun (X : World) (hX : Below w.heap.size w X) => plates_one pc s h1 h2 hs (hP.st hX) hpc)
  have CV := Lib.hid (fun (X : World) => valid_any v0 v1 X)
  rw [hv] at CV
  have CW := Lib.hid (fun (X : World) => window_any x.1 x.2.1 x.2.2 X)
  have HV : Hid (vw (x.1, x.2.1, x.2.2) = true) := Lib.hid hx
  rw [HV.out] at CW
  have HH := Lib.hid hH
  obtain ⟨hm1, hm2⟩ := hm
  clear hn h1 h2 hs hP hpc hv hx hH hZ hZo hZs hZl HV
  unfold FindR at CF
  generalize (findZ l zn).isSome = fz at CF ⊢
  obtain ⟨Y, hY⟩ : ∃ Y, w.alloc (.cells #[.string nm, .string zn, .slice pA 1 pc, .int .i64 v0, .int .i64 v1, .slice hA 1 hc, .int .i64 mo] 31) = Y := ⟨_, rfl⟩
  have bW : Below w.heap.size w Y := by rw [← hY]; exact (Below.refl _ w).al _
  have BP : Blk Y w.heap.size #[.string nm, .string zn, .slice pA 1 pc, .int .i64 v0, .int .i64 v1, .slice hA 1 hc, .int .i64 mo] 31 := by rw [← hY]; exact Blk.new w _ _
  have p0 := BP.cell 0 (v := .string nm) rfl; have p1 := BP.cell 1 (v := .string zn) rfl; have p2 := BP.cell 2 (v := .slice pA 1 pc) rfl; have p3 := BP.cell 3 (v := .int .i64 v0) rfl; have p4 := BP.cell 4 (v := .int .i64 v1) rfl; have p5 := BP.cell 5 (v := .slice hA 1 hc) rfl; have p6 := BP.cell 6 (v := .int .i64 mo) rfl
  go_enter Try.func12, Try.ntmps12
  go_wp2_with fail
  refine (CN.out _).mono ?_
  rintro e w2 ⟨rfl, hbn⟩
  have bW := bW.st hbn; have BP := BP.below hbn BP.lt
  have p0 := BP.cell 0 (v := .string nm) rfl; have p1 := BP.cell 1 (v := .string zn) rfl; have p2 := BP.cell 2 (v := .slice pA 1 pc) rfl; have p3 := BP.cell 3 (v := .int .i64 v0) rfl; have p4 := BP.cell 4 (v := .int .i64 v1) rfl; have p5 := BP.cell 5 (v := .slice hA 1 hc) rfl; have p6 := BP.cell 6 (v := .int .i64 mo) rfl
  clear hbn hY CN
  go_wp2_with fail
  refine (CF.out _ bW).mono ?_
  rintro e w3 ⟨z, rfl, -, -, hbn⟩
  obtain ⟨zn', hA', hc', hs', sA', sc', ss', gr', fr', dm', ms'⟩ := z
  simp only [ZV]
  have bW := bW.st hbn; have BP := BP.below hbn BP.lt
  have p0 := BP.cell 0 (v := .string nm) rfl; have p1 := BP.cell 1 (v := .string zn) rfl; have p2 := BP.cell 2 (v := .slice pA 1 pc) rfl; have p3 := BP.cell 3 (v := .int .i64 v0) rfl; have p4 := BP.cell 4 (v := .int .i64 v1) rfl; have p5 := BP.cell 5 (v := .slice hA 1 hc) rfl; have p6 := BP.cell 6 (v := .int .i64 mo) rfl
  clear hbn CF
  obtain ⟨Y3, hY3⟩ : ∃ Y, w3.alloc (.cells #[.string ⟨#[]⟩, .slice none 0 0, .slice none 0 0, .int .i64 0, .int .i64 0, .int .i64 0, .int .i64 0] 51) = Y := ⟨_, rfl⟩
  have BZ : Blk Y3 w3.heap.size #[.string ⟨#[]⟩, .slice none 0 0, .slice none 0 0, .int .i64 0, .int .i64 0, .int .i64 0, .int .i64 0] 51 := by rw [← hY3]; exact Blk.new _ _ _
  have hbn : Below w3.heap.size w3 Y3 := by rw [← hY3]; exact (Below.refl _ _).al _
  have hz3 : w.heap.size < w3.heap.size := BP.lt
  have hz3' : w.heap.size ≠ w3.heap.size := by omega
  have hz4 : w.heap.size ≤ w3.heap.size := by omega
  have bW := bW.st hbn; have BP := BP.below hbn BP.lt
  clear hbn p0 p1 p2 p3 p4 p5 p6
  cases fz
  · go_wp2_with (refine wpList_boxStore rfl (ty := 51) (x := .tmp 5) (y := .tmp 19) (cells := #[.string zn', .slice hA' hs'.length hc', .slice sA' ss'.length sc', .int .i64 gr', .int .i64 fr', .int .i64 dm', .int .i64 ms']) rfl BZ rfl rfl (by kernel_rfl) rfl (by kernel_rfl) ?_; intro w6 BZ6 hoz6 hbz6; have BP := BP.oth hoz6 hz3'; have bW := hbz6 _ _ hz4 bW; have p0 := BP.cell 0 (v := .string nm) rfl; have p1 := BP.cell 1 (v := .string zn) rfl; have p2 := BP.cell 2 (v := .slice pA 1 pc) rfl; have p3 := BP.cell 3 (v := .int .i64 v0) rfl; have p4 := BP.cell 4 (v := .int .i64 v1) rfl; have p5 := BP.cell 5 (v := .slice hA 1 hc) rfl; have p6 := BP.cell 6 (v := .int .i64 mo) rfl)
    go_ret
    exact ⟨rfl, bW⟩
  · go_wp2_with (refine wpList_boxStore rfl (ty := 51) (x := .tmp 5) (y := .tmp 19) (cells := #[.string zn', .slice hA' hs'.length hc', .slice sA' ss'.length sc', .int .i64 gr', .int .i64 fr', .int .i64 dm', .int .i64 ms']) rfl BZ rfl rfl (by kernel_rfl) rfl (by kernel_rfl) ?_; intro w6 BZ6 hoz6 hbz6; have BP := BP.oth hoz6 hz3'; have bW := hbz6 _ _ hz4 bW; have p0 := BP.cell 0 (v := .string nm) rfl; have p1 := BP.cell 1 (v := .string zn) rfl; have p2 := BP.cell 2 (v := .slice pA 1 pc) rfl; have p3 := BP.cell 3 (v := .int .i64 v0) rfl; have p4 := BP.cell 4 (v := .int .i64 v1) rfl; have p5 := BP.cell 5 (v := .slice hA 1 hc) rfl; have p6 := BP.cell 6 (v := .int .i64 mo) rfl)
    refine (CP.out _ bW).mono ?_
    rintro e w7 ⟨rfl, hbn⟩
    have bW := bW.st hbn; have BP := BP.below hbn BP.lt
    have p0 := BP.cell 0 (v := .string nm) rfl; have p1 := BP.cell 1 (v := .string zn) rfl; have p2 := BP.cell 2 (v := .slice pA 1 pc) rfl; have p3 := BP.cell 3 (v := .int .i64 v0) rfl; have p4 := BP.cell 4 (v := .int .i64 v1) rfl; have p5 := BP.cell 5 (v := .slice hA 1 hc) rfl; have p6 := BP.cell 6 (v := .int .i64 mo) rfl
    clear hbn
    go_wp2_with fail
    refine (CV.out _).mono ?_
    rintro e w8 ⟨rfl, hw8⟩
    have hbn : Below w7.heap.size w7 w8 := by rw [← hw8]; exact (Below.refl _ _).al _
    have bW := bW.st hbn; have BP := BP.below hbn BP.lt
    have p0 := BP.cell 0 (v := .string nm) rfl; have p1 := BP.cell 1 (v := .string zn) rfl; have p2 := BP.cell 2 (v := .slice pA 1 pc) rfl; have p3 := BP.cell 3 (v := .int .i64 v0) rfl; have p4 := BP.cell 4 (v := .int .i64 v1) rfl; have p5 := BP.cell 5 (v := .slice hA 1 hc) rfl; have p6 := BP.cell 6 (v := .int .i64 mo) rfl
    clear hbn hw8
    have HR := Lib.hid (HH.out.st bW)
    have b8 := Lib.hid (Below.refl w8.heap.size w8)
    go_wp2_with fail
    go_loopw [40] (fun i wr => ∃ k : Nat, k ≤ 1 ∧ i = .int .i64 k ∧ Below w8.heap.size w8 wr) (fun i _ => 1 - (RowKit.intOf i).toNat)
    case atStart => exact ⟨0, by omega, rfl, b8.out⟩
    case round =>
      obtain ⟨k, hk, rfl, hb9⟩ := hrel
      rcases (by omega : k = 0 ∨ k = 1) with rfl | rfl
      · obtain ⟨b, off, x, y, z, hA1, hb, hx, d0, d1, d2⟩ := (HR.out.st hb9).w3 (i := 0) (by simp)
        obtain rfl : _ = (x, y, z) := by simpa using hx
        subst hA1
        simp only [Nat.zero_mul, Nat.add_zero] at d0 d1 d2
        obtain ⟨Y5, hY5⟩ : ∃ Y, wr.alloc (.cells #[.int .i64 x, .int .i64 y, .int .i64 z] 42) = Y := ⟨_, rfl⟩
        have B5 : Blk Y5 wr.heap.size #[.int .i64 x, .int .i64 y, .int .i64 z] 42 := by rw [← hY5]; exact Blk.new _ _ _
        have hbn : Below wr.heap.size wr Y5 := by rw [← hY5]; exact (Below.refl _ _).al _
        have hb9 := hb9.st hbn
        have x0 := B5.cell 0 (v := .int .i64 x) rfl
        have x1 := B5.cell 1 (v := .int .i64 y) rfl
        have x2 := B5.cell 2 (v := .int .i64 z) rfl
        clear hbn hx p0 p1 p2 p3 p4 p5 p6
        go_wp2_with fail
        refine (CW.out _).mono ?_
        rintro e w10 ⟨rfl, hbn⟩
        have hb9 := hb9.st hbn
        clear hbn
        go_wp2_with fail
        go_roundw
        case rel => exact ⟨1, by omega, by go_num, hb9⟩
        case measure => simp [RowKit.intOf]
      · have bW := bW.st hb9
        have BP := BP.below hb9 BP.lt
        have p0 := BP.cell 0 (v := .string nm) rfl; have p1 := BP.cell 1 (v := .string zn) rfl; have p2 := BP.cell 2 (v := .slice pA 1 pc) rfl; have p3 := BP.cell 3 (v := .int .i64 v0) rfl; have p4 := BP.cell 4 (v := .int .i64 v1) rfl; have p5 := BP.cell 5 (v := .slice hA 1 hc) rfl; have p6 := BP.cell 6 (v := .int .i64 mo) rfl
        go_wp2_with fail
        go_ret
        exact ⟨rfl, bW⟩
end Go.Proofs.Ytbeoopofckbijaa
