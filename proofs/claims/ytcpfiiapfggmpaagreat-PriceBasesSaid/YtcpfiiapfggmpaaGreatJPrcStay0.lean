/- Joined texts: PrcStay0, PrcChk. -/
import Derived.Test.YtcpfiiapfggmpaaGreatJTarRBase
import Derived.Test.YtcpfiiapfggmpaaGreatZoneFind
import Derived.Test.YtcpfiiapfggmpaaGreatJSumAny
import Derived.Test.YtcpfiiapfggmpaaGreatJShelf
import Derived.IntWalk
/- price.Stay as the awake test meets it, walked. -/
set_option linter.unusedSimpArgs false
namespace Go.Proofs.YtcpfiiapfggmpaaGreat
open Go.RowKit Go.Lib

def z1 : Zn := ⟨⟨#[122]⟩, none, 0, [], none, 0, [], 0, 0, 0, 0⟩
theorem z1_find : findZ [z1] ⟨#[122]⟩ = some z1 := by kernel_rfl
theorem k_eq : (⟨#[112, 58]⟩ : ByteArray) ++ (⟨#[115]⟩ : ByteArray) = ⟨#[112, 58, 115]⟩ := by rfl
set_option maxRecDepth 100000 in
set_option maxHeartbeats 4000000 in
theorem pstay_one {zb : Nat} {tA : Option Addr} {tc zc_ : Nat} {w : World} (hr : Rd encZ 7 w w.heap.size (some ⟨zb, 0, none⟩) [z1]) :
    Calls Tryz.prog 14 #[.agg #[.slice none 0 0, .slice none 0 0, .slice none 0 0, .slice none 0 0, .slice none 0 0, .slice none 0 0, .int .i64 0, .int .i64 0, .slice tA 1 tc, .int .i64 0, .slice none 0 0, .slice none 0 0, .slice none 0 0, .slice none 0 0, .slice none 0 0, .slice (some ⟨zb, 0, none⟩) 1 zc_, .slice none 0 0, .slice none 0 0, .slice none 0 0, .slice none 0 0, .slice none 0 0, .slice none 0 0, .int .i64 0, .slice none 0 0, .string ⟨#[]⟩], .agg #[.string ⟨#[115]⟩, .string ⟨#[122]⟩, .string ⟨#[65, 66, 49, 50]⟩, .int .i64 5, .int .i64 9], .slice none 0 0] w fun e w' => e = .returned (.tuple #[.agg #[.string ⟨#[112, 58, 115]⟩, .string ⟨#[65, 66, 49, 50]⟩, .string ⟨#[122]⟩, .int .i64 0, .int .i64 9, .slice none 0 0, .int .i64 0], .int .i64 0]) ∧ Below w.heap.size w w' := by
  obtain ⟨Y1, hY1⟩ : ∃ Y, w.alloc (.cells #[.slice none 0 0, .slice none 0 0, .slice none 0 0, .slice none 0 0, .slice none 0 0, .slice none 0 0, .int .i64 0, .int .i64 0, .slice tA 1 tc, .int .i64 0, .slice none 0 0, .slice none 0 0, .slice none 0 0, .slice none 0 0, .slice none 0 0, .slice (some ⟨zb, 0, none⟩) 1 zc_, .slice none 0 0, .slice none 0 0, .slice none 0 0, .slice none 0 0, .slice none 0 0, .slice none 0 0, .int .i64 0, .slice none 0 0, .string ⟨#[]⟩] 46) = Y := ⟨_, rfl⟩
  obtain ⟨Y2, hY2⟩ : ∃ Y, Y1.alloc (.cells #[.string ⟨#[115]⟩, .string ⟨#[122]⟩, .string ⟨#[65, 66, 49, 50]⟩, .int .i64 5, .int .i64 9] 61) = Y := ⟨_, rfl⟩
  obtain ⟨Y3, hY3⟩ : ∃ Y, Y2.alloc (.cells #[.string ⟨#[]⟩, .string ⟨#[]⟩, .string ⟨#[]⟩, .int .i64 0, .int .i64 0, .slice none 0 0, .int .i64 0] 66) = Y := ⟨_, rfl⟩
  have b1 : Below w.heap.size w Y1 := by rw [← hY1]; exact (Below.refl _ w).al _
  have b2 : Below w.heap.size w Y2 := by rw [← hY2]; exact b1.al _
  have b3 : Below w.heap.size w Y3 := by rw [← hY3]; exact b2.al _
  have B1 : Blk Y3 w.heap.size #[.slice none 0 0, .slice none 0 0, .slice none 0 0, .slice none 0 0, .slice none 0 0, .slice none 0 0, .int .i64 0, .int .i64 0, .slice tA 1 tc, .int .i64 0, .slice none 0 0, .slice none 0 0, .slice none 0 0, .slice none 0 0, .slice none 0 0, .slice (some ⟨zb, 0, none⟩) 1 zc_, .slice none 0 0, .slice none 0 0, .slice none 0 0, .slice none 0 0, .slice none 0 0, .slice none 0 0, .int .i64 0, .slice none 0 0, .string ⟨#[]⟩] 46 := by rw [← hY3, ← hY2, ← hY1]; exact ((Blk.new w _ _).alloc _).alloc _
  have B2 : Blk Y3 Y1.heap.size #[.string ⟨#[115]⟩, .string ⟨#[122]⟩, .string ⟨#[65, 66, 49, 50]⟩, .int .i64 5, .int .i64 9] 61 := by rw [← hY3, ← hY2]; exact (Blk.new Y1 _ _).alloc _
  have B3 : Blk Y3 Y2.heap.size #[.string ⟨#[]⟩, .string ⟨#[]⟩, .string ⟨#[]⟩, .int .i64 0, .int .i64 0, .slice none 0 0, .int .i64 0] 66 := by rw [← hY3]; exact Blk.new Y2 _ _
  have c15 := B1.cell 15 (v := .slice (some ⟨zb, 0, none⟩) 1 zc_) rfl
  have q1 := B2.cell 1 (v := .string ⟨#[122]⟩) rfl
  have CF := Lib.hid (zfind_any (l := [z1]) zc_ (nm := ⟨#[122]⟩) (hr.st b3) (by intro z hz; rw [List.mem_singleton] at hz; subst hz; exact ⟨Rd.nil, Rd.nil⟩) (by intro z hz; rw [List.mem_singleton] at hz; subst hz; exact ⟨by simp [z1], by simp [z1]⟩) (by simp))
  have s1 : Y1.heap.size = w.heap.size + 1 := by rw [← hY1]; simp
  have s2 : Y2.heap.size = Y1.heap.size + 1 := by rw [← hY2]; simp
  have S3 : Hid (w.heap.size < Y2.heap.size) := Lib.hid (by omega)
  clear s1 s2
  clear hr b1 b2
  go_enter Tryz.func14, Tryz.ntmps14
  go_wp2_with fail
  refine CF.out.mono ?_
  rintro e W4 ⟨z, rfl, hz, -, hbn⟩
  rw [z1_find] at hz ⊢
  have b4 := b3.st hbn
  have B2 := B2.below hbn B2.lt
  have B3 := B3.below hbn B3.lt
  have hnm : z.name = ⟨#[122]⟩ := congrArg Prod.fst hz
  simp only [ZV, hnm]
  have q0 := B2.cell 0 (v := .string ⟨#[115]⟩) rfl
  have q2 := B2.cell 2 (v := .string ⟨#[65, 66, 49, 50]⟩) rfl
  have q4 := B2.cell 4 (v := .int .i64 9) rfl
  obtain ⟨W5, hW5⟩ : ∃ Y, W4.alloc (.cells #[.string ⟨#[122]⟩, .slice z.hA z.hs.length z.hc, .slice z.sA z.ss.length z.sc, .int .i64 z.grace, .int .i64 z.free, .int .i64 z.dayMax, .int .i64 z.maxStay] 76) = Y := ⟨_, rfl⟩
  have hb5 : Below W4.heap.size W4 W5 := by rw [← hW5]; exact (Below.refl _ _).al _
  have b5 := b4.st hb5
  have B2 := B2.below hb5 B2.lt
  have B3 := B3.below hb5 B3.lt
  have B5 : Blk W5 W4.heap.size #[.string ⟨#[122]⟩, .slice z.hA z.hs.length z.hc, .slice z.sA z.ss.length z.sc, .int .i64 z.grace, .int .i64 z.free, .int .i64 z.dayMax, .int .i64 z.maxStay] 76 := by rw [← hW5]; exact Blk.new W4 _ _
  have q0 := B2.cell 0 (v := .string ⟨#[115]⟩) rfl
  have q2 := B2.cell 2 (v := .string ⟨#[65, 66, 49, 50]⟩) rfl
  have q4 := B2.cell 4 (v := .int .i64 9) rfl
  have z0 := B5.cell 0 (v := .string ⟨#[122]⟩) rfl
  clear hY1 hY2 hY3
  go_wp2
  obtain ⟨W6, hW6⟩ : ∃ Y, W5.alloc (.cells #[.string ((⟨#[112, 58]⟩ : ByteArray) ++ (⟨#[115]⟩ : ByteArray)), .string ⟨#[65, 66, 49, 50]⟩, .string ⟨#[122]⟩, .int .i64 0, .int .i64 9, .slice none 0 0, .int .i64 0] 66) = Y := ⟨_, rfl⟩
  rw [hW6]
  have hb6 : Below W5.heap.size W5 W6 := by rw [← hW6]; exact (Below.refl _ _).al _
  have b6 := b5.st hb6
  have B3 := B3.below hb6 B3.lt
  have B6 : Blk W6 W5.heap.size #[.string ((⟨#[112, 58]⟩ : ByteArray) ++ (⟨#[115]⟩ : ByteArray)), .string ⟨#[65, 66, 49, 50]⟩, .string ⟨#[122]⟩, .int .i64 0, .int .i64 9, .slice none 0 0, .int .i64 0] 66 := by rw [← hW6]; exact Blk.new W5 _ _
  clear hbn CF B1 c15 q1 hz hnm
  refine wp_loop_rounds 1 ?_
  rw [rounds_succ]
  go_wp2_with (first | (refine wpList_boxLoad rfl (ty := 66) (x := .tmp 10) (cs := #[.string ((⟨#[112, 58]⟩ : ByteArray) ++ (⟨#[115]⟩ : ByteArray)), .string ⟨#[65, 66, 49, 50]⟩, .string ⟨#[122]⟩, .int .i64 0, .int .i64 9, .slice none 0 0, .int .i64 0]) rfl B6 rfl ⟨_, Tryz.underlying66, by kernel_rfl⟩ ?_) | (refine wpList_boxStore rfl (ty := 66) (x := .tmp 6) (y := .tmp 77) (cells := #[.string ((⟨#[112, 58]⟩ : ByteArray) ++ (⟨#[115]⟩ : ByteArray)), .string ⟨#[65, 66, 49, 50]⟩, .string ⟨#[122]⟩, .int .i64 0, .int .i64 9, .slice none 0 0, .int .i64 0]) rfl B3 rfl rfl (by kernel_rfl) rfl (by kernel_rfl) ?_; intro w7 B7 hoz hbz))
  (try simp only [Exit.inBlock, Exit.then])
  refine bodyPost_ret (v := .tuple #[.agg #[.string ((⟨#[112, 58]⟩ : ByteArray) ++ (⟨#[115]⟩ : ByteArray)), .string ⟨#[65, 66, 49, 50]⟩, .string ⟨#[122]⟩, .int .i64 0, .int .i64 9, .slice none 0 0, .int .i64 0], .int .i64 0]) ?_ rfl ⟨by rw [k_eq], hbz _ _ (by have := S3.out; omega) b6⟩
  exact results_box_tmp Tryz.results14 _ (.int .i64 0) rfl rfl B7 ⟨_, Tryz.underlying66, by kernel_rfl⟩
end Go.Proofs.YtcpfiiapfggmpaaGreat
/- price.sum, price.Check, the reference's lines and Check, walked. -/
set_option linter.unusedSimpArgs false
namespace Go.Proofs.YtcpfiiapfggmpaaGreat
open Go.RowKit Go.Lib

set_option maxRecDepth 100000 in
set_option maxHeartbeats 4000000 in
theorem psum_any {A : Option Addr} (c : Nat) {l : List Ln} {w : World} (h : Rd encLn 2 w w.heap.size A l) (hl : l.length ≤ 1000) (hm : Mst l) :
    Calls Tryz.prog 50 #[.slice A l.length c] w fun e w' => e = .returned (.int .i64 (sumL l)) ∧ Below w.heap.size w w' := by
  have H := Lib.hid h
  have HM := Lib.hid hm
  clear h hm
  have hlb : (l.length : Int) ≤ 1000 := by omega
  go_enter Tryz.func50, Tryz.ntmps50
  go_wp2_with fail
  go_loopw [3, 8] (fun s i wr => ∃ k : Nat, k ≤ l.length ∧ i = .int .i64 k ∧ s = .int .i64 (sumL (l.take k)) ∧ Below w.heap.size w wr) (fun _ i _ => l.length - (RowKit.intOf i).toNat)
  case atStart => exact ⟨0, Nat.zero_le _, rfl, rfl, Below.refl _ _⟩
  case round =>
    obtain ⟨k, hk, rfl, rfl, hwr⟩ := hrel
    by_cases hi : k < l.length
    · obtain ⟨b, off, s, n, rfl, hb, hx, d0, d1⟩ := (H.out.st hwr).ln hi
      have hs := sumL_snoc hx
      have hbk := sumL_bnd (HM.out.take k)
      have hbn := fitsB_bnd (HM.out _ (List.mem_of_getElem? hx))
      simp only at hs hbn
      rw [List.length_take, Nat.min_eq_left (Nat.le_of_lt hi)] at hbk
      have HK := Lib.hid hi
      have HS := Lib.hid hs
      have hws : IntKind.i64.wrap (sumL (l.take k) + n) = sumL (l.take k) + n := IntWalk.i64_in _ (by omega)
      clear hs hbk hbn hx hi hb
      obtain ⟨Y5, hY5⟩ : ∃ Y, wr.alloc (.cells #[.string s, .int .i64 n] 123) = Y := ⟨_, rfl⟩
      have BS : Blk Y5 wr.heap.size #[.string s, .int .i64 n] 123 := by rw [← hY5]; exact Blk.new _ _ _
      have hbn : Below wr.heap.size wr Y5 := by rw [← hY5]; exact (Below.refl _ _).al _
      have hw5 := hwr.st hbn
      have s1 := BS.cell 1 (v := .int .i64 n) rfl
      generalize sumL (l.take k) = sk at *
      clear hbn hwr
      go_wp2_with fail
      go_roundw
      case rel => exact ⟨k + 1, HK.out, by go_num, by rw [HS.out], hw5⟩
      case measure => have := HK.out; simp [RowKit.intOf]; omega
    · obtain rfl : k = l.length := by omega
      rw [List.take_length]
      go_wp2_with fail
      go_ret
      exact ⟨rfl, hwr⟩

set_option maxRecDepth 100000 in
set_option maxHeartbeats 4000000 in
theorem rlines_any {A : Option Addr} (c : Nat) {l : List Ln} {w : World} (h : Rd encLn 2 w w.heap.size A l) (hl : l.length ≤ 1000) (hm : Mst l) :
    Calls Tryz.prog 43 #[.slice A l.length c] w fun e w' => e = .returned (.tuple #[.int .i64 (if fitsB (sumL l) = true then sumL l else 0), .int .i64 (if fitsB (sumL l) = true then 0 else 13)]) ∧ w' = w := by
  cases hq : fitsB (sumL l)
  case' false => rw [if_neg (by simp), if_neg (by simp)]
  case' true => rw [if_pos rfl, if_pos rfl]
  all_goals
    have HQ := Lib.hid hq
    clear hq
    have H := Lib.hid h
    have HM := Lib.hid hm
    have HF := Lib.hid (fun (n : Int) (X : World) => r3fits_any n X)
    clear h hm
    have hlb : (l.length : Int) ≤ 1000 := by omega
    go_enter Tryz.func43, Tryz.ntmps43
    go_wp2_with fail
    go_loopw [4, 5] (fun s i wr => ∃ k : Nat, k ≤ l.length ∧ i = .int .i64 k ∧ s = .int .i64 (sumL (l.take k)) ∧ wr = w) (fun _ i _ => l.length - (RowKit.intOf i).toNat)
    case atStart => exact ⟨0, Nat.zero_le _, rfl, rfl, rfl⟩
    case round =>
      obtain ⟨k, hk, rfl, rfl, hw⟩ := hrel
      have hw := hw.symm
      subst hw
      have k1 : (0 : Int) ≤ (k : Int) := by omega
      by_cases hi : k < l.length
      · have k2 : (k : Int) < (l.length : Int) := by omega
        obtain ⟨b, off, s, n, rfl, hb, hx, d0, d1⟩ := H.out.ln hi
        have hs := sumL_snoc hx
        have hbk := sumL_bnd (HM.out.take k)
        have hfn := HM.out _ (List.mem_of_getElem? hx)
        have hbn := fitsB_bnd hfn
        simp only at hs hbn hfn
        rw [List.length_take, Nat.min_eq_left (Nat.le_of_lt hi)] at hbk
        have HK := Lib.hid hi
        have HS := Lib.hid hs
        have hws : IntKind.i64.wrap (sumL (l.take k) + n) = sumL (l.take k) + n := IntWalk.i64_in _ (by omega)
        have HFn := Lib.hid (HF.out n)
        rw [hfn] at HFn
        clear hs hbk hbn hx hi hb hfn
        generalize sumL (l.take k) = sk at *
        go_wp2_with fail
        refine (HFn.out _).mono ?_
        rintro e w2 ⟨rfl, hw2⟩
        rw [hw2]
        clear hw2 w2
        go_wp2_with fail
        go_roundw
        case rel => exact ⟨k + 1, HK.out, by go_num, by rw [HS.out], by first | rfl | trivial⟩
        case measure => have := HK.out; simp [RowKit.intOf]; omega
      · obtain rfl : k = l.length := by omega
        rw [List.take_length]
        have HFn := Lib.hid (HF.out (sumL l))
        rw [HQ.out] at HFn
        go_wp2_with fail
        refine (HFn.out _).mono ?_
        rintro e w2 ⟨rfl, hw2⟩
        rw [hw2]
        clear hw2 w2
        go_wp2_with fail
        go_ret2
        exact ⟨rfl, rfl⟩
end Go.Proofs.YtcpfiiapfggmpaaGreat
