/- account.clone, walked. -/
import Derived.Test.YtfdnciijibiodaaAccEnc
import Derived.Test.YtfdnciijibiodaaMake
import Derived.Test.YtfdnciijibiodaaBox
namespace Go.Proofs.Ytfdnciijibiodaa
open Go.RowKit Go.Lib

theorem vals_eta (v : Av) : (⟨v.name, v.ag, v.pre, v.os, v.r0, v.r1, v.r2, v.r3, v.ex⟩ : Av) = v := rfl

set_option maxRecDepth 100000 in
set_option maxHeartbeats 8000000 in
theorem clone_any (a : Ac) {w : World} (h : AOk w a) (hl : a.v.os.length ≤ 1000) :
    Calls Try.prog 30 #[AcV a] w fun e w' => ∃ g, e = .returned (AcV ⟨a.v, some ⟨g, 0, none⟩, a.v.os.length⟩) ∧ Own 43 encOw 4 w' (w.heap.size + 2) (some ⟨g, 0, none⟩) a.v.os.length a.v.os ∧ Below w.heap.size w w' := by
  obtain ⟨⟨nm, ag, pre, os, r0, r1, r2, r3, ex⟩, oA, oc⟩ := a
  have H := Lib.hid h.1
  clear h
  simp only [AcV] at *
  obtain ⟨Y1, hY1⟩ : ∃ Y, w.alloc (.cells #[.string nm, .string ag, .bool pre, .slice oA os.length oc, .int .i64 r0, .int .i64 r1, .int .i64 r2, .int .i64 r3, .bool ex] 39) = Y := ⟨_, rfl⟩
  obtain ⟨Y2, hY2⟩ : ∃ Y, Y1.alloc (.cells #[.string ⟨#[]⟩, .string ⟨#[]⟩, .bool false, .slice none 0 0, .int .i64 0, .int .i64 0, .int .i64 0, .int .i64 0, .bool false] 39) = Y := ⟨_, rfl⟩
  have sY1 : Y1.heap.size = w.heap.size + 1 := by rw [← hY1]; simp
  have sY2 : Y2.heap.size = w.heap.size + 1 + 1 := by rw [← hY2, ← sY1]; simp
  have bW : Below w.heap.size w Y2 := by rw [← hY2, ← hY1]; exact ((Below.refl _ w).al _).al _
  have BA : Blk Y2 w.heap.size #[.string nm, .string ag, .bool pre, .slice oA os.length oc, .int .i64 r0, .int .i64 r1, .int .i64 r2, .int .i64 r3, .bool ex] 39 := by rw [← hY2, ← hY1]; exact (Blk.new w _ _).alloc _
  have BZ : Blk Y2 (w.heap.size + 1) #[.string ⟨#[]⟩, .string ⟨#[]⟩, .bool false, .slice none 0 0, .int .i64 0, .int .i64 0, .int .i64 0, .int .i64 0, .bool false] 39 := by rw [← hY2, ← sY1]; exact Blk.new Y1 _ _
  have a3 := BA.cell 3 (v := .slice oA os.length oc) rfl
  have hb0 : w.heap.size + 1 + 1 ≤ Y2.heap.size := by omega
  go_enter Try.func30, Try.ntmps30
  go_wp2_with (first | (refine wpList_make rfl (.tmp 6) (.tmp 6) tyOw encOw_ok rfl (w.heap.size + 1 + 1) zeroOw (by kernel_rfl) .i64 .i64 os.length rfl rfl (by omega) (by omega) hb0 ?_; intro w3 hown hb3 hs3; rw [sY2] at hown hb3; have bW3 := bW.st (hb3.mono (by omega)); have BA := BA.below hb3 (by omega); have BZ := BZ.below hb3 (by omega); have a3 := BA.cell 3 (v := .slice oA os.length oc) rfl; have RD := Lib.hid (H.out.st bW3)) | (refine wpList_copyAll rfl (.tmp 8) (.tmp 10) tyOw encOw_ok rfl rfl List.length_replicate.symm hown rfl rfl RD.out List.length_replicate.symm ?_; intro w4 hown4 hbz hoz hs4; have bW4 := hbz _ _ (by omega) bW3; have BA := BA.oth hoz (by omega); have BZ := BZ.oth hoz (by omega); have f3 := BA.frozen 3; have a3 := BA.cell 3 (v := .slice oA os.length oc) rfl; have BA5 := BA.set 3 (.slice (some ⟨w.heap.size + 1 + 1, 0, none⟩) os.length os.length); have BZ5 := BZ.other (p := ⟨w.heap.size, 3, none⟩) (by show w.heap.size + 1 ≠ w.heap.size; omega) (.slice (some ⟨w.heap.size + 1 + 1, 0, none⟩) os.length os.length); have bW5 := bW4.setCell (p := ⟨w.heap.size, 3, none⟩) (Nat.le_refl _) (.slice (some ⟨w.heap.size + 1 + 1, 0, none⟩) os.length os.length); have hown5 := hown4.other (p := ⟨w.heap.size, 3, none⟩) (by show w.heap.size < w.heap.size + 1 + 1; omega) (.slice (some ⟨w.heap.size + 1 + 1, 0, none⟩) os.length os.length)) | (refine wpList_boxLoad rfl (ty := 39) (x := .tmp 1) (cs := #[.string nm, .string ag, .bool pre, .slice (some ⟨w.heap.size + 1 + 1, 0, none⟩) os.length os.length, .int .i64 r0, .int .i64 r1, .int .i64 r2, .int .i64 r3, .bool ex]) rfl BA5 rfl ⟨_, Try.underlying39, by kernel_rfl⟩ ?_) | (refine wpList_boxStore rfl (ty := 39) (x := .tmp 2) (y := .tmp 14) (cells := #[.string nm, .string ag, .bool pre, .slice (some ⟨w.heap.size + 1 + 1, 0, none⟩) os.length os.length, .int .i64 r0, .int .i64 r1, .int .i64 r2, .int .i64 r3, .bool ex]) rfl BZ5 rfl rfl (by kernel_rfl) rfl (by kernel_rfl) ?_; intro w6 BZ6 hoz6 hbz6))
  refine bodyPost_ret (v := .agg #[.string nm, .string ag, .bool pre, .slice (some ⟨w.heap.size + 1 + 1, 0, none⟩) os.length os.length, .int .i64 r0, .int .i64 r1, .int .i64 r2, .int .i64 r3, .bool ex]) ?_ rfl ⟨w.heap.size + 1 + 1, rfl, hown5.same (fun g hg => hoz6 g (by omega)), hbz6 _ _ (by omega) bW5⟩
  exact results_box Try.results30 _ rfl BZ6 ⟨_, Try.underlying39, by kernel_rfl⟩
end Go.Proofs.Ytfdnciijibiodaa
