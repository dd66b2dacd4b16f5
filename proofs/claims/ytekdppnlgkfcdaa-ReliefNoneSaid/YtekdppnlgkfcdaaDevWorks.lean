/- Works of the program, walked. -/
import Derived.Test.YtekdppnlgkfcdaaDevEnc
import Derived.Test.YtekdppnlgkfcdaaJHas
import Derived.Deep.RegionHeld3
namespace Go.Proofs.Ytekdppnlgkfcdaa
open Go.RowKit Go.Lib

set_option maxHeartbeats 4000000 in
theorem dworks_any (d : Dv) (t : Int) {w : World} (h : DOk w d) (hl : d.ds.length ≤ 100000000000) :
    Calls Try.prog 26 #[DV d, .int .i64 t] w fun e w' => e = .returned (.bool (worksB d t)) ∧ Below w.heap.size w w' := by
  have CH := Lib.hid (fun (X : World) (hX : Below w.heap.size w X) => has_any d.dc t (h.2.st hX) hl)
  have CT := Lib.hid (fun w => time_any t w)
  unfold worksB
  clear h
  obtain ⟨nm, pt, kd, ln, oA, oc, os, dA, dc, ds⟩ := d
  simp only [DV] at *
  cases ht : tB t
  · rw [ht] at CT
    obtain ⟨Y1, hY1⟩ : ∃ Y, w.alloc (.cells #[.string nm, .string pt, .int .i64 kd, .int .i64 ln, .slice oA os.length oc, .slice dA ds.length dc] 79) = Y := ⟨_, rfl⟩; have bW : Below w.heap.size w Y1 := (by rw [← hY1]; exact (Below.refl _ w).al _); have bZ : Blk Y1 w.heap.size #[.string nm, .string pt, .int .i64 kd, .int .i64 ln, .slice oA os.length oc, .slice dA ds.length dc] 79 := (by rw [← hY1]; exact Blk.new w _ _); have q0 : World.cell? Y1 ⟨w.heap.size, 0, none⟩ = some (.string nm) := bZ.cell 0 rfl; have q1 : World.cell? Y1 ⟨w.heap.size, 1, none⟩ = some (.string pt) := bZ.cell 1 rfl; have q2 : World.cell? Y1 ⟨w.heap.size, 2, none⟩ = some (.int .i64 kd) := bZ.cell 2 rfl; have q3 : World.cell? Y1 ⟨w.heap.size, 3, none⟩ = some (.int .i64 ln) := bZ.cell 3 rfl; have q4 : World.cell? Y1 ⟨w.heap.size, 4, none⟩ = some (.slice oA os.length oc) := bZ.cell 4 rfl; have q5 : World.cell? Y1 ⟨w.heap.size, 5, none⟩ = some (.slice dA ds.length dc) := bZ.cell 5 rfl
    go_enter Try.func26, Try.ntmps26
    go_wp2_with fail
    refine (CT.out _).mono ?_
    rintro e w' ⟨rfl, rfl⟩
    go_wp2
    all_goals (go_ret; exact ⟨rfl, bW⟩)
  · rw [ht] at CT
    generalize hasB ds t = hb at *
    obtain ⟨Y1, hY1⟩ : ∃ Y, w.alloc (.cells #[.string nm, .string pt, .int .i64 kd, .int .i64 ln, .slice oA os.length oc, .slice dA ds.length dc] 79) = Y := ⟨_, rfl⟩; have bW : Below w.heap.size w Y1 := (by rw [← hY1]; exact (Below.refl _ w).al _); have bZ : Blk Y1 w.heap.size #[.string nm, .string pt, .int .i64 kd, .int .i64 ln, .slice oA os.length oc, .slice dA ds.length dc] 79 := (by rw [← hY1]; exact Blk.new w _ _); have q0 : World.cell? Y1 ⟨w.heap.size, 0, none⟩ = some (.string nm) := bZ.cell 0 rfl; have q1 : World.cell? Y1 ⟨w.heap.size, 1, none⟩ = some (.string pt) := bZ.cell 1 rfl; have q2 : World.cell? Y1 ⟨w.heap.size, 2, none⟩ = some (.int .i64 kd) := bZ.cell 2 rfl; have q3 : World.cell? Y1 ⟨w.heap.size, 3, none⟩ = some (.int .i64 ln) := bZ.cell 3 rfl; have q4 : World.cell? Y1 ⟨w.heap.size, 4, none⟩ = some (.slice oA os.length oc) := bZ.cell 4 rfl; have q5 : World.cell? Y1 ⟨w.heap.size, 5, none⟩ = some (.slice dA ds.length dc) := bZ.cell 5 rfl
    go_enter Try.func26, Try.ntmps26
    go_wp2_with fail
    refine (CT.out _).mono ?_
    rintro e w' ⟨rfl, rfl⟩
    go_wp2_with fail
    refine (CH.out _ bW).mono ?_
    rintro e wn ⟨rfl, hbn⟩
    have bW := bW.st hbn
    go_wp2
    all_goals (go_ret; exact ⟨by first | rfl | simp, bW⟩)
end Go.Proofs.Ytekdppnlgkfcdaa
