/- Days of windows: clock.on, the reference's On; clock.In. -/
import Derived.Test.YtfilfdkbchkpmaaZoneLeaf
import Derived.IntWalk
namespace Go.Proofs.Ytfilfdkbchkpmaa
open Go.RowKit Go.Lib

theorem bit_and {y : Int} (h0 : 0 ≤ y) (h1 : y ≤ 127) : bits BinOp.and IntKind.i64 y 1 = y % 2 := by
  have key : ∀ n : Fin 128, bits BinOp.and IntKind.i64 (n.1 : Int) 1 = (n.1 : Int) % 2 := by decide +kernel
  have := key ⟨y.toNat, by omega⟩
  simp only at this
  rwa [show ((y.toNat : Nat) : Int) = y by omega] at this
theorem div_pow {y : Int} (h0 : 0 ≤ y) (k : Nat) : 0 ≤ y / 2 ^ k ∧ y / 2 ^ k ≤ y := by
  have hp : (0 : Int) < 2 ^ k := Int.pow_pos (by omega)
  exact ⟨Int.ediv_nonneg h0 (Int.le_of_lt hp), Int.ediv_le_self _ h0⟩
theorem div_pow_succ (y : Int) (k : Nat) : y / 2 ^ (k + 1) = y / 2 ^ k / 2 := by
  rw [Int.pow_succ, Int.ediv_ediv_of_nonneg (Int.le_of_lt (Int.pow_pos (by omega)))]
theorem on_any (x : Wn) (d : Int) (w : World) (hv : vw x = true) (hd : 0 ≤ d) :
    Calls Try.prog 64 #[.agg #[.int .i64 x.1, .int .i64 x.2.1, .int .i64 x.2.2], .int .i64 d] w fun e w' => e = .returned (.bool (onD x.1 d)) ∧ w.alloc (.cells #[.int .i64 x.1, .int .i64 x.2.1, .int .i64 x.2.2] 80) = w' := by
  have hw := (vw_iff x).1 hv
  have h1 := div_pow (y := x.1) (by omega) (d % 7).toNat
  go_enter Try.func64, Try.ntmps64
  go_wp2
  all_goals (go_ret; exact ⟨ret_bool (by rw [Bool.eq_iff_iff]; simp; rw [bit_and h1.1 (by omega)]; simp [onD]), rfl⟩)

theorem rOn_any (x : Wn) (d : Int) (w : World) (hv : vw x = true) (hd : 0 ≤ d) :
    Calls Try.prog 75 #[.agg #[.int .i64 x.1, .int .i64 x.2.1, .int .i64 x.2.2], .int .i64 d] w fun e w' => e = .returned (.bool (onD x.1 d)) ∧ Below w.heap.size w w' := by
  have hw := (vw_iff x).1 hv
  have hb : Below w.heap.size w (w.alloc (.cells #[.int .i64 x.1, .int .i64 x.2.1, .int .i64 x.2.2] 80)) := (Below.refl _ w).al _
  go_enter Try.func75, Try.ntmps75
  go_wp2
  go_loopw [5, 6] (fun v i wr => ∃ k : Nat, (k : Int) ≤ d % 7 ∧ i = .int .i64 k ∧ v = .int .i64 (x.1 / 2 ^ k) ∧ Below w.heap.size w wr) (fun _ i _ => 7 - (intOf i).toNat)
  case atStart => exact ⟨0, by omega, rfl, by simp, hb⟩
  case round =>
    obtain ⟨k, hk, rfl, rfl, hbr⟩ := hrel
    have h1 := div_pow (y := x.1) (by omega) k
    have h2 := div_pow_succ x.1 k
    by_cases hlt : (k : Int) < d % 7
    · have e : (x.1 / 2 ^ k).tdiv 2 = x.1 / 2 ^ (k + 1) := by rw [h2, Int.tdiv_eq_ediv_of_nonneg h1.1]
      go_wp2
      go_roundw
      case rel => exact ⟨k + 1, by omega, by go_num, by simp [h2], hbr⟩
      case measure => simp [intOf]; omega
    · have hk7 : k = (d % 7).toNat := by omega
      have e : (x.1 / 2 ^ k) % 2 = (x.1 / 2 ^ k).tmod 2 := by rw [Int.tmod_eq_emod_of_nonneg h1.1]
      have R := Lib.hid (show onD x.1 d = decide (x.1 / 2 ^ k % 2 = 1) by rw [hk7]; rfl)
      clear h2 hk7
      go_wp2
      go_ret
      rw [R.out]
      exact ⟨ret_bool (by rw [← e, Bool.eq_iff_iff]; simp), hbr⟩
end Go.Proofs.Ytfilfdkbchkpmaa
