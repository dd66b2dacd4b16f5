/- The laws SpanNormals, SpanJoins, SpanAsks of chapter 05, walked. -/
import Derived.Test.YtkipbmcahkacmaaSpanAlive
namespace Go.Proofs.Ytkipbmcahkacmaa
open Go.RowKit Go.Lib

theorem NFr.same {S : Int → Prop} {n m : List Iv} (hn : NF n) (hm : NF m) (h1 : ∀ t, Mem n t ↔ S t) (h2 : ∀ t, Mem m t ↔ S t) : n = m := hn.unique hm fun t => (h1 t).trans (h2 t).symm

set_option maxHeartbeats 2000000 in
theorem spanNormals_walk {A : Option Addr} (c : Nat) {l : List Iv} {w : World} (h : Rd encIv 2 w w.heap.size A l) (hbig : l.length ≤ 9223372036854775807) :
    Calls Try.prog 3 #[.slice A l.length c] w fun e w' => e = .returned (.bool true) ∧ Below w.heap.size w w' := by
  by_cases hl : l.length ≤ 60
  · go_enter Try.func3, Try.ntmps3
    go_wp2_with fail
    go_loopw [3] (fun i wr => ∃ k : Nat, k ≤ l.length ∧ i = .int .i64 k ∧ Below w.heap.size w wr) (fun i _ => l.length - (intOf i).toNat)
    case atStart => exact ⟨0, Nat.zero_le _, rfl, Below.refl _ _⟩
    case round =>
      obtain ⟨k, hk, rfl, hbr⟩ := hrel
      by_cases hlt : k < l.length
      · obtain ⟨g, off, f, u, rfl, hg, hx, hc0, hc1⟩ := (h.keep hbr).iv hlt
        clear h hx
        have hk1 : (0 : Int) ≤ (k : Int) := by omega
        have hk2 : (k : Int) < (l.length : Int) := by omega
        have n0 := World.new_ne wr _ hc0
        have n1 := World.new_ne wr _ hc1
        have hg2 : g < wr.heap.size := Nat.lt_of_lt_of_le hg hbr.size
        have hb2 := ((hbr.al (.cells #[.int .i64 f, .int .i64 u] 25)).al (.cells #[.int .i64 f, .int .i64 u] 25))
        have hq : (validB f u != validB f u) = false := by simp
        generalize validB f u = vv at hq
        go_wp2_with fail
        go_region_held3 (fun w' => w'.cell? ⟨g, off + k * 2, none⟩ = some (.int .i64 f) ∧ w'.cell? ⟨g, off + k * 2 + 1, none⟩ = some (.int .i64 u)) (go_keep) (first | (go_at_call 10; (with_reducible refine (valid_any _ _ _).mono ?_); rintro e w' ⟨rfl, rfl⟩) | (go_at_call 11; (with_reducible refine (rvalid_any _ _ _).mono ?_); rintro e w' ⟨rfl, rfl⟩))
        all_goals go_wp2
        go_roundw
        case rel => exact ⟨k + 1, by omega, by go_num, hb2.drew⟩
        case measure => simp [intOf]; omega
      · have b0 := hbr
        have r0 := h.st hbr
        clear h hbr
        go_wp2_with fail
        refine (normal_any c r0 (by omega)).mono ?_
        rintro e w1 ⟨A1, c1, n, rfl, hn, hm, ho1, hb1⟩
        have b1 := Below.st b0 hb1
        replace r0 := r0.st hb1
        go_wp2_with fail
        refine (rnormal_any c r0 (by omega)).mono ?_
        rintro e w2 ⟨A2, c2, n2, rfl, hn2, hm2, ho2, hb2⟩
        obtain rfl : n = n2 := NFr.same hn hn2 hm hm2
        have b2 := Below.st b1 hb2
        have r1 := (ho1.rd encIv_ok).st hb2
        have r2 := ho2.rd encIv_ok
        have hl1 := hn.length_max
        clear hm hm2 hn hn2 ho1 ho2 b0 b1 hb1 hb2 r0
        go_wp2_with fail
        refine (same_true c1 c2 r1 r2 (by omega) rfl).mono ?_
        rintro e w3 ⟨rfl, hb3⟩
        have b3 := Below.st b2 hb3
        go_wp2_with fail
        refine (alive_any w3).mono ?_
        rintro e w4 ⟨rfl, hb4⟩
        have b4 := Below.st b3 hb4
        go_wp2_with fail
        go_ret
        exact ⟨rfl, b4⟩
  · clear h
    go_enter Try.func3, Try.ntmps3
    go_wp2
    go_ret
    exact ⟨rfl, Below.refl _ _⟩

set_option maxHeartbeats 2000000 in
theorem spanJoins_walk {A B : Option Addr} (c d : Nat) {a b : List Iv} {w : World} (ha : Rd encIv 2 w w.heap.size A a) (hb : Rd encIv 2 w w.heap.size B b) (hbiga : a.length ≤ 9223372036854775807) (hbigb : b.length ≤ 9223372036854775807) :
    Calls Try.prog 4 #[.slice A a.length c, .slice B b.length d] w fun e w' => e = .returned (.bool true) ∧ Below w.heap.size w w' := by
  by_cases hla : a.length ≤ 60
  · by_cases hlb : b.length ≤ 60
    · go_enter Try.func4, Try.ntmps4
      go_wp2_with fail
      refine (union_any c d ha hb (by omega) (by omega)).mono ?_
      rintro e w1 ⟨A1, c1, n, rfl, hn, hm, ho1, hb1⟩
      replace ha := ha.st hb1
      replace hb := hb.st hb1
      go_wp2_with fail
      refine (runion_any c d ha hb (by omega) (by omega)).mono ?_
      rintro e w2 ⟨A2, c2, n2, rfl, hn2, hm2, ho2, hb2⟩
      obtain rfl : n = n2 := NFr.same hn hn2 hm hm2
      have b2 := Below.st hb1 hb2
      replace ha := ha.st hb2
      replace hb := hb.st hb2
      have r1 := (ho1.rd encIv_ok).st hb2
      have r2 := ho2.rd encIv_ok
      have hl1 := hn.length_max
      clear hm hm2 hn hn2 ho1 ho2 hb1 hb2
      go_wp2_with fail
      refine (same_true c1 c2 r1 r2 (by omega) rfl).mono ?_
      rintro e w3 ⟨rfl, hb3⟩
      have b3 := Below.st b2 hb3
      replace ha := ha.st hb3
      replace hb := hb.st hb3
      clear r1 r2 hl1 hb3 b2
      go_wp2_with fail
      refine (meet_any c d ha hb (by omega) (by omega)).mono ?_
      rintro e w4 ⟨A4, c4, n4, rfl, hn, hm, ho1, hb1⟩
      replace ha := ha.st hb1
      replace hb := hb.st hb1
      go_wp2_with fail
      refine (rmeet_any c d ha hb (by omega) (by omega)).mono ?_
      rintro e w5 ⟨A5, c5, n5, rfl, hn2, hm2, ho2, hb2⟩
      obtain rfl : n4 = n5 := NFr.same hn hn2 hm hm2
      have b5 := Below.st (Below.st b3 hb1) hb2
      replace ha := ha.st hb2
      replace hb := hb.st hb2
      have r1 := (ho1.rd encIv_ok).st hb2
      have r2 := ho2.rd encIv_ok
      have hl1 := hn.length_max
      clear hm hm2 hn hn2 ho1 ho2 hb1 hb2
      go_wp2_with fail
      refine (same_true c4 c5 r1 r2 (by omega) rfl).mono ?_
      rintro e w6 ⟨rfl, hb3⟩
      have b6 := Below.st b5 hb3
      replace ha := ha.st hb3
      replace hb := hb.st hb3
      clear r1 r2 hl1 hb3 b5
      go_wp2_with fail
      refine (minus_any c d ha hb (by omega) (by omega)).mono ?_
      rintro e w7 ⟨A7, c7, n7, rfl, hn, hm, ho1, hb1⟩
      replace ha := ha.st hb1
      replace hb := hb.st hb1
      go_wp2_with fail
      refine (rminus_any c d ha hb (by omega) (by omega)).mono ?_
      rintro e w8 ⟨A8, c8, n8, rfl, hn2, hm2, ho2, hb2⟩
      obtain rfl : n7 = n8 := NFr.same hn hn2 hm hm2
      have b8 := Below.st (Below.st b6 hb1) hb2
      have r1 := (ho1.rd encIv_ok).st hb2
      have r2 := ho2.rd encIv_ok
      have hl1 := hn.length_max
      clear hm hm2 hn hn2 ho1 ho2 hb1 hb2 ha hb
      go_wp2_with fail
      refine (same_true c7 c8 r1 r2 (by omega) rfl).mono ?_
      rintro e w9 ⟨rfl, hb3⟩
      have b9 := Below.st b8 hb3
      clear r1 r2 hb3 b8
      go_wp2_with fail
      refine (alive_any w9).mono ?_
      rintro e w10 ⟨rfl, hb4⟩
      have b10 := Below.st b9 hb4
      go_wp2_with fail
      go_ret
      exact ⟨rfl, b10⟩
    · clear ha hb
      go_enter Try.func4, Try.ntmps4
      go_wp2
      go_ret
      exact ⟨rfl, Below.refl _ _⟩
  · clear ha hb
    go_enter Try.func4, Try.ntmps4
    go_wp2
    go_ret
    exact ⟨rfl, Below.refl _ _⟩

/-- the length of the set of a list, whether an interval is covered: as functions -/
def lenF (l : List Iv) : Int := len (combL l [] 1)
open Classical in
noncomputable def covF (l : List Iv) (i : Iv) : Bool := decide (vld i ∧ ∀ t, i.1 ≤ t → t < i.2 → Mem l t)
theorem lenF_of {n l : List Iv} (hn : NF n) (h : ∀ t, Mem n t ↔ Mem l t) : len n = lenF l := by
  unfold lenF
  have hc := combL_holds l [] 1
  rw [hn.unique hc.1 fun t => by rw [h, hc.2]; simp [In, Mem.nil]]
theorem length_fn {A : Option Addr} (c : Nat) {l : List Iv} {w : World} (h : Rd encIv 2 w w.heap.size A l) (hl : l.length ≤ 100000000000) :
    Calls Try.prog 22 #[.slice A l.length c] w fun e w' => e = .returned (.int .i64 (lenF l)) ∧ Below w.heap.size w w' := by
  refine (length_any c h (by omega)).mono ?_
  rintro e w' ⟨n, rfl, hn, hm, hb⟩
  exact ⟨by rw [lenF_of hn hm], hb⟩
theorem rlength_fn {A : Option Addr} (c : Nat) {l : List Iv} {w : World} (h : Rd encIv 2 w w.heap.size A l) (hl : l.length ≤ 10000000000) :
    Calls Try.prog 23 #[.slice A l.length c] w fun e w' => e = .returned (.int .i64 (lenF l)) ∧ Below w.heap.size w w' := by
  refine (rlength_any c h hl).mono ?_
  rintro e w' ⟨n, rfl, hn, hm, hb⟩
  exact ⟨by rw [lenF_of hn hm], hb⟩
theorem covers_fn {A : Option Addr} (c : Nat) {l : List Iv} (f u : Int) {w : World} (h : Rd encIv 2 w w.heap.size A l) (hl : l.length ≤ 10000000000) :
    Calls Try.prog 26 #[.slice A l.length c, .agg #[.int .i64 f, .int .i64 u]] w fun e w' => e = .returned (.bool (covF l (f, u))) ∧ Below w.heap.size w w' := by
  refine (covers_any c (f, u) h (by omega)).mono ?_
  rintro e w' ⟨b, rfl, hb, hbel⟩
  exact ⟨ret_bool (by rw [Bool.eq_iff_iff, hb]; unfold covF; simp), hbel⟩
theorem rcovers_fn {A : Option Addr} (c : Nat) {l : List Iv} (f u : Int) {w : World} (h : Rd encIv 2 w w.heap.size A l) (hl : l.length ≤ 10000000000) :
    Calls Try.prog 27 #[.slice A l.length c, .agg #[.int .i64 f, .int .i64 u]] w fun e w' => e = .returned (.bool (covF l (f, u))) ∧ Below w.heap.size w w' := by
  refine (rcovers_any c (f, u) h hl).mono ?_
  rintro e w' ⟨b, rfl, hb, hbel⟩
  exact ⟨ret_bool (by rw [Bool.eq_iff_iff, hb]; unfold covF; simp), hbel⟩

set_option maxHeartbeats 2000000 in
theorem spanAsks_walk {A : Option Addr} (c : Nat) {l : List Iv} (t : Int) (i : Iv) {w : World} (h : Rd encIv 2 w w.heap.size A l) (hbig : l.length ≤ 9223372036854775807) :
    Calls Try.prog 5 #[.slice A l.length c, .int .i64 t, .agg #[.int .i64 i.1, .int .i64 i.2]] w fun e w' => e = .returned (.bool true) ∧ Below w.heap.size w w' := by
  obtain ⟨f, u⟩ := i
  simp only
  have b0 : Below w.heap.size w (w.alloc (.cells #[.int .i64 f, .int .i64 u] 25)).drew := ((Below.refl w.heap.size w).al (.cells #[.int .i64 f, .int .i64 u] 25)).drew
  have b1 := (Below.refl w.heap.size w).al (.cells #[.int .i64 f, .int .i64 u] 25)
  by_cases hl : l.length ≤ 60
  · have r0 := h.st b0
    have z0 : w.heap.size < (w.alloc (.cells #[.int .i64 f, .int .i64 u] 25)).drew.heap.size := by simp
    have q0a : (w.alloc (.cells #[.int .i64 f, .int .i64 u] 25)).drew.cell? ⟨w.heap.size, 0, none⟩ = some (.int .i64 f) := by simp
    have q0b : (w.alloc (.cells #[.int .i64 f, .int .i64 u] 25)).drew.cell? ⟨w.heap.size, 1, none⟩ = some (.int .i64 u) := by simp
    have t1 : ((lenF l : Int) == lenF l) = true := by simp
    have t2 : (hasB l t == hasB l t) = true := by simp
    have t3 : (covF l (f, u) == covF l (f, u)) = true := by simp
    clear h b1
    go_enter Try.func5, Try.ntmps5
    go_wp2_with fail
    go_region_held3 (fun w' => w'.cell? ⟨w.heap.size, 0, none⟩ = some (.int .i64 f) ∧ w'.cell? ⟨w.heap.size, 1, none⟩ = some (.int .i64 u)) (go_keep) (first | (go_at_call 22; (with_reducible refine (length_fn c r0 (by omega)).mono ?_); rintro e w1 ⟨rfl, hb1⟩; have r1 := r0.st hb1; have q1a := (hb1.cell (p := ⟨w.heap.size, 0, none⟩) z0).trans q0a; have q1b := (hb1.cell (p := ⟨w.heap.size, 1, none⟩) z0).trans q0b; have b1 := Below.st b0 hb1; have z1 := Nat.lt_of_lt_of_le z0 hb1.size) | (go_at_call 23; (with_reducible refine (rlength_fn c r1 (by omega)).mono ?_); rintro e w2 ⟨rfl, hb2⟩; have r2 := r1.st hb2; have q2a := (hb2.cell (p := ⟨w.heap.size, 0, none⟩) z1).trans q1a; have q2b := (hb2.cell (p := ⟨w.heap.size, 1, none⟩) z1).trans q1b; have b2 := Below.st b1 hb2; have z2 := Nat.lt_of_lt_of_le z1 hb2.size) | (go_at_call 24; (with_reducible refine (has_any c t r2 (by omega)).mono ?_); rintro e w3 ⟨rfl, hb3⟩; have r3 := r2.st hb3; have q3a := (hb3.cell (p := ⟨w.heap.size, 0, none⟩) z2).trans q2a; have q3b := (hb3.cell (p := ⟨w.heap.size, 1, none⟩) z2).trans q2b; have b3 := Below.st b2 hb3; have z3 := Nat.lt_of_lt_of_le z2 hb3.size) | (go_at_call 25; (with_reducible refine (rhas_any _ c l t _ r3 (by omega)).mono ?_); rintro e w4 ⟨rfl, hb4⟩; have r4 := r3.st hb4; have q4a := (hb4.cell (p := ⟨w.heap.size, 0, none⟩) z3).trans q3a; have q4b := (hb4.cell (p := ⟨w.heap.size, 1, none⟩) z3).trans q3b; have b4 := Below.st b3 hb4; have z4 := Nat.lt_of_lt_of_le z3 hb4.size) | (go_at_call 26; (with_reducible refine (covers_fn c f u r4 (by omega)).mono ?_); rintro e w5 ⟨rfl, hb5⟩; have r5 := r4.st hb5; have q5a := (hb5.cell (p := ⟨w.heap.size, 0, none⟩) z4).trans q4a; have q5b := (hb5.cell (p := ⟨w.heap.size, 1, none⟩) z4).trans q4b; have b5 := Below.st b4 hb5; have z5 := Nat.lt_of_lt_of_le z4 hb5.size) | (go_at_call 27; (with_reducible refine (rcovers_fn c f u r5 (by omega)).mono ?_); rintro e w6 ⟨rfl, hb6⟩; have r6 := r5.st hb6; have q6a := (hb6.cell (p := ⟨w.heap.size, 0, none⟩) z5).trans q5a; have q6b := (hb6.cell (p := ⟨w.heap.size, 1, none⟩) z5).trans q5b; have b6 := Below.st b5 hb6; have z6 := Nat.lt_of_lt_of_le z5 hb6.size) | (go_at_call 15; (with_reducible refine (alive_any _).mono ?_); rintro e w7 ⟨rfl, hb7⟩; have q7a := (hb7.cell (p := ⟨w.heap.size, 0, none⟩) z6).trans q6a; have q7b := (hb7.cell (p := ⟨w.heap.size, 1, none⟩) z6).trans q6b; have b7 := Below.st b6 hb7))
    go_wp2
    go_ret
    exact ⟨rfl, b7⟩
  · clear h
    go_enter Try.func5, Try.ntmps5
    go_wp2
    go_ret
    exact ⟨rfl, b1⟩
end Go.Proofs.Ytkipbmcahkacmaa
