/- The reference's In (is a time in a weekly window), walked. -/
import Derived.Test.YtcpfiiapfggmpaaGreatJTrip
import Derived.Test.YtcpfiiapfggmpaaGreatJFirst
import Derived.BigQuiet
import Derived.IntWalk
set_option linter.unusedSimpArgs false
namespace Go.Proofs.YtcpfiiapfggmpaaGreat
open Go.RowKit Go.Lib

theorem tisTime_any (t : Int) (w : World) : Calls Tryz.prog 142 #[.int .i64 t] w fun e w' => e = .returned (.bool (decide (0 ≤ t ∧ t < 68719476736))) ∧ w' = w := by
  go_enter Tryz.func142, Tryz.ntmps142
  go_wp2
  all_goals (go_ret; exact ⟨ret_bool (by rw [Bool.eq_iff_iff]; simp; omega), rfl⟩)
theorem tminute_any (t : Int) (w : World) (h0 : 0 ≤ t) (h1 : t < 68719476736) : Calls Tryz.prog 144 #[.int .i64 t] w fun e w' => e = .returned (.int .i64 (t % 86400 / 60)) ∧ w' = w := by
  go_enter Tryz.func144, Tryz.ntmps144
  go_wp2_with (go_at_call 142; refine (tisTime_any _ _).mono ?_; rw [decide_eq_true (show 0 ≤ t ∧ t < 68719476736 from ⟨h0, h1⟩)]; rintro e w' ⟨rfl, rfl⟩)
  all_goals (go_ret; exact ⟨ret_int (by go_num), rfl⟩)
theorem tvw_any (x : Wn) (w : World) : Calls Tryz.prog 101 #[.agg #[.int .i64 x.1, .int .i64 x.2.1, .int .i64 x.2.2]] w fun e w' => e = .returned (.bool (vw x)) ∧ w.alloc (.cells #[.int .i64 x.1, .int .i64 x.2.1, .int .i64 x.2.2] 91) = w' := by
  unfold vw
  go_enter Tryz.func101, Tryz.ntmps101
  go_wp2
  all_goals (go_ret; exact ⟨ret_bool (by rw [Bool.eq_iff_iff]; simp; omega), rfl⟩)
theorem tset_any (y d : Int) (h0 : 0 ≤ y) (h1 : y ≤ 127) (w : World) : Calls Tryz.prog 143 #[.int .i64 y, .int .i64 (d % 7)] w fun e w' => e = .returned (.bool (onD y d)) ∧ w' = w := by
  go_enter Tryz.func143, Tryz.ntmps143
  go_wp2
  go_loopw [0, 5] (fun v i wr => ∃ k : Nat, (k : Int) ≤ d % 7 ∧ i = .int .i64 k ∧ v = .int .i64 (y / 2 ^ k) ∧ wr = w) (fun _ i _ => 7 - (RowKit.intOf i).toNat)
  case atStart => exact ⟨0, by omega, rfl, by simp, rfl⟩
  case round =>
    obtain ⟨k, hk, rfl, rfl, hw⟩ := hrel
    have hw := hw.symm
    subst hw
    have h3 := div_pow (y := y) (by omega) k
    have h2 := div_pow_succ y k
    by_cases hlt : (k : Int) < d % 7
    · have e : (y / 2 ^ k).tdiv 2 = y / 2 ^ (k + 1) := by rw [h2, Int.tdiv_eq_ediv_of_nonneg h3.1]
      go_wp2
      go_roundw
      case rel => exact ⟨k + 1, by omega, by go_num, by simp [h2], by first | rfl | trivial⟩
      case measure => simp [RowKit.intOf]; omega
    · have hk7 : k = (d % 7).toNat := by omega
      have e : (y / 2 ^ k) % 2 = (y / 2 ^ k).tmod 2 := by rw [Int.tmod_eq_emod_of_nonneg h3.1]
      have R := Lib.hid (show onD y d = decide (y / 2 ^ k % 2 = 1) by rw [hk7]; rfl)
      clear h2 hk7
      go_wp2
      go_ret
      rw [R.out]
      exact ⟨ret_bool (by rw [← e, Bool.eq_iff_iff]; simp), rfl⟩

set_option maxRecDepth 100000 in
set_option maxHeartbeats 4000000 in
theorem rIn_any (x : Wn) (t : Int) (w : World) :
    Calls Tryz.prog 98 #[.agg #[.int .i64 x.1, .int .i64 x.2.1, .int .i64 x.2.2], .int .i64 t] w fun e w' => e = .returned (.bool (decide (0 ≤ t ∧ t < 68719476736) && decide (wAt x t))) ∧ Below w.heap.size w w' := by
  obtain ⟨Y, hY⟩ : ∃ Y, w.alloc (.cells #[.int .i64 x.1, .int .i64 x.2.1, .int .i64 x.2.2] 91) = Y := ⟨_, rfl⟩
  have hb : Below w.heap.size w Y := by rw [← hY]; exact (Below.refl _ w).al _
  have BX : Blk Y w.heap.size #[.int .i64 x.1, .int .i64 x.2.1, .int .i64 x.2.2] 91 := by rw [← hY]; exact Blk.new w _ _
  have c0 := BX.cell 0 (v := .int .i64 x.1) rfl
  have c1 := BX.cell 1 (v := .int .i64 x.2.1) rfl
  have c2 := BX.cell 2 (v := .int .i64 x.2.2) rfl
  generalize hr : (decide (0 ≤ t ∧ t < 68719476736) && decide (wAt x t)) = r
  cases hv : vw x
  · have R := Lib.hid (show r = false by rw [← hr]; simp [wAt, hv])
    have CV := Lib.hid (tvw_any x Y)
    rw [hv] at CV
    clear hr hv
    go_enter Tryz.func98, Tryz.ntmps98
    go_wp2_with fail
    refine CV.out.mono ?_
    rintro e w' ⟨rfl, rfl⟩
    go_wp2_with fail
    go_ret
    rw [R.out]
    exact ⟨rfl, hb.al _⟩
  have hw := (vw_iff x).1 hv
  have CV := Lib.hid (tvw_any x Y)
  rw [hv] at CV
  by_cases ht : 0 ≤ t ∧ t < 68719476736
  · have CT := Lib.hid (fun (X : World) => tisTime_any t X)
    rw [decide_eq_true ht] at CT
    obtain ⟨d, hd⟩ : ∃ d, t / 86400 = d := ⟨_, rfl⟩
    have hq : t.tdiv 86400 = d := by rw [← hd, Int.tdiv_eq_ediv_of_nonneg ht.1]
    have hd0 : 0 ≤ d ∧ d ≤ 68719476736 := by omega
    have hdw : IntKind.i64.wrap d = d := IntWalk.i64_in _ (by omega)
    have hm : d.tmod 7 = d % 7 := Int.tmod_eq_emod_of_nonneg hd0.1
    obtain ⟨k, hk⟩ : ∃ k, d % 7 = k := ⟨_, rfl⟩
    have CS := Lib.hid (fun (X : World) => (tset_any x.1 d (by omega) (by omega) X).mono (R' := fun e w' => e = .returned (.bool (onD x.1 d)) ∧ ∃ k, w' = X.drewN k) (fun e w' h => ⟨h.1, 0, h.2⟩))
    rw [hk] at CS hm
    have hkw : IntKind.i64.wrap k = k := IntWalk.i64_in _ (by omega)
    obtain ⟨mi, hmi⟩ : ∃ mi, t % 86400 / 60 = mi := ⟨_, rfl⟩
    have CM := Lib.hid (fun (X : World) => (tminute_any t X ht.1 ht.2).mono (R' := fun e w' => e = .returned (.int .i64 (t % 86400 / 60)) ∧ ∃ k, w' = X.drewN k) (fun e w' h => ⟨h.1, 0, h.2⟩))
    rw [hmi] at CM
    have R := Lib.hid (show r = (onD x.1 d && decide (x.2.1 ≤ mi ∧ mi < x.2.2)) by
      rw [← hr, ← hd, ← hmi, Bool.eq_iff_iff]; simp [wAt, hv, ht]; omega)
    clear hr hv
    generalize onD x.1 d = ob at *
    have HB2 : Hid (∀ n, Below w.heap.size w ((Y.alloc (.cells #[.int .i64 x.1, .int .i64 x.2.1, .int .i64 x.2.2] 91)).drewN n)) := Lib.hid (fun n => below_drewN (hb.al _) n)
    have BX2 : Blk (Y.alloc (.cells #[.int .i64 x.1, .int .i64 x.2.1, .int .i64 x.2.2] 91)) w.heap.size #[.int .i64 x.1, .int .i64 x.2.1, .int .i64 x.2.2] 91 := BX.alloc _
    obtain ⟨Z, hZ⟩ : ∃ Z, Y.alloc (.cells #[.int .i64 x.1, .int .i64 x.2.1, .int .i64 x.2.2] 91) = Z := ⟨_, rfl⟩
    rw [hZ] at HB2 BX2 CV
    have d0 := BX2.cell 0 (v := .int .i64 x.1) rfl
    have d1 := BX2.cell 1 (v := .int .i64 x.2.1) rfl
    have d2 := BX2.cell 2 (v := .int .i64 x.2.2) rfl
    clear BX BX2 hd hk hmi hZ hw
    go_enter Tryz.func98, Tryz.ntmps98
    go_wp2_with fail
    refine CV.out.mono ?_
    rintro e w' ⟨rfl, hw'⟩
    obtain rfl : Z = w' := hw'
    go_wp2_with fail
    refine (CT.out _).mono ?_
    rintro e w' ⟨rfl, hw'⟩
    rw [hw']
    clear hw' w' CT CV
    cases ob
    · go_wp2_with fail
      go_quiet ((first | (go_at_call 143; with_reducible refine Calls.quiet_of (CS.out _)) | (go_at_call 144; with_reducible refine Calls.quiet_of (CM.out _))))
      go_wp2_with fail
      go_ret
      rw [R.out]
      exact ⟨rfl, HB2.out _⟩
    · by_cases hge : x.2.1 ≤ mi
      · by_cases hlt : mi < x.2.2
        · have RR := Lib.hid (R.out.trans (show _ = true by rw [decide_eq_true ⟨hge, hlt⟩]; rfl))
          have q1 : decide (x.2.1 ≤ mi) = true := decide_eq_true hge
          have q2 : decide (mi < x.2.2) = true := decide_eq_true hlt
          clear R
          go_wp2_with fail
          go_quiet ((first | (go_at_call 143; with_reducible refine Calls.quiet_of (CS.out _)) | (go_at_call 144; with_reducible refine Calls.quiet_of (CM.out _))))
          go_wp2_with fail
          go_ret
          rw [RR.out]
          exact ⟨rfl, HB2.out _⟩
        · have RR := Lib.hid (R.out.trans (show _ = false by rw [decide_eq_false (fun h => hlt h.2)]; rfl))
          have q1 : decide (x.2.1 ≤ mi) = true := decide_eq_true hge
          have q2 : decide (mi < x.2.2) = false := decide_eq_false hlt
          clear R
          go_wp2_with fail
          go_quiet ((first | (go_at_call 143; with_reducible refine Calls.quiet_of (CS.out _)) | (go_at_call 144; with_reducible refine Calls.quiet_of (CM.out _))))
          go_wp2_with fail
          go_ret
          rw [RR.out]
          exact ⟨rfl, HB2.out _⟩
      · have RR := Lib.hid (R.out.trans (show _ = false by rw [decide_eq_false (fun h => hge h.1)]; rfl))
        have q1 : decide (x.2.1 ≤ mi) = false := decide_eq_false hge
        clear R
        go_wp2_with fail
        go_quiet ((first | (go_at_call 143; with_reducible refine Calls.quiet_of (CS.out _)) | (go_at_call 144; with_reducible refine Calls.quiet_of (CM.out _))))
        go_wp2_with fail
        go_ret
        rw [RR.out]
        exact ⟨rfl, HB2.out _⟩
  · have CT := Lib.hid (fun (X : World) => tisTime_any t X)
    rw [decide_eq_false ht] at CT
    have R := Lib.hid (show r = false by rw [← hr, decide_eq_false ht]; rfl)
    clear hr hv
    go_enter Tryz.func98, Tryz.ntmps98
    go_wp2_with fail
    refine CV.out.mono ?_
    rintro e w' ⟨rfl, rfl⟩
    go_wp2_with fail
    refine (CT.out _).mono ?_
    rintro e w' ⟨rfl, hw'⟩
    rw [hw']
    clear hw' w'
    go_wp2_with fail
    go_ret
    rw [R.out]
    exact ⟨rfl, hb.al _⟩
end Go.Proofs.YtcpfiiapfggmpaaGreat
