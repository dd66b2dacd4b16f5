/- tag.luhn, tag.Check and the reference's, walked. -/
import Derived.Test.YtfdnciijibiodaaDetTag
import Derived.BigQuiet
namespace Go.Proofs.Ytfdnciijibiodaa
open Go.RowKit Go.Lib

theorem lv_even {i c : Nat} (h : i % 2 = 0) : lv i c = if 9 < 2 * ((c : Int) - 48) then 2 * ((c : Int) - 48) - 9 else 2 * ((c : Int) - 48) := by unfold lv; rw [if_pos h]
theorem lv_odd {i c : Nat} (h : i % 2 = 1) : lv i c = (c : Int) - 48 := by unfold lv; rw [if_neg (by omega)]
theorem lsum_succ {s : ByteArray} {k : Nat} (h : k < s.size) : lsum s (k + 1) = lsum s k + lv k (s[k]'h).toNat := by
  show lsum s k + lv k (s.get! k).toNat = _
  rw [get_at2 s k h]

set_option maxRecDepth 100000 in
set_option maxHeartbeats 4000000 in
theorem luhn_any (s : ByteArray) (hd : allDig s = true) (hs : s.size ≤ 100) (w : World) :
    Calls Try.prog 42 #[.string s] w fun e w' => e = .returned (.int .i64 (lsum s s.size)) ∧ Below w.heap.size w w' := by
  have HD := Lib.hid ((allDig_iff s).1 hd)
  have HB := Lib.hid (fun k h => lsum_bounds hd k h)
  clear hd
  go_enter Try.func42, Try.ntmps42
  go_wp2
  go_loopw [3] (fun v wr => ∃ pos, pos ≤ s.size ∧ v = .int .i64 (lsum s pos) ∧ wr = w.iter s pos) (fun _ wr => s.size - wr.iterPos w.heap.size)
  case atStart => exact ⟨0, Nat.zero_le _, rfl, rfl⟩
  case round =>
    obtain ⟨pos, hpl, rfl, rfl⟩ := hrel
    by_cases hp : pos < s.size
    · have hdg := HD.out pos hp hp
      have HL := Lib.hid (lsum_succ hp)
      have hb := HB.out pos hpl
      obtain ⟨c, hc⟩ : ∃ c : Nat, (s[pos]'hp).toNat = c := ⟨_, rfl⟩
      rw [hc] at hdg HL
      have hyes := digB_yes hdg
      obtain ⟨h1, h2⟩ := hyes
      have hnx : ∀ ty, (Instr.next (.pointer (some ⟨w.heap.size, 0, none⟩)) true ty).run Try.prog (w.iter s pos) = .ok (.tuple #[.bool true, .int .i64 pos, .int .i32 c]) (w.iter s (pos + 1)) := by
        intro ty
        rw [← hc]
        exact run_next_ascii w s pos ty hp (by omega)
      generalize hv : lsum s pos = v at *
      obtain ⟨h3, h4⟩ := hb
      clear hv hdg hc
      have hpar : pos % 2 = 0 ∨ pos % 2 = 1 := by omega
      rcases hpar with hpar | hpar
      · have e1 : ((pos : Int).tmod 2) = 0 := by rw [Int.tmod_eq_emod_of_nonneg (by omega)]; omega
        have HV := Lib.hid (lv_even (c := c) hpar)
        clear hpar
        by_cases h9 : 9 < 2 * ((c : Int) - 48)
        · have HV := Lib.hid (HV.out.trans (if_pos h9))
          have h9b : 9 < ((c : Int) - 48) * 2 := by omega
          clear h9
          go_wp2
          go_roundw
          case rel => exact ⟨pos + 1, by omega, by rw [HL.out, HV.out]; first | done | go_num, rfl⟩
          case measure => simp [World.iterPos_iter]; omega
        · have HV := Lib.hid (HV.out.trans (if_neg h9))
          have h9b : ¬ 9 < ((c : Int) - 48) * 2 := by omega
          clear h9
          go_wp2
          go_roundw
          case rel => exact ⟨pos + 1, by omega, by rw [HL.out, HV.out]; first | done | go_num, rfl⟩
          case measure => simp [World.iterPos_iter]; omega
      · have e1 : ((pos : Int).tmod 2) = 1 := by rw [Int.tmod_eq_emod_of_nonneg (by omega)]; omega
        have HV := Lib.hid (lv_odd (c := c) hpar)
        clear hpar
        go_wp2
        go_roundw
        case rel => exact ⟨pos + 1, by omega, by rw [HL.out, HV.out]; first | done | go_num, rfl⟩
        case measure => simp [World.iterPos_iter]; omega
    · obtain rfl : pos = s.size := by omega
      have hnx : ∀ ty, (Instr.next (.pointer (some ⟨w.heap.size, 0, none⟩)) true ty).run Try.prog (w.iter s s.size) = _ := fun ty => run_next_end w s s.size ty hp
      go_wp2
      go_ret
      exact ⟨rfl, below_iter2 w s _⟩

set_option maxRecDepth 100000 in
set_option maxHeartbeats 4000000 in
theorem tagcheck_any (s : ByteArray) (w : World) :
    Calls Try.prog 35 #[.string s] w fun e w' => e = .returned (.int .i64 (if tagB s = true then 0 else 18)) ∧ Below w.heap.size w w' := by
  have CD := Lib.hid (fun (X : World) => digits_any s X)
  cases hq : (decide (s.size = 12) && allDig s)
  · have R : tagB s = false := by unfold tagB; rw [hq]; rfl
    rw [hq] at CD
    rw [R]
    clear R hq
    go_enter Try.func35, Try.ntmps35
    go_wp2_with fail
    refine (CD.out _).mono ?_
    rintro e wn ⟨rfl, hbn⟩
    go_wp2_with fail
    go_ret
    exact ⟨rfl, hbn⟩
  · rw [Bool.and_eq_true, decide_eq_true_eq] at hq
    rw [decide_eq_true hq.1, hq.2] at CD
    have CL := Lib.hid (fun (X : World) => luhn_any s hq.2 (by omega) X)
    have hb := lsum_bounds hq.2 12 (by omega)
    have R : tagB s = decide (lsum s 12 % 10 = 0) := by unfold tagB; rw [hq.2, decide_eq_true hq.1]; rfl
    rw [hq.1] at CL
    rw [R]
    generalize lsum s 12 = v at *
    obtain ⟨h1, h2⟩ := hb
    have e0 : v.tmod 10 = v % 10 := Int.tmod_eq_emod_of_nonneg h1
    clear R hq
    by_cases h0 : v % 10 = 0
    · have e1 : (v % 10 != 0) = false := by simp [h0]
      rw [decide_eq_true h0]
      clear h0 e0
      go_enter Try.func35, Try.ntmps35
      go_wp2_with fail
      refine (CD.out _).mono ?_
      rintro e wn ⟨rfl, hbn⟩
      go_wp2_with fail
      refine (CL.out _).mono ?_
      rintro e wm ⟨rfl, hbm⟩
      have hbn := hbn.st hbm
      go_wp2_with fail
      go_ret
      exact ⟨rfl, hbn⟩
    · have e1 : (v % 10 != 0) = true := by simp [h0]
      rw [decide_eq_false h0]
      clear h0 e0
      go_enter Try.func35, Try.ntmps35
      go_wp2_with fail
      refine (CD.out _).mono ?_
      rintro e wn ⟨rfl, hbn⟩
      go_wp2_with fail
      refine (CL.out _).mono ?_
      rintro e wm ⟨rfl, hbm⟩
      have hbn := hbn.st hbm
      go_wp2_with fail
      go_ret
      exact ⟨rfl, hbn⟩
end Go.Proofs.Ytfdnciijibiodaa
