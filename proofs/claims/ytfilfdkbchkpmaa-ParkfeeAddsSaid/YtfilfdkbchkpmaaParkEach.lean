/- each over the fees of days, walked. -/
import Derived.Test.YtfilfdkbchkpmaaParkDayFee
namespace Go.Proofs.Ytfilfdkbchkpmaa
open Go.RowKit Go.Lib

theorem days_last {a b : Int} (h : daysE a b = 0) : (dayN a b : Int) = (b - 1) / 86400 - a / 86400 + 1 ∧ dayN a b ≤ 366 ∧ 0 ≤ a / 86400 ∧ (b - 1) / 86400 ≤ 795365 := by
  have := daysE_rng h
  unfold dayN
  omega
theorem feesL_take {z : Zn} {a b : Int} {k : Nat} (h : k < dayN a b) : (feesL z a b).take (k + 1) = (feesL z a b).take k ++ [feeD z a b (a / 86400 + k)] := take_snoc (feesL_get h)

set_option maxRecDepth 100000 in
set_option maxHeartbeats 4000000 in
theorem each_any (z : Zn) (A : Option Addr) (c : Nat) (l : List Iv) (a b : Int) {w : World} (h : ZOk w z) (hl : Rd encIv 2 w w.heap.size A l) (hE : EnfL z.hs a b l) (hd : daysE a b = 0)
    (hc : checkE z = 0) (hv : V z.ss (U z.hs a b) ≤ 1125899906842624) :
    Calls Try.prog 33 #[.int .i64 (a / 86400), .int .i64 ((b - 1) / 86400), .func (.func 32) #[SV z A l.length c] #[]] w fun e w' =>
      ∃ A' c', e = .returned (.slice A' (feesL z a b).length c') ∧ Own 3 encI 1 w' w.heap.size A' c' (feesL z a b) ∧ Below w.heap.size w w' := by
  obtain ⟨hr0, hr1, hr2, hr3⟩ := daysE_rng hd
  obtain ⟨hn0, hn1, hn2, hn3⟩ := days_last hd
  have C := Lib.hid (fun (X : World) (hX : Below w.heap.size w X) (d : Int) (hd0 : 0 ≤ d) (hd1 : 86400 * d ≤ b) => fee_any z A c l a b d (w := X) (h.st hX) (hl.st hX) hE (by omega) hr2 hd0 hd1 hc hv)
  have HT := Lib.hid (fun k (hk : k < dayN a b) => feesL_take (z := z) hk)
  have HL := Lib.hid (feesL_length z a b)
  generalize feesL z a b = L at *
  generalize dayN a b = N at *
  have hda : a / 86400 * 86400 ≤ a := by omega
  have hdb : (b - 1) / 86400 * 86400 ≤ b - 1 := by omega
  generalize a / 86400 = d0 at *
  generalize (b - 1) / 86400 = d1 at *
  clear hE h hl hv hc hd
  generalize SV z A l.length c = sv at *
  go_enter Try.func33, Try.ntmps33
  go_wp2_with fail
  go_loopw [7, 8] (fun v i wr => ∃ (k : Nat) (A' : Option Addr) (c' : Nat) (o : List Int), k ≤ N ∧ i = .int .i64 (d0 + k) ∧ Hid (L.take k = o) ∧ Hid (o.length = k) ∧ v = .slice A' o.length c' ∧ Own 3 encI 1 wr w.heap.size A' c' o ∧ Below w.heap.size w wr) (fun _ i _ => (d1 + 1 - intOf i).toNat)
  case atStart => exact ⟨0, none, 0, [], Nat.zero_le _, by simp, rfl, rfl, rfl, Own.nil _ _, Below.refl _ _⟩
  case round =>
    obtain ⟨k, A', c', o, hk, rfl, HO, HOL, rfl, hown, hbr⟩ := hrel
    have hol : o.length ≤ 366 := by have := HOL.out; omega
    by_cases hlt : k < N
    · have hle : d0 + (k : Int) ≤ d1 := by omega
      have C1 := Lib.hid (C.out wr hbr (d0 + k) (by omega) (by omega))
      have R0 := Lib.hid (HT.out k hlt)
      generalize feeD z a b (d0 + k) = x at *
      go_wp2_with fail
      refine (C1.out).mono ?_
      rintro e w1 ⟨rfl, hb1⟩
      have hown1 := hown.st hb1
      have hbr1 := hbr.st hb1
      go_wp2_with (at_builtin; refine wpList_app1 rfl (.tmp 15) (.tmp 19) tyI encI_ok rfl x rfl _ rfl (by simp) hown1 rfl (by first | rfl | simp) (by first | omega | (simp; omega)) (by first | omega | (simp; omega)) hbr1.size ?_; intro A4 c4 w4 hown4 hb4 hs4 hf4; have hbel4 := hbr1.trans hb4)
      go_roundw
      case rel => exact ⟨k + 1, A4, c4, _, by omega, (by rw [show d0 + ((k + 1 : Nat) : Int) = d0 + k + 1 by omega]), (by have := R0.out; rw [HO.out] at this; exact this), (by have := HOL.out; unfold Hid; simp; omega), by simp, hown4, hbel4⟩
      case measure => simp [intOf]; omega
    · obtain rfl : k = N := by omega
      have hgt : ¬ d0 + (k : Int) ≤ d1 := by omega
      have R := Lib.hid (show L = o by have := HO.out; rwa [List.take_of_length_le (by rw [HL.out]; exact Nat.le_refl _)] at this)
      go_wp2
      go_ret
      rw [R.out]
      exact ⟨A', c', rfl, hown, hbr⟩
end Go.Proofs.Ytfilfdkbchkpmaa
