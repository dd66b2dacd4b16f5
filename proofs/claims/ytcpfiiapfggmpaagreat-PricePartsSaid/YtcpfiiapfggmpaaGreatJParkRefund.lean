/- Joined texts: ParkRefund, ParkSmall, ZoneInHours. -/
import Derived.Test.YtcpfiiapfggmpaaGreatJParkFeeW
import Derived.Test.YtcpfiiapfggmpaaGreatJZoneLeaf
/- parkfee.Refund, walked. -/
namespace Go.Proofs.YtcpfiiapfggmpaaGreat
open Go.RowKit Go.Lib

theorem ref_1 {z : Zn} {a b t : Int} (h : feeE z a b ≠ 0) : refN z a b t = 0 ∧ refE z a b t = feeE z a b := by
  have e : refE z a b t = feeE z a b := by unfold refE; rw [if_pos h]
  exact ⟨by unfold refN; rw [e, if_pos h], e⟩
theorem ref_12 {z : Zn} {a b t : Int} (h : feeE z a b = 0) (h2 : t < a ∨ b < t) : refN z a b t = 0 ∧ refE z a b t = 12 := by
  have e : refE z a b t = 12 := by unfold refE; rw [if_neg (by simp [h]), if_pos h2]
  exact ⟨by unfold refN; rw [e, if_pos (by omega)], e⟩
theorem ref_a {z : Zn} {a b : Int} (h : feeE z a b = 0) (h2 : a < b) : refN z a b a = feeS z a b ∧ refE z a b a = 0 := by
  have e : refE z a b a = 0 := by unfold refE; rw [if_neg (by simp [h]), if_neg (by omega)]
  exact ⟨by unfold refN; rw [e, if_neg (by simp), if_pos rfl], e⟩
theorem ref_s {z : Zn} {a b t : Int} (h : feeE z a b = 0) (h2 : a < t) (h3 : t ≤ b) : refN z a b t = feeS z a b - feeS z a t ∧ refE z a b t = 0 := by
  have e : refE z a b t = 0 := by unfold refE; rw [if_neg (by simp [h]), if_neg (by omega)]
  exact ⟨by unfold refN; rw [e, if_neg (by simp), if_neg (by omega)], e⟩
theorem fee_yes {z : Zn} {a b : Int} (h : feeE z a b = 0) : feeN z a b = feeS z a b ∧ 0 ≤ feeS z a b ∧ feeS z a b ≤ 1125899906842624 ∧ a < b := by
  obtain ⟨h1, h2⟩ := feeE_ok h
  obtain ⟨h3, h4, _⟩ := dayE_ok h1
  exact ⟨(feeE_0 h1 h2).1, feeS_nonneg (check_st h3).1 a b, h2, (daysE_rng h4).2.1⟩

end Go.Proofs.YtcpfiiapfggmpaaGreat
/- The reference's sum and SameInts, walked. -/
namespace Go.Proofs.YtcpfiiapfggmpaaGreat
open Go.RowKit Go.Lib

set_option maxHeartbeats 2000000 in
theorem rsum_any {A : Option Addr} (c : Nat) {l : List Int} {w : World} (h : Rd encI 1 w w.heap.size A l) (hl : l.length ≤ 1024) (hb : ∀ x ∈ l, -1125899906842624 ≤ x ∧ x ≤ 1125899906842624) :
    Calls Tryz.prog 45 #[.slice A l.length c] w fun e w' => e = .returned (.int .i64 l.sum) ∧ Below w.heap.size w w' := by
  have H := Lib.hid h
  have HB := Lib.hid hb
  clear h hb
  go_enter Tryz.func45, Tryz.ntmps45
  go_wp2
  go_loopw [3, 4] (fun v i wr => ∃ (k : Nat) (q : Int), k ≤ l.length ∧ i = .int .i64 k ∧ Hid ((l.take k).sum = q) ∧ v = .int .i64 q ∧ Below w.heap.size w wr) (fun _ i _ => l.length - (RowKit.intOf i).toNat)
  case atStart => exact ⟨0, 0, Nat.zero_le _, rfl, rfl, rfl, Below.refl _ _⟩
  case round =>
    obtain ⟨k, q, hk, rfl, HO, rfl, hbr⟩ := hrel
    have hq := sum_bounds (l := l.take k) fun x hx => HB.out x (List.mem_of_mem_take hx)
    rw [HO.out, List.length_take, Nat.min_eq_left hk] at hq
    obtain ⟨hq1, hq2⟩ := hq
    by_cases hlt : k < l.length
    · obtain ⟨b, off, x, rfl, hg, hx, hc0⟩ := (H.out.keep hbr).i hlt
      obtain ⟨hx1, hx2⟩ := HB.out x (List.mem_of_getElem? hx)
      have R := Lib.hid (show (l.take (k + 1)).sum = q + x by rw [List.take_add_one, hx, List.sum_append, HO.out]; simp)
      clear hx HO
      go_wp2
      go_roundw
      case rel => exact ⟨k + 1, _, by omega, by go_num, R, rfl, hbr⟩
      case measure => simp [RowKit.intOf]; omega
    · obtain rfl : k = l.length := by omega
      have R := Lib.hid (show l.sum = q by have := HO.out; rwa [List.take_length] at this)
      clear HO
      go_wp2
      go_ret
      exact ⟨ret_int R.out.symm, hbr⟩

end Go.Proofs.YtcpfiiapfggmpaaGreat
/- The reference's InHours and Open, walked. -/
namespace Go.Proofs.YtcpfiiapfggmpaaGreat
open Go.RowKit Go.Lib

theorem hoursB_no {hs : List Wn} {t : Int} (h0 : hs ≠ []) (h : ∀ y ∈ hs.take hs.length, wAt y t → False) : hoursB hs t = false := by
  cases hb : hoursB hs t
  · rfl
  · rw [List.take_length] at h
    rcases (hoursB_iff hs t).1 hb with e | ⟨x, hx, hw⟩
    · exact absurd e h0
    · exact (h x hx hw).elim
theorem hoursB_yes {hs : List Wn} {t : Int} {k : Nat} {x : Wn} (hx : hs[k]? = some x) (h : wAt x t) : hoursB hs t = true := (hoursB_iff hs t).2 (.inr ⟨x, List.mem_of_getElem? hx, h⟩)
theorem no_succ {α : Type} {p : α → Prop} {l : List α} {k : Nat} {x : α} (hx : l[k]? = some x) (h : ∀ y ∈ l.take k, p y → False) (hp : p x → False) : ∀ y ∈ l.take (k + 1), p y → False := by
  intro y hy
  rw [take_snoc hx, List.mem_append] at hy
  rcases hy with hy | hy
  · exact h y hy
  · simp at hy; subst hy; exact hp

set_option maxHeartbeats 4000000 in
theorem rInHours_any {A : Option Addr} (c : Nat) {hs : List Wn} {t : Int} {w : World} (h : Rd encW 3 w w.heap.size A hs) (ht : 0 ≤ t) (htm : t ≤ 9000000000000000000) (hl : hs.length ≤ 9223372036854775807) :
    Calls Tryz.prog 160 #[.slice A hs.length c, .int .i64 t] w fun e w' => e = .returned (.bool (hoursB hs t)) ∧ Below w.heap.size w w' := by
  by_cases h0 : hs.length = 0
  · obtain rfl := List.eq_nil_of_length_eq_zero h0
    have R := Lib.hid (show hoursB [] t = true from rfl)
    generalize hoursB [] t = r at *
    go_enter Tryz.func160, Tryz.ntmps160
    go_wp2
    all_goals (go_ret; rw [R.out]; exact ⟨rfl, Below.refl _ _⟩)
  · have hne : hs ≠ [] := by rintro rfl; exact h0 rfl
    have Hyes := Lib.hid (show ∀ k x, hs[k]? = some x → wAt x t → hoursB hs t = true from fun k x => hoursB_yes)
    have Hno := Lib.hid (hoursB_no (t := t) hne)
    generalize hoursB hs t = r at *
    have hl0 : ((hs.length : Int) == 0) = false := beq_eq_false_iff_ne.2 (by omega)
    clear hne
    go_enter Tryz.func160, Tryz.ntmps160
    go_wp2
    go_loopw [5] (fun i wr => ∃ k : Nat, k ≤ hs.length ∧ i = .int .i64 k ∧ Hid (∀ y ∈ hs.take k, wAt y t → False) ∧ Below w.heap.size w wr) (fun i _ => hs.length - (RowKit.intOf i).toNat)
    case atStart => exact ⟨0, Nat.zero_le _, rfl, (by unfold Hid; simp), Below.refl _ _⟩
    case round =>
      obtain ⟨k, hk, rfl, HN, hbr⟩ := hrel
      by_cases hi : k < hs.length
      · obtain ⟨b, off, x, y, z, rfl, hb, hx, d0, d1, d2⟩ := (h.keep hbr).w3 hi
        have hi1 : (0 : Int) ≤ (k : Int) := by omega
        have hi2 : (k : Int) < (hs.length : Int) := by omega
        have hbw : b < wr.heap.size := Nat.lt_of_lt_of_le hb hbr.size
        have hb2 := hbr.al (.cells #[.int .i64 x, .int .i64 y, .int .i64 z] 91)
        clear h
        cases hv : vw (x, y, z)
        · have R := Lib.hid (no_succ hx HN.out (fun q => by rw [q.1] at hv; cases hv))
          have HV := Lib.hid hv
          clear hx hv
          go_wp2_with (go_at_call 105; (refine (rIsWindow_any (x, y, z) _).mono ?_); rw [HV.out]; rintro e w' ⟨rfl, rfl⟩)
          go_roundw
          case rel => exact ⟨k + 1, by omega, by go_num, R, hb2⟩
          case measure => simp [RowKit.intOf]; omega
        · have HV := Lib.hid hv
          have hw := (vw_iff _).1 hv
          have hw1 : 0 ≤ y := by have := hw.2.2.1; exact this
          have d0' := (World.cell?_alloc_lt wr (.cells #[.int .i64 x, .int .i64 y, .int .i64 z] 91) ⟨b, off + k * 3, none⟩ hbw).trans d0
          have hd : 0 ≤ t / 86400 := by omega
          cases ho : onD x (t / 86400)
          · have R := Lib.hid (no_succ hx HN.out (fun q => by have := q.2.1; simp only at this; rw [this] at ho; cases ho))
            have HO := Lib.hid ho
            clear hx hv ho hw
            go_wp2_with (first | (go_at_call 105; (refine (rIsWindow_any (x, y, z) _).mono ?_); rw [HV.out]; rintro e w' ⟨rfl, rfl⟩) | (go_at_call 170; (refine (rOn_any (x, y, z) _ _ HV.out hd).mono ?_); rw [HO.out]; rintro e w' ⟨rfl, hb3⟩))
            go_roundw
            case rel => exact ⟨k + 1, by omega, by go_num, R, hb2.st (by assumption)⟩
            case measure => simp [RowKit.intOf]; omega
          · have HO := Lib.hid ho
            by_cases hm : y ≤ t % 86400 / 60
            · by_cases hm2 : t % 86400 / 60 < z
              · have R := Lib.hid (Hyes.out _ _ hx ⟨hv, ho, by simp only; omega, by simp only; omega⟩)
                clear hx hv ho hw
                go_wp2_with (first | (go_at_call 105; (refine (rIsWindow_any (x, y, z) _).mono ?_); rw [HV.out]; rintro e w' ⟨rfl, rfl⟩) | (go_at_call 170; (refine (rOn_any (x, y, z) _ _ HV.out hd).mono ?_); rw [HO.out]; rintro e w3 ⟨rfl, hb3⟩; have q1 := (hb3.cell (p := ⟨b, off + k * 3 + 1, none⟩) (by simp; omega)).trans ((World.cell?_alloc_lt wr _ ⟨b, off + k * 3 + 1, none⟩ hbw).trans d1); have q2 := (hb3.cell (p := ⟨b, off + k * 3 + 2, none⟩) (by simp; omega)).trans ((World.cell?_alloc_lt wr _ ⟨b, off + k * 3 + 2, none⟩ hbw).trans d2)))
                all_goals (go_ret; rw [R.out]; exact ⟨rfl, hb2.st (by assumption)⟩)
              · have R := Lib.hid (no_succ hx HN.out (fun q => by have := q.2.2; simp only at this; omega))
                clear hx hv ho hw
                go_wp2_with (first | (go_at_call 105; (refine (rIsWindow_any (x, y, z) _).mono ?_); rw [HV.out]; rintro e w' ⟨rfl, rfl⟩) | (go_at_call 170; (refine (rOn_any (x, y, z) _ _ HV.out hd).mono ?_); rw [HO.out]; rintro e w3 ⟨rfl, hb3⟩; have q1 := (hb3.cell (p := ⟨b, off + k * 3 + 1, none⟩) (by simp; omega)).trans ((World.cell?_alloc_lt wr _ ⟨b, off + k * 3 + 1, none⟩ hbw).trans d1); have q2 := (hb3.cell (p := ⟨b, off + k * 3 + 2, none⟩) (by simp; omega)).trans ((World.cell?_alloc_lt wr _ ⟨b, off + k * 3 + 2, none⟩ hbw).trans d2)))
                go_roundw
                case rel => exact ⟨k + 1, by omega, by go_num, R, hb2.st (by assumption)⟩
                case measure => simp [RowKit.intOf]; omega
            · have R := Lib.hid (no_succ hx HN.out (fun q => by have := q.2.2; simp only at this; omega))
              clear hx hv ho hw
              go_wp2_with (first | (go_at_call 105; (refine (rIsWindow_any (x, y, z) _).mono ?_); rw [HV.out]; rintro e w' ⟨rfl, rfl⟩) | (go_at_call 170; (refine (rOn_any (x, y, z) _ _ HV.out hd).mono ?_); rw [HO.out]; rintro e w3 ⟨rfl, hb3⟩; have q1 := (hb3.cell (p := ⟨b, off + k * 3 + 1, none⟩) (by simp; omega)).trans ((World.cell?_alloc_lt wr _ ⟨b, off + k * 3 + 1, none⟩ hbw).trans d1)))
              go_roundw
              case rel => exact ⟨k + 1, by omega, by go_num, R, hb2.st (by assumption)⟩
              case measure => simp [RowKit.intOf]; omega
      · obtain rfl : k = hs.length := by omega
        have R := Lib.hid (Hno.out HN.out)
        go_wp2
        go_ret
        rw [R.out]
        exact ⟨rfl, hbr⟩

end Go.Proofs.YtcpfiiapfggmpaaGreat
