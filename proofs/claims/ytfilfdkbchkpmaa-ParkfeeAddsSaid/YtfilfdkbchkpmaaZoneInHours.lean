/- The reference's InHours and Open, walked. -/
import Derived.Test.YtfilfdkbchkpmaaZoneOn
import Derived.Test.YtfilfdkbchkpmaaZoneWords
namespace Go.Proofs.Ytfilfdkbchkpmaa
open Go.RowKit Go.Lib

theorem hoursB_no {hs : List Wn} {t : Int} (h0 : hs ≠ []) (h : ∀ y ∈ hs.take hs.length, wAt y t → False) : hoursB hs t = false := by
  cases hb : hoursB hs t
  · rfl
  · rw [List.take_length] at h
    rcases (hoursB_iff hs t).1 hb with e | ⟨x, hx, hw⟩
    · exact absurd e h0
    · exact (h x hx hw).elim
theorem hoursB_yes {hs : List Wn} {t : Int} {k : Nat} {x : Wn} (hx : hs[k]? = some x) (h : wAt x t) : hoursB hs t = true := (hoursB_iff hs t).2 (.inr ⟨x, List.mem_of_getElem? hx, h⟩)
theorem no_succ {α : Type} {p : α → Prop} {l : List α} {k : Nat} {x : α} (hx : l[k]? = some x) (h : ∀ y ∈ l.take k, p y → False) (hp : p x → False) : ∀ y ∈ l.take (k + 1), p y → False := by
  intro y hy
  rw [take_snoc hx, List.mem_append] at hy
  rcases hy with hy | hy
  · exact h y hy
  · simp at hy; subst hy; exact hp

set_option maxHeartbeats 4000000 in
theorem rInHours_any {A : Option Addr} (c : Nat) {hs : List Wn} {t : Int} {w : World} (h : Rd encW 3 w w.heap.size A hs) (ht : 0 ≤ t) (htm : t ≤ 9000000000000000000) (hl : hs.length ≤ 9223372036854775807) :
    Calls Try.prog 70 #[.slice A hs.length c, .int .i64 t] w fun e w' => e = .returned (.bool (hoursB hs t)) ∧ Below w.heap.size w w' := by
  by_cases h0 : hs.length = 0
  · obtain rfl := List.eq_nil_of_length_eq_zero h0
    have R := Lib.hid (show hoursB [] t = true from rfl)
    generalize hoursB [] t = r at *
    go_enter Try.func70, Try.ntmps70
    go_wp2
    all_goals (go_ret; rw [R.out]; exact ⟨rfl, Below.refl _ _⟩)
  · have hne : hs ≠ [] := by rintro rfl; exact h0 rfl
    have Hyes := Lib.hid (show ∀ k x, hs[k]? = some x → wAt x t → hoursB hs t = true from fun k x => hoursB_yes)
    have Hno := Lib.hid (hoursB_no (t := t) hne)
    generalize hoursB hs t = r at *
    have hl0 : ((hs.length : Int) == 0) = false := beq_eq_false_iff_ne.2 (by omega)
    clear hne
    go_enter Try.func70, Try.ntmps70
    go_wp2
    go_loopw [5] (fun i wr => ∃ k : Nat, k ≤ hs.length ∧ i = .int .i64 k ∧ Hid (∀ y ∈ hs.take k, wAt y t → False) ∧ Below w.heap.size w wr) (fun i _ => hs.length - (intOf i).toNat)
    case atStart => exact ⟨0, Nat.zero_le _, rfl, (by unfold Hid; simp), Below.refl _ _⟩
    case round =>
      obtain ⟨k, hk, rfl, HN, hbr⟩ := hrel
      by_cases hi : k < hs.length
      · obtain ⟨b, off, x, y, z, rfl, hb, hx, d0, d1, d2⟩ := (h.keep hbr).w3 hi
        have hi1 : (0 : Int) ≤ (k : Int) := by omega
        have hi2 : (k : Int) < (hs.length : Int) := by omega
        have hbw : b < wr.heap.size := Nat.lt_of_lt_of_le hb hbr.size
        have hb2 := hbr.al (.cells #[.int .i64 x, .int .i64 y, .int .i64 z] 80)
        clear h
        cases hv : vw (x, y, z)
        · have R := Lib.hid (no_succ hx HN.out (fun q => by rw [q.1] at hv; cases hv))
          have HV := Lib.hid hv
          clear hx hv
          go_wp2_with (go_at_call 51; (refine (rIsWindow_any (x, y, z) _).mono ?_); rw [HV.out]; rintro e w' ⟨rfl, rfl⟩)
          go_roundw
          case rel => exact ⟨k + 1, by omega, by go_num, R, hb2⟩
          case measure => simp [intOf]; omega
        · have HV := Lib.hid hv
          have hw := (vw_iff _).1 hv
          have hw1 : 0 ≤ y := by have := hw.2.2.1; exact this
          have d0' := (World.cell?_alloc_lt wr (.cells #[.int .i64 x, .int .i64 y, .int .i64 z] 80) ⟨b, off + k * 3, none⟩ hbw).trans d0
          have hd : 0 ≤ t / 86400 := by omega
          cases ho : onD x (t / 86400)
          · have R := Lib.hid (no_succ hx HN.out (fun q => by have := q.2.1; simp only at this; rw [this] at ho; cases ho))
            have HO := Lib.hid ho
            clear hx hv ho hw
            go_wp2_with (first | (go_at_call 51; (refine (rIsWindow_any (x, y, z) _).mono ?_); rw [HV.out]; rintro e w' ⟨rfl, rfl⟩) | (go_at_call 75; (refine (rOn_any (x, y, z) _ _ HV.out hd).mono ?_); rw [HO.out]; rintro e w' ⟨rfl, hb3⟩))
            go_roundw
            case rel => exact ⟨k + 1, by omega, by go_num, R, hb2.st (by assumption)⟩
            case measure => simp [intOf]; omega
          · have HO := Lib.hid ho
            by_cases hm : y ≤ t % 86400 / 60
            · by_cases hm2 : t % 86400 / 60 < z
              · have R := Lib.hid (Hyes.out _ _ hx ⟨hv, ho, by simp only; omega, by simp only; omega⟩)
                clear hx hv ho hw
                go_wp2_with (first | (go_at_call 51; (refine (rIsWindow_any (x, y, z) _).mono ?_); rw [HV.out]; rintro e w' ⟨rfl, rfl⟩) | (go_at_call 75; (refine (rOn_any (x, y, z) _ _ HV.out hd).mono ?_); rw [HO.out]; rintro e w3 ⟨rfl, hb3⟩; have q1 := (hb3.cell (p := ⟨b, off + k * 3 + 1, none⟩) (by simp; omega)).trans ((World.cell?_alloc_lt wr _ ⟨b, off + k * 3 + 1, none⟩ hbw).trans d1); have q2 := (hb3.cell (p := ⟨b, off + k * 3 + 2, none⟩) (by simp; omega)).trans ((World.cell?_alloc_lt wr _ ⟨b, off + k * 3 + 2, none⟩ hbw).trans d2)))
                all_goals (go_ret; rw [R.out]; exact ⟨rfl, hb2.st (by assumption)⟩)
              · have R := Lib.hid (no_succ hx HN.out (fun q => by have := q.2.2; simp only at this; omega))
                clear hx hv ho hw
                go_wp2_with (first | (go_at_call 51; (refine (rIsWindow_any (x, y, z) _).mono ?_); rw [HV.out]; rintro e w' ⟨rfl, rfl⟩) | (go_at_call 75; (refine (rOn_any (x, y, z) _ _ HV.out hd).mono ?_); rw [HO.out]; rintro e w3 ⟨rfl, hb3⟩; have q1 := (hb3.cell (p := ⟨b, off + k * 3 + 1, none⟩) (by simp; omega)).trans ((World.cell?_alloc_lt wr _ ⟨b, off + k * 3 + 1, none⟩ hbw).trans d1); have q2 := (hb3.cell (p := ⟨b, off + k * 3 + 2, none⟩) (by simp; omega)).trans ((World.cell?_alloc_lt wr _ ⟨b, off + k * 3 + 2, none⟩ hbw).trans d2)))
                go_roundw
                case rel => exact ⟨k + 1, by omega, by go_num, R, hb2.st (by assumption)⟩
                case measure => simp [intOf]; omega
            · have R := Lib.hid (no_succ hx HN.out (fun q => by have := q.2.2; simp only at this; omega))
              clear hx hv ho hw
              go_wp2_with (first | (go_at_call 51; (refine (rIsWindow_any (x, y, z) _).mono ?_); rw [HV.out]; rintro e w' ⟨rfl, rfl⟩) | (go_at_call 75; (refine (rOn_any (x, y, z) _ _ HV.out hd).mono ?_); rw [HO.out]; rintro e w3 ⟨rfl, hb3⟩; have q1 := (hb3.cell (p := ⟨b, off + k * 3 + 1, none⟩) (by simp; omega)).trans ((World.cell?_alloc_lt wr _ ⟨b, off + k * 3 + 1, none⟩ hbw).trans d1)))
              go_roundw
              case rel => exact ⟨k + 1, by omega, by go_num, R, hb2.st (by assumption)⟩
              case measure => simp [intOf]; omega
      · obtain rfl : k = hs.length := by omega
        have R := Lib.hid (Hno.out HN.out)
        go_wp2
        go_ret
        rw [R.out]
        exact ⟨rfl, hbr⟩

end Go.Proofs.Ytfilfdkbchkpmaa
