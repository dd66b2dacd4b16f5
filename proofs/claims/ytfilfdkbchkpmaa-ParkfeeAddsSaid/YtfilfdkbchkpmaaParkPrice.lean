/- The reference's Price and Steps, walked. -/
import Derived.Test.YtfilfdkbchkpmaaParkSteps
import Derived.Test.YtfilfdkbchkpmaaZoneRCheck
namespace Go.Proofs.Ytfilfdkbchkpmaa
open Go.RowKit Go.Lib

def priceN (ss : List Wn) (s : Int) : Int := if V ss s ≤ 1125899906842624 then V ss s else 0
def priceB (ss : List Wn) (s : Int) : Bool := decide (V ss s ≤ 1125899906842624)
theorem price_ok {ss : List Wn} {s : Int} (h : V ss s ≤ 1125899906842624) : priceN ss s = V ss s ∧ priceB ss s = true := ⟨if_pos h, decide_eq_true h⟩
theorem price_no {ss : List Wn} {s : Int} (h : 1125899906842624 < V ss s) : priceN ss s = 0 ∧ priceB ss s = false := ⟨if_neg (by omega), decide_eq_false (by omega)⟩
theorem lim_nonneg {ss : List Wn} (h : StOk ss) {k : Nat} (hk : k < ss.length) : 0 ≤ lim ss k ∧ lim ss k ≤ 68719476736 := by
  unfold lim prevU
  split
  · omega
  · rename_i hk0
    obtain ⟨y', hy'⟩ : ∃ y', ss[k - 1]? = some y' := ⟨_, List.getElem?_eq_getElem (by omega)⟩
    have := h.up (k - 1) y' hy' (by omega)
    rw [hy']
    simp
    omega

set_option maxRecDepth 100000 in
set_option maxHeartbeats 4000000 in
theorem price_any (z : Zn) {s : Int} {w : World} (h : ZOk w z) (St : StOk z.ss) (hr0 : 0 ≤ s) (hr1 : s ≤ 68719476736) :
    Calls Try.prog 27 #[ZV z, .int .i64 s] w fun e w' => e = .returned (.tuple #[.int .i64 (priceN z.ss s), .bool (priceB z.ss s)]) ∧ Below w.heap.size w w' := by
  obtain ⟨nm, hA, hc, hs, sA, sc, ss, gr, fr, dm, ms⟩ := z
  have h2 : Rd encW 3 w w.heap.size sA ss := h.2
  clear h
  simp only [ZV] at *
  have hb1 : Below w.heap.size w (w.alloc (.cells #[.string nm, .slice hA hs.length hc, .slice sA ss.length sc, .int .i64 gr, .int .i64 fr, .int .i64 dm, .int .i64 ms] 25)) := (Below.refl _ w).al _
  have ok' := Lib.hid (@price_ok ss s)
  have no' := Lib.hid (@price_no ss s)
  generalize priceN ss s = rn at *
  generalize priceB ss s = rb at *
  have ST : Hid (StOk ss) := St
  have hlen : ss.length ≤ 16 := St.len
  have h2' := h2.st hb1
  have hz0 : w.heap.size < (w.alloc (.cells #[.string nm, .slice hA hs.length hc, .slice sA ss.length sc, .int .i64 gr, .int .i64 fr, .int .i64 dm, .int .i64 ms] 25)).heap.size := by simp
  have b2 : (w.alloc (.cells #[.string nm, .slice hA hs.length hc, .slice sA ss.length sc, .int .i64 gr, .int .i64 fr, .int .i64 dm, .int .i64 ms] 25)).cell? ⟨w.heap.size, 2, none⟩ = some (.slice sA ss.length sc) := by simp
  clear St h2
  go_enter Try.func27, Try.ntmps27
  go_wp2_with fail
  go_loopw [6, 7, 8] (fun v f i wr => ∃ (k : Nat) (p g : Int), k ≤ ss.length ∧ i = .int .i64 k ∧ v = .int .i64 p ∧ f = .int .i64 g ∧ Hid (k < ss.length → g = lim ss k) ∧ Hid (p + val (ss.drop k) (lim ss k) s = V ss s) ∧ 0 ≤ p ∧ p ≤ 1125899906842624 ∧ Below (w.alloc (.cells #[.string nm, .slice hA hs.length hc, .slice sA ss.length sc, .int .i64 gr, .int .i64 fr, .int .i64 dm, .int .i64 ms] 25)).heap.size (w.alloc (.cells #[.string nm, .slice hA hs.length hc, .slice sA ss.length sc, .int .i64 gr, .int .i64 fr, .int .i64 dm, .int .i64 ms] 25)) wr) (fun _ _ i _ => ss.length - (intOf i).toNat)
  case atStart => exact ⟨0, 0, 0, Nat.zero_le _, rfl, rfl, rfl, (fun _ => lim_zero ss), (by unfold Hid V; rw [lim_zero]; simp), by omega, by omega, Below.refl _ _⟩
  case round =>
    obtain ⟨k, p, g, hk, rfl, rfl, rfl, HG, HP, hp0, hp1, hbr⟩ := hrel
    have bel := hb1.st hbr
    have c2 := (hbr.cell (p := ⟨w.heap.size, 2, none⟩) hz0).trans b2
    have hzr : w.heap.size < wr.heap.size := Nat.lt_of_lt_of_le hz0 hbr.size
    by_cases hi : k < ss.length
    · obtain ⟨b, off, x, y, c, rfl, hb, hx, d0, d1, d2⟩ := (h2'.keep hbr).w3 hi
      have hi2 : (k : Int) < (ss.length : Int) := by omega
      obtain ⟨y1, y2, c1, c3⟩ := ST.out.ok _ (List.mem_of_getElem? hx)
      simp only at y1 y2 c1 c3
      have hbA := hbr.al (.cells #[.int .i64 x, .int .i64 y, .int .i64 c] 53)
      have belA := hb1.st hbA
      obtain ⟨hg0, hg1⟩ := lim_nonneg ST.out hi
      rw [← HG.out hi] at hg0 hg1
      -- the part of the step: q seconds; the next limit: n
      obtain ⟨q, n, hq, hqs, hval, hlim, hx1⟩ : ∃ q n, (if k + 1 < ss.length then min (s - g) (x - g) = q ∧ x = n else s - g = q ∧ g = n) ∧ q ≤ s - g ∧ (p + piece (x, y, c) q + val (ss.drop (k + 1)) (lim ss (k + 1)) s = V ss s) ∧ (k + 1 < ss.length → n = lim ss (k + 1)) ∧ (k + 1 < ss.length → g < x ∧ x ≤ 68719476736) := by
        have hg' := HG.out hi
        by_cases hl : k + 1 < ss.length
        · have hup := ST.out.up k _ hx hl
          simp only at hup
          have e1 := V_on hx hl HP.out
          rw [← hg'] at e1 hup
          simp only at e1
          refine ⟨min (s - g) (x - g), x, by rw [if_pos hl]; exact ⟨rfl, rfl⟩, by omega, ?_, fun _ => by rw [lim_succ hx], fun _ => by omega⟩
          rw [show min (s - g) (x - g) = min s x - g by omega]
          exact e1
        · have e1 := V_last hx hl HP.out
          rw [← hg'] at e1
          refine ⟨s - g, g, by rw [if_neg hl]; exact ⟨rfl, rfl⟩, by omega, ?_, fun q => absurd q hl, fun q => absurd q hl⟩
          rw [List.drop_eq_nil_of_le (by omega), val]
          omega
      have hD := drop_ok ST.out (k + 1) (lim ss (k + 1)) s
      have hN := piece_nonneg (x := (x, y, c)) q ⟨y1, y2, c1, c3⟩
      have HP0 := Lib.hid (fun hq => piece_zero (x := (x, y, c)) (p := q) hq)
      have HP1 := Lib.hid (fun hq => piece_pos (x := (x, y, c)) (p := q) hq)
      have HU := Lib.hid (fun hq => units_pos (x := (x, y, c)) (p := q) hq ⟨y1, y2, c1, c3⟩)
      have hqr : q ≤ 68719476736 := by omega
      have hqn : -68719476736 ≤ q := by split at hq <;> omega
      generalize piece (x, y, c) q = pc at *
      generalize hrest : val (ss.drop (k + 1)) (lim ss (k + 1)) s = rest at *
      have HV0 : Hid (p + pc + val (ss.drop (k + 1)) (lim ss (k + 1)) s = V ss s) := by rw [hrest]; exact hval
      have HV1 := Lib.hid hval
      have HL := Lib.hid hlim
      have HQ := Lib.hid hq
      have HD := Lib.hid hD
      have HX := Lib.hid hx1
      clear hval hlim hq hD hrest HG HP hx hx1
      by_cases hq0 : q ≤ 0
      · have HV : Hid (p + val (ss.drop (k + 1)) (lim ss (k + 1)) s = V ss s) := by have := HV0.out; have := HP0.out hq0; unfold Hid; omega
        by_cases hl : k + 1 < ss.length
        · have hl2 : (k : Int) + 1 < (ss.length : Int) := (by omega); obtain ⟨hmin, rfl⟩ : min (s - g) (x - g) = q ∧ x = n := (by have := HQ.out; rwa [if_pos hl] at this); obtain ⟨hx1, hx2⟩ := HX.out hl; 
          go_wp2; go_roundw; (case rel => exact ⟨k + 1, _, _, by omega, by go_num, rfl, rfl, HL.out, HV.out, by omega, by omega, hbA⟩); (case measure => simp [intOf]; omega)
        · have hl2 : ¬ (k : Int) + 1 < (ss.length : Int) := (by omega); obtain ⟨hmin, rfl⟩ : s - g = q ∧ g = n := (by have := HQ.out; rwa [if_neg hl] at this); 
          go_wp2; go_roundw; (case rel => exact ⟨k + 1, _, _, by omega, by go_num, rfl, rfl, HL.out, HV.out, by omega, by omega, hbA⟩); (case measure => simp [intOf]; omega)
      · have hq1 : 0 ≤ q - 1 := by omega
        have HPc := Lib.hid (HP1.out (by omega))
        obtain ⟨hu0, hu1⟩ : 1 ≤ (q - 1) / y + 1 ∧ (q - 1) / y + 1 ≤ q := HU.out (by omega)
        have hu2 : (q - 1) / y + 1 ≤ 68719476736 := by omega
        have hu3 : 0 ≤ (q - 1) / y := by omega
        have hy0 : y ≠ 0 := by omega
        by_cases hc0 : c = 0
        · have HV : Hid (p + val (ss.drop (k + 1)) (lim ss (k + 1)) s = V ss s) := by have := HV0.out; have h5 := HPc.out; rw [hc0, Int.mul_zero] at h5; unfold Hid; omega
          subst hc0
          by_cases hl : k + 1 < ss.length
          · have hl2 : (k : Int) + 1 < (ss.length : Int) := (by omega); obtain ⟨hmin, rfl⟩ : min (s - g) (x - g) = q ∧ x = n := (by have := HQ.out; rwa [if_pos hl] at this); obtain ⟨hx1, hx2⟩ := HX.out hl; 
            go_wp2; go_roundw; (case rel => exact ⟨k + 1, _, _, by omega, by go_num, rfl, rfl, HL.out, HV.out, by omega, by omega, hbA⟩); (case measure => simp [intOf]; omega)
          · have hl2 : ¬ (k : Int) + 1 < (ss.length : Int) := (by omega); obtain ⟨hmin, rfl⟩ : s - g = q ∧ g = n := (by have := HQ.out; rwa [if_neg hl] at this); 
            go_wp2; go_roundw; (case rel => exact ⟨k + 1, _, _, by omega, by go_num, rfl, rfl, HL.out, HV.out, by omega, by omega, hbA⟩); (case measure => simp [intOf]; omega)
        · have hc1 : 0 < c := by omega
          by_cases hu : 1125899906842624 / c < (q - 1) / y + 1
          · have hbig : 1125899906842624 < ((q - 1) / y + 1) * c := (Int.ediv_lt_iff_lt_mul hc1).1 hu
            obtain ⟨rfl, rfl⟩ := no'.out (by have h5 := HPc.out; have := HV1.out; have := HD.out; simp only at h5; omega)
            by_cases hl : k + 1 < ss.length
            · have hl2 : (k : Int) + 1 < (ss.length : Int) := (by omega); obtain ⟨hmin, rfl⟩ : min (s - g) (x - g) = q ∧ x = n := (by have := HQ.out; rwa [if_pos hl] at this); obtain ⟨hx1, hx2⟩ := HX.out hl; 
              go_wp2; all_goals (go_ret2; exact ⟨rfl, belA⟩)
            · have hl2 : ¬ (k : Int) + 1 < (ss.length : Int) := (by omega); obtain ⟨hmin, rfl⟩ : s - g = q ∧ g = n := (by have := HQ.out; rwa [if_neg hl] at this); 
              go_wp2; all_goals (go_ret2; exact ⟨rfl, belA⟩)
          · have hm1 : ((q - 1) / y + 1) * c ≤ 1125899906842624 := by have := mt (Int.ediv_lt_iff_lt_mul hc1).2 hu; omega
            have hm0 : 0 ≤ ((q - 1) / y + 1) * c := Int.mul_nonneg (by omega) c1
            by_cases hs : p + ((q - 1) / y + 1) * c ≤ 1125899906842624
            · have HV : Hid (p + ((q - 1) / y + 1) * c + val (ss.drop (k + 1)) (lim ss (k + 1)) s = V ss s) := by rw [← show pc = ((q - 1) / y + 1) * c from HPc.out]; exact HV0.out
              by_cases hl : k + 1 < ss.length
              · have hl2 : (k : Int) + 1 < (ss.length : Int) := (by omega); obtain ⟨hmin, rfl⟩ : min (s - g) (x - g) = q ∧ x = n := (by have := HQ.out; rwa [if_pos hl] at this); obtain ⟨hx1, hx2⟩ := HX.out hl; 
                go_wp2; go_roundw; (case rel => exact ⟨k + 1, _, _, by omega, by go_num, rfl, rfl, HL.out, HV.out, by omega, by omega, hbA⟩); (case measure => simp [intOf]; omega)
              · have hl2 : ¬ (k : Int) + 1 < (ss.length : Int) := (by omega); obtain ⟨hmin, rfl⟩ : s - g = q ∧ g = n := (by have := HQ.out; rwa [if_neg hl] at this); 
                go_wp2; go_roundw; (case rel => exact ⟨k + 1, _, _, by omega, by go_num, rfl, rfl, HL.out, HV.out, by omega, by omega, hbA⟩); (case measure => simp [intOf]; omega)
            · obtain ⟨rfl, rfl⟩ := no'.out (by have h5 := HPc.out; have := HV1.out; have := HD.out; simp only at h5; omega)
              by_cases hl : k + 1 < ss.length
              · have hl2 : (k : Int) + 1 < (ss.length : Int) := (by omega); obtain ⟨hmin, rfl⟩ : min (s - g) (x - g) = q ∧ x = n := (by have := HQ.out; rwa [if_pos hl] at this); obtain ⟨hx1, hx2⟩ := HX.out hl; 
                go_wp2; all_goals (go_ret2; exact ⟨rfl, belA⟩)
              · have hl2 : ¬ (k : Int) + 1 < (ss.length : Int) := (by omega); obtain ⟨hmin, rfl⟩ : s - g = q ∧ g = n := (by have := HQ.out; rwa [if_neg hl] at this); 
                go_wp2; all_goals (go_ret2; exact ⟨rfl, belA⟩)
    · obtain rfl : k = ss.length := by omega
      have E0 : Hid (p = V ss s) := by have := HP.out; rw [List.drop_eq_nil_of_le (Nat.le_refl _), val] at this; unfold Hid; omega
      obtain ⟨rfl, rfl⟩ := ok'.out (by have := E0.out; omega)
      clear HG HP ok' no'
      go_wp2
      all_goals (go_ret2; rw [← E0.out]; exact ⟨rfl, bel⟩)

set_option maxRecDepth 100000 in
set_option maxHeartbeats 4000000 in
theorem rsteps_any (z : Zn) (s : Int) {w : World} (h : ZOk w z) :
    Calls Try.prog 12 #[ZV z, .int .i64 s] w fun e w' => e = .returned (.tuple #[.int .i64 (stepsPN z s), .int .i64 (stepsPE z s)]) ∧ Below w.heap.size w w' := by
  have C := Lib.hid (fun (W : World) (hW : Below w.heap.size w W) => rcheck_any z (h.st hW))
  have CP := Lib.hid (fun (W : World) (hW : Below w.heap.size w W) (st : StOk z.ss) (p : 0 ≤ s) (q : s ≤ 68719476736) => price_any z (h.st hW) st p q)
  have f1 := Lib.hid (fun hc => stepsP_1 (z := z) hc s)
  have f2 := Lib.hid (@stepsP_2 z s)
  have f13 := Lib.hid (@stepsP_13 z s)
  have f0 := Lib.hid (@stepsP_0 z s)
  have st := Lib.hid (@check_st z)
  have ok' := Lib.hid (@price_ok z.ss s)
  have no' := Lib.hid (@price_no z.ss s)
  generalize stepsPN z s = rn at *
  generalize stepsPE z s = re at *
  generalize checkE z = ce at *
  clear h
  by_cases hce : ce = 0
  · subst hce
    by_cases hr : s < 0 ∨ 68719476736 < s
    · obtain ⟨rfl, rfl⟩ := f2.out rfl hr
      clear f1 f2 f13 f0 st CP ok' no'
      obtain ⟨nm, hA, hc, hs, sA, sc, ss, gr, fr, dm, ms⟩ := z
      simp only [ZV] at *
      have hb1 : Below w.heap.size w (w.alloc (.cells #[.string nm, .slice hA hs.length hc, .slice sA ss.length sc, .int .i64 gr, .int .i64 fr, .int .i64 dm, .int .i64 ms] 25)) := (Below.refl _ w).al _
      rcases hr with hr | hr
      · go_enter Try.func12, Try.ntmps12
        go_wp2_with (go_at_call 26; (refine (C.out _ hb1).mono ?_); rintro e w1 ⟨rfl, hb2⟩)
        all_goals (go_ret2; exact ⟨rfl, hb1.st hb2⟩)
      · have hr' : 0 ≤ s := by omega
        go_enter Try.func12, Try.ntmps12
        go_wp2_with (go_at_call 26; (refine (C.out _ hb1).mono ?_); rintro e w1 ⟨rfl, hb2⟩)
        all_goals (go_ret2; exact ⟨rfl, hb1.st hb2⟩)
    · obtain ⟨hr0, hr1⟩ : 0 ≤ s ∧ s ≤ 68719476736 := by omega
      obtain ⟨St, -⟩ := st.out rfl
      have CP' : Hid (∀ (W : World), Below w.heap.size w W → _) := Lib.hid (fun W hW => CP.out W hW St hr0 hr1)
      have f0' := Lib.hid (f0.out rfl ⟨hr0, hr1⟩)
      have f13' := Lib.hid (f13.out rfl ⟨hr0, hr1⟩)
      clear f1 f2 f13 f0 st CP hr St
      by_cases hv : V z.ss s ≤ 1125899906842624
      · obtain ⟨rfl, rfl⟩ := f0'.out hv
        obtain ⟨e1, e2⟩ := ok'.out hv
        rw [e1, e2] at CP'
        clear f0' f13' ok' no' e1 e2
        generalize V z.ss s = v at *
        obtain ⟨nm, hA, hc, hs, sA, sc, ss, gr, fr, dm, ms⟩ := z
        simp only [ZV] at *
        have hb1 : Below w.heap.size w (w.alloc (.cells #[.string nm, .slice hA hs.length hc, .slice sA ss.length sc, .int .i64 gr, .int .i64 fr, .int .i64 dm, .int .i64 ms] 25)) := (Below.refl _ w).al _
        go_enter Try.func12, Try.ntmps12
        go_wp2_with fail
        refine (C.out _ hb1).mono ?_
        rintro e w1 ⟨rfl, hb2⟩
        have hbw := hb1.st hb2
        have c0 : w1.cell? ⟨w.heap.size, 0, none⟩ = some (.string nm) := box_cell hb2 (by simp) 0 _ rfl; have c1 : w1.cell? ⟨w.heap.size, 1, none⟩ = some (.slice hA hs.length hc) := box_cell hb2 (by simp) 1 _ rfl; have c2 : w1.cell? ⟨w.heap.size, 2, none⟩ = some (.slice sA ss.length sc) := box_cell hb2 (by simp) 2 _ rfl; have c3 : w1.cell? ⟨w.heap.size, 3, none⟩ = some (.int .i64 gr) := box_cell hb2 (by simp) 3 _ rfl; have c4 : w1.cell? ⟨w.heap.size, 4, none⟩ = some (.int .i64 fr) := box_cell hb2 (by simp) 4 _ rfl; have c5 : w1.cell? ⟨w.heap.size, 5, none⟩ = some (.int .i64 dm) := box_cell hb2 (by simp) 5 _ rfl; have c6 : w1.cell? ⟨w.heap.size, 6, none⟩ = some (.int .i64 ms) := box_cell hb2 (by simp) 6 _ rfl
        go_wp2_with (go_at_call 27; (refine (CP'.out _ hbw).mono ?_); rintro e w2 ⟨rfl, hb3⟩)
        all_goals (go_ret2; exact ⟨rfl, hbw.st hb3⟩)
      · obtain ⟨rfl, rfl⟩ := f13'.out (by omega)
        obtain ⟨e1, e2⟩ := no'.out (by omega)
        rw [e1, e2] at CP'
        clear f0' f13' ok' no' e1 e2 hv
        obtain ⟨nm, hA, hc, hs, sA, sc, ss, gr, fr, dm, ms⟩ := z
        simp only [ZV] at *
        have hb1 : Below w.heap.size w (w.alloc (.cells #[.string nm, .slice hA hs.length hc, .slice sA ss.length sc, .int .i64 gr, .int .i64 fr, .int .i64 dm, .int .i64 ms] 25)) := (Below.refl _ w).al _
        go_enter Try.func12, Try.ntmps12
        go_wp2_with fail
        refine (C.out _ hb1).mono ?_
        rintro e w1 ⟨rfl, hb2⟩
        have hbw := hb1.st hb2
        have c0 : w1.cell? ⟨w.heap.size, 0, none⟩ = some (.string nm) := box_cell hb2 (by simp) 0 _ rfl; have c1 : w1.cell? ⟨w.heap.size, 1, none⟩ = some (.slice hA hs.length hc) := box_cell hb2 (by simp) 1 _ rfl; have c2 : w1.cell? ⟨w.heap.size, 2, none⟩ = some (.slice sA ss.length sc) := box_cell hb2 (by simp) 2 _ rfl; have c3 : w1.cell? ⟨w.heap.size, 3, none⟩ = some (.int .i64 gr) := box_cell hb2 (by simp) 3 _ rfl; have c4 : w1.cell? ⟨w.heap.size, 4, none⟩ = some (.int .i64 fr) := box_cell hb2 (by simp) 4 _ rfl; have c5 : w1.cell? ⟨w.heap.size, 5, none⟩ = some (.int .i64 dm) := box_cell hb2 (by simp) 5 _ rfl; have c6 : w1.cell? ⟨w.heap.size, 6, none⟩ = some (.int .i64 ms) := box_cell hb2 (by simp) 6 _ rfl
        go_wp2_with (go_at_call 27; (refine (CP'.out _ hbw).mono ?_); rintro e w2 ⟨rfl, hb3⟩)
        all_goals (go_ret2; exact ⟨rfl, hbw.st hb3⟩)
  · obtain ⟨rfl, rfl⟩ := f1.out hce
    clear f1 f2 f13 f0 st CP ok' no'
    obtain ⟨nm, hA, hc, hs, sA, sc, ss, gr, fr, dm, ms⟩ := z
    simp only [ZV] at *
    have hb1 : Below w.heap.size w (w.alloc (.cells #[.string nm, .slice hA hs.length hc, .slice sA ss.length sc, .int .i64 gr, .int .i64 fr, .int .i64 dm, .int .i64 ms] 25)) := (Below.refl _ w).al _
    go_enter Try.func12, Try.ntmps12
    go_wp2_with (go_at_call 26; (refine (C.out _ hb1).mono ?_); rintro e w1 ⟨rfl, hb2⟩)
    all_goals (go_ret2; exact ⟨rfl, hb1.st hb2⟩)
end Go.Proofs.Ytfilfdkbchkpmaa
