/- The reference's days, walked. -/
import Derived.Test.YtcpfiiapfggmpaaGreatJParkDMath
import Derived.Test.YtcpfiiapfggmpaaGreatParkDays
namespace Go.Proofs.YtcpfiiapfggmpaaGreat
open Go.RowKit Go.Lib

def okD (z : Zn) (a b : Int) : Bool := decide (V z.ss (U z.hs a b) ≤ 1125899906842624)
def lD (z : Zn) (a b : Int) : List Int := if V z.ss (U z.hs a b) ≤ 1125899906842624 then feesL z a b else []
/-- what the reference's days answers -/
def RDayR (z : Zn) (a b : Int) (w w' : World) (e : Ending) : Prop :=
  ∃ A c, e = .returned (.tuple #[.slice A (lD z a b).length c, .bool (okD z a b)]) ∧ Rd encI 1 w' w'.heap.size A (lD z a b) ∧ Below w.heap.size w w'
theorem RDayR.no {z : Zn} {a b : Int} {w w' : World} (h : ¬ V z.ss (U z.hs a b) ≤ 1125899906842624) (hb : Below w.heap.size w w') : RDayR z a b w w' (.returned (.tuple #[.slice none 0 0, .bool false])) := by
  refine ⟨none, 0, ?_, ?_, hb⟩
  · unfold lD okD; rw [if_neg h, decide_eq_false h]; rfl
  · unfold lD; rw [if_neg h]; exact Rd.nil
theorem RDayR.yes {z : Zn} {a b : Int} {w w' : World} {A : Option Addr} {c : Nat} (h : V z.ss (U z.hs a b) ≤ 1125899906842624) (hr : Rd encI 1 w' w'.heap.size A (feesL z a b)) (hb : Below w.heap.size w w') : RDayR z a b w w' (.returned (.tuple #[.slice A (feesL z a b).length c, .bool true])) := by
  refine ⟨A, c, ?_, ?_, hb⟩
  · unfold lD okD; rw [if_pos h, decide_eq_true h]
  · unfold lD; rw [if_pos h]; exact hr
/-- the price of the seconds before day d -/
def vDay (z : Zn) (a b d : Int) : Int := V z.ss (U z.hs a (min (86400 * d) b))
theorem vDay_do {z : Zn} {a b d : Int} {l : List Iv} {k : Nat} {s : Int} (hE : EnfL z.hs a b l) (hd : 0 ≤ d) (h : DO l (86400 * d) k s) : V z.ss s = vDay z a b d := by
  unfold vDay
  rw [h.2.1, hE.lenB (by omega)]

set_option maxRecDepth 100000 in
set_option maxHeartbeats 8000000 in
theorem rdays28_any (z : Zn) (a b : Int) {A : Option Addr} (c : Nat) {l : List Iv} {w : World} (h : ZOk w z) (hl : Rd encIv 2 w w.heap.size A l) (hE : EnfL z.hs a b l) (hd : daysE a b = 0) (hc : checkE z = 0) :
    Calls Tryz.prog 88 #[ZV z, .agg #[.int .i64 a, .int .i64 b], .slice A l.length c] w fun e w' => RDayR z a b w w' e := by
  obtain ⟨hr0, hr1, hr2, hr3⟩ := daysE_rng hd
  obtain ⟨hn0, hn1, hn2, hn3⟩ := days_last hd
  have St := (check_st hc).1
  have hll := hE.1.length_max
  have hdm := (check_st hc).2.2.2.2.2
  have hdm0 : 0 ≤ z.dayMax := hdm.1
  have hdm1 : z.dayMax ≤ 1125899906842624 := hdm.2
  have HV := Lib.hid (fun (d : Int) k s (hd0 : 0 ≤ d) (q : DO l (86400 * d) k s) => vDay_do (z := z) hE hd0 q)
  have HB : Hid (∀ d : Int, 0 ≤ vDay z a b d ∧ vDay z a b d ≤ V z.ss (U z.hs a b)) := fun d => ⟨V_nonneg St _, V_mono St (U_mono z.hs a (by omega))⟩
  have HL : Hid (∀ d : Int, (b - 1) / 86400 < d → vDay z a b d = V z.ss (U z.hs a b)) := fun d hd => by unfold vDay; rw [show min (86400 * d) b = b by omega]
  have HN := Lib.hid hE.1
  have HZ : Hid (vDay z a b (a / 86400) = 0) := by unfold Hid vDay; rw [U_zero z.hs (by omega), V_zero St]
  have H0 : Hid (DO l (86400 * (a / 86400)) 0 0) := DO.first fun x hx => by have := hE.ends hx; omega
  have HR : Hid (∀ T k s, DI l T (T + 86400) k s → 0 ≤ T → 0 ≤ s ∧ s ≤ 68719476736) := fun T k s q hT => by
    have r := q.range hE.1 (by omega)
    have e := hE.lenB (t := T + 86400) (by omega)
    have u := U_le z.hs a (b := min (T + 86400) b) (by omega)
    omega
  have HR2 : Hid (∀ T k s, DO l T k s → 0 ≤ T → 0 ≤ s ∧ s ≤ 68719476736) := fun T k s q hT => by
    have e := hE.lenB (t := T) hT
    have u := U_le z.hs a (b := min T b) (by omega)
    have v := U_nonneg z.hs a (min T b)
    have := q.2.1
    omega
  have HP := Lib.hid (fun (X : World) (hX : Below w.heap.size w X) (s : Int) (h0 : 0 ≤ s) (h1 : s ≤ 68719476736) => price_any z (s := s) (h.st hX) St h0 h1)
  have HT := Lib.hid (fun k (hk : k < dayN a b) => feesL_take (z := z) hk)
  have HF : Hid (∀ d, feeD z a b d = capD z.dayMax (vDay z a b (d + 1) - vDay z a b d)) := fun d => rfl
  have HLen := Lib.hid (feesL_length z a b)
  have HYes := Lib.hid (fun (A' : Option Addr) (c' : Nat) (X : World) (hv : V z.ss (U z.hs a b) ≤ 1125899906842624) (hX : Below w.heap.size w X) (hrX : Rd encI 1 X X.heap.size A' (feesL z a b)) => RDayR.yes (z := z) (w := w) (w' := X) (a := a) (b := b) (A := A') (c := c') hv hrX hX)
  have HNo := Lib.hid (fun (X : World) (hv : ¬ V z.ss (U z.hs a b) ≤ 1125899906842624) (hX : Below w.heap.size w X) => RDayR.no (z := z) (w := w) (w' := X) (a := a) (b := b) hv hX)
  generalize RDayR z a b = RR at *
  have HV1 : Hid (∀ (s : Int), priceN z.ss s = (if V z.ss s ≤ 1125899906842624 then V z.ss s else 0) ∧ priceB z.ss s = decide (V z.ss s ≤ 1125899906842624)) := fun s => ⟨rfl, rfl⟩
  generalize V z.ss (U z.hs a b) = VV at *
  generalize hFL : feesL z a b = L at *
  clear hFL
  generalize vDay z a b = vd at *
  generalize feeD z a b = fd at *
  have HP2 : Hid (∀ (X : World), Below w.heap.size w X → ∀ s : Int, 0 ≤ s → s ≤ 68719476736 → ∀ d k, 0 ≤ d → DO l (86400 * d) k s → (vd d ≤ 1125899906842624 → Calls Tryz.prog 124 #[ZV z, .int .i64 s] X fun e w' => e = .returned (.tuple #[.int .i64 (vd d), .bool true]) ∧ Below X.heap.size X w') ∧ (1125899906842624 < vd d → Calls Tryz.prog 124 #[ZV z, .int .i64 s] X fun e w' => e = .returned (.tuple #[.int .i64 0, .bool false]) ∧ Below X.heap.size X w')) := by
    intro X hX s h0 h1 d k hd0 q
    have e := HP.out X hX s h0 h1
    rw [(HV1.out s).1, (HV1.out s).2, HV.out d k s hd0 q] at e
    refine ⟨fun r => ?_, fun r => ?_⟩
    · rwa [if_pos r, decide_eq_true r] at e
    · rwa [if_neg (by omega), decide_eq_false (by omega)] at e
  have Hl := Lib.hid hl
  clear HP HV1 h hl hE hc St hdm HV
  generalize dayN a b = N at *
  have hda : a / 86400 * 86400 ≤ a := by omega
  have hdb : (b - 1) / 86400 * 86400 ≤ b - 1 := by omega
  generalize hd0e : a / 86400 = d0 at *
  generalize hd1e : (b - 1) / 86400 = d1 at *
  clear hd
  obtain ⟨nm, hA, hc', hs, sA, sc, ss, gr, fr, dm, ms⟩ := z
  simp only [ZV] at *
  obtain ⟨Y1, hY1⟩ : ∃ Y, w.alloc (.cells #[.string nm, .slice hA hs.length hc', .slice sA ss.length sc, .int .i64 gr, .int .i64 fr, .int .i64 dm, .int .i64 ms] 76) = Y := ⟨_, rfl⟩; obtain ⟨Y2, hY2⟩ : ∃ Y, Y1.alloc (.cells #[.int .i64 a, .int .i64 b] 59) = Y := ⟨_, rfl⟩; have bW : Below w.heap.size w Y2 := (by rw [← hY2, ← hY1]; exact ((Below.refl _ w).al _).al _); have sY1 : Y1.heap.size = w.heap.size + 1 := (by rw [← hY1]; simp); have bZ : Blk Y2 w.heap.size #[.string nm, .slice hA hs.length hc', .slice sA ss.length sc, .int .i64 gr, .int .i64 fr, .int .i64 dm, .int .i64 ms] 76 := (by rw [← hY2, ← hY1]; exact (Blk.new w _ _).alloc _); have bI : Blk Y2 (w.heap.size + 1) #[.int .i64 a, .int .i64 b] 59 := (by rw [← hY2, ← sY1]; exact Blk.new Y1 _ _); have q0 : World.cell? Y2 ⟨w.heap.size, 0, none⟩ = some (.string nm) := bZ.cell 0 rfl; have q1 : World.cell? Y2 ⟨w.heap.size, 1, none⟩ = some (.slice hA hs.length hc') := bZ.cell 1 rfl; have q2 : World.cell? Y2 ⟨w.heap.size, 2, none⟩ = some (.slice sA ss.length sc) := bZ.cell 2 rfl; have q3 : World.cell? Y2 ⟨w.heap.size, 3, none⟩ = some (.int .i64 gr) := bZ.cell 3 rfl; have q4 : World.cell? Y2 ⟨w.heap.size, 4, none⟩ = some (.int .i64 fr) := bZ.cell 4 rfl; have q5 : World.cell? Y2 ⟨w.heap.size, 5, none⟩ = some (.int .i64 dm) := bZ.cell 5 rfl; have q6 : World.cell? Y2 ⟨w.heap.size, 6, none⟩ = some (.int .i64 ms) := bZ.cell 6 rfl; have p0 : World.cell? Y2 ⟨w.heap.size + 1, 0, none⟩ = some (.int .i64 a) := bI.cell 0 rfl; have p1 : World.cell? Y2 ⟨w.heap.size + 1, 1, none⟩ = some (.int .i64 b) := bI.cell 1 rfl
  go_enter Tryz.func88, Tryz.ntmps88
  go_wp2_with fail
  go_loopw [8, 9, 10, 11, 12] (fun v kk sv p dv wr => ∃ (n k : Nat) (s pv : Int) (A' : Option Addr) (c' : Nat) (o : List Int), n ≤ N ∧ dv = .int .i64 (d0 + n) ∧ Hid (L.take n = o) ∧ Hid (o.length = n) ∧ v = .slice A' o.length c' ∧ kk = .int .i64 k ∧ k ≤ l.length ∧ sv = .int .i64 s ∧ 0 ≤ s ∧ s ≤ 68719476736 ∧ p = .int .i64 pv ∧ Hid (pv = vd (d0 + n)) ∧ 0 ≤ pv ∧ pv ≤ 1125899906842624 ∧ Hid (DO l (86400 * (d0 + n)) k s) ∧ Own 3 encI 1 wr Y2.heap.size A' c' o ∧ Below Y2.heap.size Y2 wr) (fun _ _ _ _ dv _ => (d1 + 1 - RowKit.intOf dv).toNat)
  case atStart => exact ⟨0, 0, 0, 0, none, 0, [], Nat.zero_le _, by simp, rfl, rfl, rfl, rfl, Nat.zero_le _, rfl, by omega, by omega, rfl, (by have := HZ.out; unfold Hid; simp; omega), by omega, by omega, (by have := H0.out; unfold Hid; simpa using this), Own.nil _ _, Below.refl _ _⟩
  case round =>
    obtain ⟨n, k, s, pv, A', c', o, hn, rfl, HO, HOL, rfl, rfl, hk, rfl, hs0, hs1, rfl, HPV, hp0, hp1, HDO, hown, hbr⟩ := hrel
    obtain ⟨wo, rfl⟩ : ∃ wo, wo = wr := ⟨_, rfl⟩
    have hol : o.length ≤ 366 := by have := HOL.out; omega
    have hbn := hbr
    have bW : Below w.heap.size w wo := (by first | exact bW.st hbn | exact bW.drew.st hbn); have bZ : Blk wo w.heap.size #[.string nm, .slice hA hs.length hc', .slice sA ss.length sc, .int .i64 gr, .int .i64 fr, .int .i64 dm, .int .i64 ms] 76 := (by first | exact bZ.below hbn bZ.lt | exact bZ.drew.below hbn bZ.lt); have bI : Blk wo (w.heap.size + 1) #[.int .i64 a, .int .i64 b] 59 := (by first | exact bI.below hbn bI.lt | exact bI.drew.below hbn bI.lt); have q0 : World.cell? wo ⟨w.heap.size, 0, none⟩ = some (.string nm) := bZ.cell 0 rfl; have q1 : World.cell? wo ⟨w.heap.size, 1, none⟩ = some (.slice hA hs.length hc') := bZ.cell 1 rfl; have q2 : World.cell? wo ⟨w.heap.size, 2, none⟩ = some (.slice sA ss.length sc) := bZ.cell 2 rfl; have q3 : World.cell? wo ⟨w.heap.size, 3, none⟩ = some (.int .i64 gr) := bZ.cell 3 rfl; have q4 : World.cell? wo ⟨w.heap.size, 4, none⟩ = some (.int .i64 fr) := bZ.cell 4 rfl; have q5 : World.cell? wo ⟨w.heap.size, 5, none⟩ = some (.int .i64 dm) := bZ.cell 5 rfl; have q6 : World.cell? wo ⟨w.heap.size, 6, none⟩ = some (.int .i64 ms) := bZ.cell 6 rfl; have p0 : World.cell? wo ⟨w.heap.size + 1, 0, none⟩ = some (.int .i64 a) := bI.cell 0 rfl; have p1 : World.cell? wo ⟨w.heap.size + 1, 1, none⟩ = some (.int .i64 b) := bI.cell 1 rfl
    by_cases hlt : n < N
    · have hle : d0 + (n : Int) ≤ d1 := by omega
      have R0 := Lib.hid (HT.out n hlt)
      have HPV' := Lib.hid (show pv = vd (d0 + n) from HPV.out)
      obtain ⟨d, hd⟩ : ∃ d, d = d0 + (n : Int) := ⟨_, rfl⟩
      rw [← hd] at R0 HPV HDO hle ⊢
      have hd0 : 0 ≤ d := by omega
      have hdu : d ≤ 795365 := by omega
      have HD := Lib.hid hd
      clear hd HPV'
      have HI := Lib.hid (HDO.out.start HN.out (show 86400 * d ≤ (d + 1) * 86400 by omega))
      have HRd : Hid (∀ k s, DI l (86400 * d) ((d + 1) * 86400) k s → 0 ≤ s ∧ s ≤ 68719476736) := fun k s q => HR.out (86400 * d) k s (by rw [show 86400 * d + 86400 = (d + 1) * 86400 by omega]; exact q) (by omega)
      go_wp2_with fail
      rw [hd1e]
      clear hd1e
      go_loopw [9, 10] (fun kk sv wr => ∃ (k : Nat) (s : Int), kk = .int .i64 k ∧ k ≤ l.length ∧ sv = .int .i64 s ∧ 0 ≤ s ∧ s ≤ 68719476736 ∧ Hid (DI l (86400 * d) ((d + 1) * 86400) k s) ∧ Below wo.heap.size wo wr) (fun kk _ _ => l.length - (RowKit.intOf kk).toNat)
      case atStart => exact ⟨k, s, rfl, hk, rfl, hs0, hs1, HI, Below.refl _ _⟩
      case round =>
        obtain ⟨k2, s2, rfl, hk2, rfl, hs20, hs21, HI2, hbq⟩ := hrel
        have hbn := hbq
        have bW : Below w.heap.size w wr := (by first | exact bW.st hbn | exact bW.drew.st hbn); have bZ : Blk wr w.heap.size #[.string nm, .slice hA hs.length hc', .slice sA ss.length sc, .int .i64 gr, .int .i64 fr, .int .i64 dm, .int .i64 ms] 76 := (by first | exact bZ.below hbn bZ.lt | exact bZ.drew.below hbn bZ.lt); have bI : Blk wr (w.heap.size + 1) #[.int .i64 a, .int .i64 b] 59 := (by first | exact bI.below hbn bI.lt | exact bI.drew.below hbn bI.lt); have q0 : World.cell? wr ⟨w.heap.size, 0, none⟩ = some (.string nm) := bZ.cell 0 rfl; have q1 : World.cell? wr ⟨w.heap.size, 1, none⟩ = some (.slice hA hs.length hc') := bZ.cell 1 rfl; have q2 : World.cell? wr ⟨w.heap.size, 2, none⟩ = some (.slice sA ss.length sc) := bZ.cell 2 rfl; have q3 : World.cell? wr ⟨w.heap.size, 3, none⟩ = some (.int .i64 gr) := bZ.cell 3 rfl; have q4 : World.cell? wr ⟨w.heap.size, 4, none⟩ = some (.int .i64 fr) := bZ.cell 4 rfl; have q5 : World.cell? wr ⟨w.heap.size, 5, none⟩ = some (.int .i64 dm) := bZ.cell 5 rfl; have q6 : World.cell? wr ⟨w.heap.size, 6, none⟩ = some (.int .i64 ms) := bZ.cell 6 rfl; have p0 : World.cell? wr ⟨w.heap.size + 1, 0, none⟩ = some (.int .i64 a) := bI.cell 0 rfl; have p1 : World.cell? wr ⟨w.heap.size + 1, 1, none⟩ = some (.int .i64 b) := bI.cell 1 rfl
        have hbY := hbr.st hbq
        have hownq := hown.st hbq
        by_cases hlt2 : k2 < l.length
        · obtain ⟨b', off, f, u, hAe, hg, hx, hc0, hc1⟩ := (Hl.out.st bW).iv hlt2
          subst hAe
          have hi0 : (0 : Int) ≤ (k2 : Int) := by omega
          have hi1 : (k2 : Int) < (l.length : Int) := by omega
          have hfu := HN.out.1 _ (List.mem_of_getElem? hx)
          unfold vld at hfu
          obtain ⟨hf0, hfu1, hfu2⟩ : 0 ≤ f ∧ f < u ∧ u ≤ 68719476736 := hfu
          by_cases hfE : f < (d + 1) * 86400
          · have HN1 := Lib.hid (HI2.out.next HN.out hx hfE)
            have HN2 := Lib.hid (fun q => HI2.out.stop HN.out (by omega) hx hfE q)
            have hw1 : IntKind.i64.wrap ((d + 1) * 86400 - 86400) = (d + 1) * 86400 - 86400 := IntWalk.i64_in _ (by omega)
            have HRd2 : Hid (∀ k s, DO l ((d + 1) * 86400) k s → 0 ≤ s ∧ s ≤ 68719476736) := fun k s q => HR2.out _ k s q (by omega)
            have hT : (d + 1) * 86400 - 86400 = 86400 * d := by omega
            clear hx HI2
            by_cases hu : (d + 1) * 86400 < u
            · have HDO3 := Lib.hid (HN2.out hu)
              have HB3 := Lib.hid (HRd2.out _ _ HDO3.out)
              go_wp2_with fail
              go_quiet (fail)
              rename_i nq
              have bW := below_drewN bW nq
              have hbY := below_drewN hbY nq
              have hownq := hownq.drewN nq
              have bZ := bZ.below (below_drewN (Below.refl _ wr) nq) bZ.lt
              have bI := bI.below (below_drewN (Below.refl _ wr) nq) bI.lt
              obtain ⟨s3, hs3⟩ : ∃ s3, s2 + min u ((d + 1) * 86400) - max f (86400 * d) = s3 := ⟨_, rfl⟩
              rw [hs3] at HDO3 HB3 ⊢
              clear hs3 hs20 hs21
              obtain ⟨hs20, hs21⟩ := HB3.out
              obtain ⟨s2, rfl⟩ : ∃ s2, s2 = s3 := ⟨_, rfl⟩
              have HDO2 : Hid (DO l (86400 * (d + 1)) k2 s2) := by have := HDO3.out; rwa [show (d + 1) * 86400 = 86400 * (d + 1) by omega] at this
              have Q := HP2.out _ bW s2 hs20 hs21 (d + 1) k2 (by omega) HDO2.out; have HB1 := (HB.out (d + 1)).1; by_cases hv2 : vd (d + 1) ≤ 1125899906842624; (have CP := Lib.hid (Q.1 hv2); clear Q; have HX0 := HF.out d; rw [← HPV.out] at HX0; obtain ⟨p2, hp2⟩ : ∃ p2, vd (d + 1) = p2 := ⟨_, rfl⟩; rw [hp2] at CP hv2 HB1 HX0; have HP2v := Lib.hid hp2; clear hp2; unfold capD at HX0; by_cases hdm : 0 < dm; (focus (rw [if_pos hdm] at HX0; have HX := Lib.hid HX0; clear HX0; go_wp2_with fail; refine CP.out.mono ?_; rintro e w3 ⟨rfl, hbn⟩; have bW : Below w.heap.size w w3 := (by first | exact bW.st hbn | exact bW.drew.st hbn); have bZ : Blk w3 w.heap.size #[.string nm, .slice hA hs.length hc', .slice sA ss.length sc, .int .i64 gr, .int .i64 fr, .int .i64 dm, .int .i64 ms] 76 := (by first | exact bZ.below hbn bZ.lt | exact bZ.drew.below hbn bZ.lt); have bI : Blk w3 (w.heap.size + 1) #[.int .i64 a, .int .i64 b] 59 := (by first | exact bI.below hbn bI.lt | exact bI.drew.below hbn bI.lt); have q0 : World.cell? w3 ⟨w.heap.size, 0, none⟩ = some (.string nm) := bZ.cell 0 rfl; have q1 : World.cell? w3 ⟨w.heap.size, 1, none⟩ = some (.slice hA hs.length hc') := bZ.cell 1 rfl; have q2 : World.cell? w3 ⟨w.heap.size, 2, none⟩ = some (.slice sA ss.length sc) := bZ.cell 2 rfl; have q3 : World.cell? w3 ⟨w.heap.size, 3, none⟩ = some (.int .i64 gr) := bZ.cell 3 rfl; have q4 : World.cell? w3 ⟨w.heap.size, 4, none⟩ = some (.int .i64 fr) := bZ.cell 4 rfl; have q5 : World.cell? w3 ⟨w.heap.size, 5, none⟩ = some (.int .i64 dm) := bZ.cell 5 rfl; have q6 : World.cell? w3 ⟨w.heap.size, 6, none⟩ = some (.int .i64 ms) := bZ.cell 6 rfl; have p0 : World.cell? w3 ⟨w.heap.size + 1, 0, none⟩ = some (.int .i64 a) := bI.cell 0 rfl; have p1 : World.cell? w3 ⟨w.heap.size + 1, 1, none⟩ = some (.int .i64 b) := bI.cell 1 rfl; have hown3 := hownq.st hbn; have hbY3 := hbY.st hbn; have R1 := Lib.hid (show L.take (n + 1) = o ++ [(min (p2 - pv) dm)] by have := R0.out; rw [HO.out] at this; rw [this, HX.out]); clear R0 HO HX; go_wp2_with (at_builtin; refine wpList_app1 rfl (.tmp 89) (.tmp 91) tyI encI_ok rfl (min (p2 - pv) dm) rfl _ rfl (by simp) hown3 rfl (by first | rfl | simp) (by first | omega | (simp; omega)) (by first | omega | (simp; omega)) hbY3.size ?_; intro A4 c4 w4 hown4 hb4 hs4 hf4; have hbel4 := hbY3.trans hb4); go_roundw; (case rel => exact ⟨n + 1, k2, s2, p2, A4, c4, _, by omega, (by have := HD.out; rw [show d0 + ((n + 1 : Nat) : Int) = d + 1 by omega]), R1, (by have := HOL.out; unfold Hid; simp; omega), by simp, rfl, hk2, rfl, hs20, hs21, rfl, (by have := HD.out; have := HP2v.out; unfold Hid; rw [show d0 + ((n + 1 : Nat) : Int) = d + 1 by omega]; omega), by omega, by omega, (by have := HD.out; have h9 := HDO2.out; rw [show d0 + ((n + 1 : Nat) : Int) = d + 1 by omega]; exact h9), hown4, hbel4⟩); (case measure => simp [RowKit.intOf]; omega))); (rw [if_neg hdm] at HX0; have HX := Lib.hid HX0; clear HX0; go_wp2_with fail; refine CP.out.mono ?_; rintro e w3 ⟨rfl, hbn⟩; have bW : Below w.heap.size w w3 := (by first | exact bW.st hbn | exact bW.drew.st hbn); have bZ : Blk w3 w.heap.size #[.string nm, .slice hA hs.length hc', .slice sA ss.length sc, .int .i64 gr, .int .i64 fr, .int .i64 dm, .int .i64 ms] 76 := (by first | exact bZ.below hbn bZ.lt | exact bZ.drew.below hbn bZ.lt); have bI : Blk w3 (w.heap.size + 1) #[.int .i64 a, .int .i64 b] 59 := (by first | exact bI.below hbn bI.lt | exact bI.drew.below hbn bI.lt); have q0 : World.cell? w3 ⟨w.heap.size, 0, none⟩ = some (.string nm) := bZ.cell 0 rfl; have q1 : World.cell? w3 ⟨w.heap.size, 1, none⟩ = some (.slice hA hs.length hc') := bZ.cell 1 rfl; have q2 : World.cell? w3 ⟨w.heap.size, 2, none⟩ = some (.slice sA ss.length sc) := bZ.cell 2 rfl; have q3 : World.cell? w3 ⟨w.heap.size, 3, none⟩ = some (.int .i64 gr) := bZ.cell 3 rfl; have q4 : World.cell? w3 ⟨w.heap.size, 4, none⟩ = some (.int .i64 fr) := bZ.cell 4 rfl; have q5 : World.cell? w3 ⟨w.heap.size, 5, none⟩ = some (.int .i64 dm) := bZ.cell 5 rfl; have q6 : World.cell? w3 ⟨w.heap.size, 6, none⟩ = some (.int .i64 ms) := bZ.cell 6 rfl; have p0 : World.cell? w3 ⟨w.heap.size + 1, 0, none⟩ = some (.int .i64 a) := bI.cell 0 rfl; have p1 : World.cell? w3 ⟨w.heap.size + 1, 1, none⟩ = some (.int .i64 b) := bI.cell 1 rfl; have hown3 := hownq.st hbn; have hbY3 := hbY.st hbn; have R1 := Lib.hid (show L.take (n + 1) = o ++ [(p2 - pv)] by have := R0.out; rw [HO.out] at this; rw [this, HX.out]); clear R0 HO HX; go_wp2_with (at_builtin; refine wpList_app1 rfl (.tmp 89) (.tmp 91) tyI encI_ok rfl (p2 - pv) rfl _ rfl (by simp) hown3 rfl (by first | rfl | simp) (by first | omega | (simp; omega)) (by first | omega | (simp; omega)) hbY3.size ?_; intro A4 c4 w4 hown4 hb4 hs4 hf4; have hbel4 := hbY3.trans hb4); go_roundw; (case rel => exact ⟨n + 1, k2, s2, p2, A4, c4, _, by omega, (by have := HD.out; rw [show d0 + ((n + 1 : Nat) : Int) = d + 1 by omega]), R1, (by have := HOL.out; unfold Hid; simp; omega), by simp, rfl, hk2, rfl, hs20, hs21, rfl, (by have := HD.out; have := HP2v.out; unfold Hid; rw [show d0 + ((n + 1 : Nat) : Int) = d + 1 by omega]; omega), by omega, by omega, (by have := HD.out; have h9 := HDO2.out; rw [show d0 + ((n + 1 : Nat) : Int) = d + 1 by omega]; exact h9), hown4, hbel4⟩); (case measure => simp [RowKit.intOf]; omega))); (have CP := Lib.hid (Q.2 (by omega)); clear Q; go_wp2_with fail; refine CP.out.mono ?_; rintro e w3 ⟨rfl, hbn⟩; have bW3 := bW.st hbn; have HX := Lib.hid (HNo.out w3 (by have := (HB.out (d + 1)).2; omega) bW3); go_wp2; all_goals (first | exact HX.out | (go_ret2; exact HX.out)))
            · go_wp2_with fail
              go_quiet (fail)
              go_wp2
              go_roundw
              case rel => exact ⟨k2 + 1, _, by go_num, by omega, rfl, (HRd.out _ _ (HN1.out (by show u ≤ _; omega))).1, (HRd.out _ _ (HN1.out (by show u ≤ _; omega))).2, HN1.out (by show u ≤ _; omega), below_drewN hbn _⟩
              case measure => simp [RowKit.intOf]; omega
          · have HDO2 : Hid (DO l (86400 * (d + 1)) k2 s2) := by
              have := HI2.out.late HN.out (by omega) (fun x hx' => by rw [hx] at hx'; obtain rfl := Option.some.inj hx'; show (d + 1) * 86400 ≤ f; omega)
              rwa [show (d + 1) * 86400 = 86400 * (d + 1) by omega] at this
            clear hx HI2
            have Q := HP2.out _ bW s2 hs20 hs21 (d + 1) k2 (by omega) HDO2.out; have HB1 := (HB.out (d + 1)).1; by_cases hv2 : vd (d + 1) ≤ 1125899906842624; (have CP := Lib.hid (Q.1 hv2); clear Q; have HX0 := HF.out d; rw [← HPV.out] at HX0; obtain ⟨p2, hp2⟩ : ∃ p2, vd (d + 1) = p2 := ⟨_, rfl⟩; rw [hp2] at CP hv2 HB1 HX0; have HP2v := Lib.hid hp2; clear hp2; unfold capD at HX0; by_cases hdm : 0 < dm; (focus (rw [if_pos hdm] at HX0; have HX := Lib.hid HX0; clear HX0; go_wp2_with fail; refine CP.out.mono ?_; rintro e w3 ⟨rfl, hbn⟩; have bW : Below w.heap.size w w3 := (by first | exact bW.st hbn | exact bW.drew.st hbn); have bZ : Blk w3 w.heap.size #[.string nm, .slice hA hs.length hc', .slice sA ss.length sc, .int .i64 gr, .int .i64 fr, .int .i64 dm, .int .i64 ms] 76 := (by first | exact bZ.below hbn bZ.lt | exact bZ.drew.below hbn bZ.lt); have bI : Blk w3 (w.heap.size + 1) #[.int .i64 a, .int .i64 b] 59 := (by first | exact bI.below hbn bI.lt | exact bI.drew.below hbn bI.lt); have q0 : World.cell? w3 ⟨w.heap.size, 0, none⟩ = some (.string nm) := bZ.cell 0 rfl; have q1 : World.cell? w3 ⟨w.heap.size, 1, none⟩ = some (.slice hA hs.length hc') := bZ.cell 1 rfl; have q2 : World.cell? w3 ⟨w.heap.size, 2, none⟩ = some (.slice sA ss.length sc) := bZ.cell 2 rfl; have q3 : World.cell? w3 ⟨w.heap.size, 3, none⟩ = some (.int .i64 gr) := bZ.cell 3 rfl; have q4 : World.cell? w3 ⟨w.heap.size, 4, none⟩ = some (.int .i64 fr) := bZ.cell 4 rfl; have q5 : World.cell? w3 ⟨w.heap.size, 5, none⟩ = some (.int .i64 dm) := bZ.cell 5 rfl; have q6 : World.cell? w3 ⟨w.heap.size, 6, none⟩ = some (.int .i64 ms) := bZ.cell 6 rfl; have p0 : World.cell? w3 ⟨w.heap.size + 1, 0, none⟩ = some (.int .i64 a) := bI.cell 0 rfl; have p1 : World.cell? w3 ⟨w.heap.size + 1, 1, none⟩ = some (.int .i64 b) := bI.cell 1 rfl; have hown3 := hownq.st hbn; have hbY3 := hbY.st hbn; have R1 := Lib.hid (show L.take (n + 1) = o ++ [(min (p2 - pv) dm)] by have := R0.out; rw [HO.out] at this; rw [this, HX.out]); clear R0 HO HX; go_wp2_with (at_builtin; refine wpList_app1 rfl (.tmp 89) (.tmp 91) tyI encI_ok rfl (min (p2 - pv) dm) rfl _ rfl (by simp) hown3 rfl (by first | rfl | simp) (by first | omega | (simp; omega)) (by first | omega | (simp; omega)) hbY3.size ?_; intro A4 c4 w4 hown4 hb4 hs4 hf4; have hbel4 := hbY3.trans hb4); go_roundw; (case rel => exact ⟨n + 1, k2, s2, p2, A4, c4, _, by omega, (by have := HD.out; rw [show d0 + ((n + 1 : Nat) : Int) = d + 1 by omega]), R1, (by have := HOL.out; unfold Hid; simp; omega), by simp, rfl, hk2, rfl, hs20, hs21, rfl, (by have := HD.out; have := HP2v.out; unfold Hid; rw [show d0 + ((n + 1 : Nat) : Int) = d + 1 by omega]; omega), by omega, by omega, (by have := HD.out; have h9 := HDO2.out; rw [show d0 + ((n + 1 : Nat) : Int) = d + 1 by omega]; exact h9), hown4, hbel4⟩); (case measure => simp [RowKit.intOf]; omega))); (rw [if_neg hdm] at HX0; have HX := Lib.hid HX0; clear HX0; go_wp2_with fail; refine CP.out.mono ?_; rintro e w3 ⟨rfl, hbn⟩; have bW : Below w.heap.size w w3 := (by first | exact bW.st hbn | exact bW.drew.st hbn); have bZ : Blk w3 w.heap.size #[.string nm, .slice hA hs.length hc', .slice sA ss.length sc, .int .i64 gr, .int .i64 fr, .int .i64 dm, .int .i64 ms] 76 := (by first | exact bZ.below hbn bZ.lt | exact bZ.drew.below hbn bZ.lt); have bI : Blk w3 (w.heap.size + 1) #[.int .i64 a, .int .i64 b] 59 := (by first | exact bI.below hbn bI.lt | exact bI.drew.below hbn bI.lt); have q0 : World.cell? w3 ⟨w.heap.size, 0, none⟩ = some (.string nm) := bZ.cell 0 rfl; have q1 : World.cell? w3 ⟨w.heap.size, 1, none⟩ = some (.slice hA hs.length hc') := bZ.cell 1 rfl; have q2 : World.cell? w3 ⟨w.heap.size, 2, none⟩ = some (.slice sA ss.length sc) := bZ.cell 2 rfl; have q3 : World.cell? w3 ⟨w.heap.size, 3, none⟩ = some (.int .i64 gr) := bZ.cell 3 rfl; have q4 : World.cell? w3 ⟨w.heap.size, 4, none⟩ = some (.int .i64 fr) := bZ.cell 4 rfl; have q5 : World.cell? w3 ⟨w.heap.size, 5, none⟩ = some (.int .i64 dm) := bZ.cell 5 rfl; have q6 : World.cell? w3 ⟨w.heap.size, 6, none⟩ = some (.int .i64 ms) := bZ.cell 6 rfl; have p0 : World.cell? w3 ⟨w.heap.size + 1, 0, none⟩ = some (.int .i64 a) := bI.cell 0 rfl; have p1 : World.cell? w3 ⟨w.heap.size + 1, 1, none⟩ = some (.int .i64 b) := bI.cell 1 rfl; have hown3 := hownq.st hbn; have hbY3 := hbY.st hbn; have R1 := Lib.hid (show L.take (n + 1) = o ++ [(p2 - pv)] by have := R0.out; rw [HO.out] at this; rw [this, HX.out]); clear R0 HO HX; go_wp2_with (at_builtin; refine wpList_app1 rfl (.tmp 89) (.tmp 91) tyI encI_ok rfl (p2 - pv) rfl _ rfl (by simp) hown3 rfl (by first | rfl | simp) (by first | omega | (simp; omega)) (by first | omega | (simp; omega)) hbY3.size ?_; intro A4 c4 w4 hown4 hb4 hs4 hf4; have hbel4 := hbY3.trans hb4); go_roundw; (case rel => exact ⟨n + 1, k2, s2, p2, A4, c4, _, by omega, (by have := HD.out; rw [show d0 + ((n + 1 : Nat) : Int) = d + 1 by omega]), R1, (by have := HOL.out; unfold Hid; simp; omega), by simp, rfl, hk2, rfl, hs20, hs21, rfl, (by have := HD.out; have := HP2v.out; unfold Hid; rw [show d0 + ((n + 1 : Nat) : Int) = d + 1 by omega]; omega), by omega, by omega, (by have := HD.out; have h9 := HDO2.out; rw [show d0 + ((n + 1 : Nat) : Int) = d + 1 by omega]; exact h9), hown4, hbel4⟩); (case measure => simp [RowKit.intOf]; omega))); (have CP := Lib.hid (Q.2 (by omega)); clear Q; go_wp2_with fail; refine CP.out.mono ?_; rintro e w3 ⟨rfl, hbn⟩; have bW3 := bW.st hbn; have HX := Lib.hid (HNo.out w3 (by have := (HB.out (d + 1)).2; omega) bW3); go_wp2; all_goals (first | exact HX.out | (go_ret2; exact HX.out)))
        · have HDO2 : Hid (DO l (86400 * (d + 1)) k2 s2) := by
            have := HI2.out.late HN.out (by omega) (fun x hx' => by rw [List.getElem?_eq_none (by omega)] at hx'; cases hx')
            rwa [show (d + 1) * 86400 = 86400 * (d + 1) by omega] at this
          clear HI2
          have Q := HP2.out _ bW s2 hs20 hs21 (d + 1) k2 (by omega) HDO2.out; have HB1 := (HB.out (d + 1)).1; by_cases hv2 : vd (d + 1) ≤ 1125899906842624; (have CP := Lib.hid (Q.1 hv2); clear Q; have HX0 := HF.out d; rw [← HPV.out] at HX0; obtain ⟨p2, hp2⟩ : ∃ p2, vd (d + 1) = p2 := ⟨_, rfl⟩; rw [hp2] at CP hv2 HB1 HX0; have HP2v := Lib.hid hp2; clear hp2; unfold capD at HX0; by_cases hdm : 0 < dm; (focus (rw [if_pos hdm] at HX0; have HX := Lib.hid HX0; clear HX0; go_wp2_with fail; refine CP.out.mono ?_; rintro e w3 ⟨rfl, hbn⟩; have bW : Below w.heap.size w w3 := (by first | exact bW.st hbn | exact bW.drew.st hbn); have bZ : Blk w3 w.heap.size #[.string nm, .slice hA hs.length hc', .slice sA ss.length sc, .int .i64 gr, .int .i64 fr, .int .i64 dm, .int .i64 ms] 76 := (by first | exact bZ.below hbn bZ.lt | exact bZ.drew.below hbn bZ.lt); have bI : Blk w3 (w.heap.size + 1) #[.int .i64 a, .int .i64 b] 59 := (by first | exact bI.below hbn bI.lt | exact bI.drew.below hbn bI.lt); have q0 : World.cell? w3 ⟨w.heap.size, 0, none⟩ = some (.string nm) := bZ.cell 0 rfl; have q1 : World.cell? w3 ⟨w.heap.size, 1, none⟩ = some (.slice hA hs.length hc') := bZ.cell 1 rfl; have q2 : World.cell? w3 ⟨w.heap.size, 2, none⟩ = some (.slice sA ss.length sc) := bZ.cell 2 rfl; have q3 : World.cell? w3 ⟨w.heap.size, 3, none⟩ = some (.int .i64 gr) := bZ.cell 3 rfl; have q4 : World.cell? w3 ⟨w.heap.size, 4, none⟩ = some (.int .i64 fr) := bZ.cell 4 rfl; have q5 : World.cell? w3 ⟨w.heap.size, 5, none⟩ = some (.int .i64 dm) := bZ.cell 5 rfl; have q6 : World.cell? w3 ⟨w.heap.size, 6, none⟩ = some (.int .i64 ms) := bZ.cell 6 rfl; have p0 : World.cell? w3 ⟨w.heap.size + 1, 0, none⟩ = some (.int .i64 a) := bI.cell 0 rfl; have p1 : World.cell? w3 ⟨w.heap.size + 1, 1, none⟩ = some (.int .i64 b) := bI.cell 1 rfl; have hown3 := hownq.st hbn; have hbY3 := hbY.st hbn; have R1 := Lib.hid (show L.take (n + 1) = o ++ [(min (p2 - pv) dm)] by have := R0.out; rw [HO.out] at this; rw [this, HX.out]); clear R0 HO HX; go_wp2_with (at_builtin; refine wpList_app1 rfl (.tmp 89) (.tmp 91) tyI encI_ok rfl (min (p2 - pv) dm) rfl _ rfl (by simp) hown3 rfl (by first | rfl | simp) (by first | omega | (simp; omega)) (by first | omega | (simp; omega)) hbY3.size ?_; intro A4 c4 w4 hown4 hb4 hs4 hf4; have hbel4 := hbY3.trans hb4); go_roundw; (case rel => exact ⟨n + 1, k2, s2, p2, A4, c4, _, by omega, (by have := HD.out; rw [show d0 + ((n + 1 : Nat) : Int) = d + 1 by omega]), R1, (by have := HOL.out; unfold Hid; simp; omega), by simp, rfl, hk2, rfl, hs20, hs21, rfl, (by have := HD.out; have := HP2v.out; unfold Hid; rw [show d0 + ((n + 1 : Nat) : Int) = d + 1 by omega]; omega), by omega, by omega, (by have := HD.out; have h9 := HDO2.out; rw [show d0 + ((n + 1 : Nat) : Int) = d + 1 by omega]; exact h9), hown4, hbel4⟩); (case measure => simp [RowKit.intOf]; omega))); (rw [if_neg hdm] at HX0; have HX := Lib.hid HX0; clear HX0; go_wp2_with fail; refine CP.out.mono ?_; rintro e w3 ⟨rfl, hbn⟩; have bW : Below w.heap.size w w3 := (by first | exact bW.st hbn | exact bW.drew.st hbn); have bZ : Blk w3 w.heap.size #[.string nm, .slice hA hs.length hc', .slice sA ss.length sc, .int .i64 gr, .int .i64 fr, .int .i64 dm, .int .i64 ms] 76 := (by first | exact bZ.below hbn bZ.lt | exact bZ.drew.below hbn bZ.lt); have bI : Blk w3 (w.heap.size + 1) #[.int .i64 a, .int .i64 b] 59 := (by first | exact bI.below hbn bI.lt | exact bI.drew.below hbn bI.lt); have q0 : World.cell? w3 ⟨w.heap.size, 0, none⟩ = some (.string nm) := bZ.cell 0 rfl; have q1 : World.cell? w3 ⟨w.heap.size, 1, none⟩ = some (.slice hA hs.length hc') := bZ.cell 1 rfl; have q2 : World.cell? w3 ⟨w.heap.size, 2, none⟩ = some (.slice sA ss.length sc) := bZ.cell 2 rfl; have q3 : World.cell? w3 ⟨w.heap.size, 3, none⟩ = some (.int .i64 gr) := bZ.cell 3 rfl; have q4 : World.cell? w3 ⟨w.heap.size, 4, none⟩ = some (.int .i64 fr) := bZ.cell 4 rfl; have q5 : World.cell? w3 ⟨w.heap.size, 5, none⟩ = some (.int .i64 dm) := bZ.cell 5 rfl; have q6 : World.cell? w3 ⟨w.heap.size, 6, none⟩ = some (.int .i64 ms) := bZ.cell 6 rfl; have p0 : World.cell? w3 ⟨w.heap.size + 1, 0, none⟩ = some (.int .i64 a) := bI.cell 0 rfl; have p1 : World.cell? w3 ⟨w.heap.size + 1, 1, none⟩ = some (.int .i64 b) := bI.cell 1 rfl; have hown3 := hownq.st hbn; have hbY3 := hbY.st hbn; have R1 := Lib.hid (show L.take (n + 1) = o ++ [(p2 - pv)] by have := R0.out; rw [HO.out] at this; rw [this, HX.out]); clear R0 HO HX; go_wp2_with (at_builtin; refine wpList_app1 rfl (.tmp 89) (.tmp 91) tyI encI_ok rfl (p2 - pv) rfl _ rfl (by simp) hown3 rfl (by first | rfl | simp) (by first | omega | (simp; omega)) (by first | omega | (simp; omega)) hbY3.size ?_; intro A4 c4 w4 hown4 hb4 hs4 hf4; have hbel4 := hbY3.trans hb4); go_roundw; (case rel => exact ⟨n + 1, k2, s2, p2, A4, c4, _, by omega, (by have := HD.out; rw [show d0 + ((n + 1 : Nat) : Int) = d + 1 by omega]), R1, (by have := HOL.out; unfold Hid; simp; omega), by simp, rfl, hk2, rfl, hs20, hs21, rfl, (by have := HD.out; have := HP2v.out; unfold Hid; rw [show d0 + ((n + 1 : Nat) : Int) = d + 1 by omega]; omega), by omega, by omega, (by have := HD.out; have h9 := HDO2.out; rw [show d0 + ((n + 1 : Nat) : Int) = d + 1 by omega]; exact h9), hown4, hbel4⟩); (case measure => simp [RowKit.intOf]; omega))); (have CP := Lib.hid (Q.2 (by omega)); clear Q; go_wp2_with fail; refine CP.out.mono ?_; rintro e w3 ⟨rfl, hbn⟩; have bW3 := bW.st hbn; have HX := Lib.hid (HNo.out w3 (by have := (HB.out (d + 1)).2; omega) bW3); go_wp2; all_goals (first | exact HX.out | (go_ret2; exact HX.out)))
    · obtain rfl : n = N := by omega
      have hgt : ¬ d0 + (n : Int) ≤ d1 := by omega
      have hv : VV ≤ 1125899906842624 := by have := HL.out (d0 + n) (by omega); have := HPV.out; omega
      have R := Lib.hid (show L = o by have := HO.out; rwa [List.take_of_length_le (by rw [HLen.out]; exact Nat.le_refl _)] at this)
      have hro := hown.rd encI_ok
      rw [← R.out] at hro
      have HX := Lib.hid (HYes.out A' c' wo hv bW hro)
      have R2 := Lib.hid (show o.length = L.length by rw [R.out])
      clear hro
      rw [R2.out] at *
      go_wp2
      first | exact HX.out | (go_ret2; exact HX.out)
end Go.Proofs.YtcpfiiapfggmpaaGreat
