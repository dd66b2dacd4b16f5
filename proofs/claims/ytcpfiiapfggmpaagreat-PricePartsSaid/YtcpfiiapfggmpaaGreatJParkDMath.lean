/- Joined texts: ParkDMath, ParkPrice. -/
import Derived.Test.YtcpfiiapfggmpaaGreatParkFee
import Derived.Test.YtcpfiiapfggmpaaGreatJParkSteps
import Derived.Test.YtcpfiiapfggmpaaGreatJZoneAllMath
/- The reference's counting of seconds, day by day: plain mathematics. No program in sight. -/
namespace Go.Proofs.YtcpfiiapfggmpaaGreat

theorem lenB_congr {l : List Iv} {s t : Int} (h : ∀ x ∈ l, (if s ≤ x.1 then 0 else min x.2 s - x.1) = (if t ≤ x.1 then 0 else min x.2 t - x.1)) : lenB l s = lenB l t := by
  unfold lenB
  congr 1
  exact List.map_congr_left h
theorem lenB_mono {s t : Int} (hst : s ≤ t) : ∀ {l : List Iv}, (∀ x ∈ l, x.1 ≤ x.2) → lenB l s ≤ lenB l t
  | [], _ => Int.le_refl _
  | x :: l, h => by
    rw [lenB_cons, lenB_cons]
    have a := lenB_mono hst (l := l) fun y hy => h y (by simp [hy])
    have b := h x (by simp)
    split <;> split <;> omega
theorem lenB_nonneg {t : Int} : ∀ {l : List Iv}, (∀ x ∈ l, x.1 ≤ x.2) → 0 ≤ lenB l t
  | [], _ => Int.le_refl _
  | x :: l, h => by
    rw [lenB_cons]
    have a := lenB_nonneg (t := t) (l := l) fun y hy => h y (by simp [hy])
    have b := h x (by simp)
    split <;> omega
theorem lenB_late {t : Int} {l : List Iv} (h : ∀ x ∈ l, t ≤ x.1) : lenB l t = 0 := by
  induction l with
  | nil => rfl
  | cons x l ih =>
    rw [lenB_cons, ih fun y hy => h y (by simp [hy]), if_pos (h x (by simp))]
    rfl
theorem NF.le {l : List Iv} (h : NF l) : ∀ x ∈ l, x.1 ≤ x.2 := fun x hx => by have := h.1 x hx; unfold vld at this; omega
/-- what comes behind the k-th begins behind its end -/
theorem NF.behind {l : List Iv} (h : NF l) {k : Nat} {x : Iv} (hx : l[k]? = some x) : ∀ y ∈ l.drop (k + 1), x.2 < y.1 := by
  have := h.drop k
  rw [drop_get hx] at this
  exact ((NF.cons_iff _ _).1 this).2.1
/-- before a day that begins at T: k intervals lie behind, s seconds are counted -/
def DO (l : List Iv) (T : Int) (k : Nat) (s : Int) : Prop := k ≤ l.length ∧ s = lenB l T ∧ (∀ x ∈ l.take k, x.2 ≤ T) ∧ ∀ x, l[k]? = some x → T < x.2
/-- within the day from T to E -/
def DI (l : List Iv) (T E : Int) (k : Nat) (s : Int) : Prop := k ≤ l.length ∧ s = lenB (l.take k) E + lenB (l.drop k) T ∧ (∀ x ∈ l.take k, x.2 ≤ E) ∧ ∀ x, l[k]? = some x → T < x.2
theorem lenB_split (l : List Iv) (k : Nat) (t : Int) : lenB l t = lenB (l.take k) t + lenB (l.drop k) t := by rw [← lenB_append, List.take_append_drop]
theorem DO.first {l : List Iv} {T : Int} (h : ∀ x ∈ l, T ≤ x.1 ∧ x.1 < x.2) : DO l T 0 0 := by
  refine ⟨Nat.zero_le _, (lenB_late fun x hx => (h x hx).1).symm, by simp, fun x hx => ?_⟩
  have := h x (List.mem_of_getElem? hx)
  omega
theorem DO.start {l : List Iv} {T E : Int} {k : Nat} {s : Int} (hn : NF l) (h : DO l T k s) (hTE : T ≤ E) : DI l T E k s := by
  obtain ⟨h1, h2, h3, h4⟩ := h
  refine ⟨h1, ?_, fun x hx => by have := h3 x hx; omega, h4⟩
  rw [h2, lenB_split l k T]
  congr 1
  refine lenB_congr fun x hx => ?_
  have := h3 x hx
  have v := hn.1 x (List.mem_of_mem_take hx)
  unfold vld at v
  split <;> split <;> omega
theorem DI.range {l : List Iv} {T E : Int} {k : Nat} {s : Int} (hn : NF l) (hTE : T ≤ E) (h : DI l T E k s) : 0 ≤ s ∧ s ≤ lenB l E := by
  obtain ⟨h1, h2, h3, h4⟩ := h
  have a := lenB_nonneg (t := E) (l := l.take k) fun x hx => hn.le x (List.mem_of_mem_take hx)
  have b := lenB_nonneg (t := T) (l := l.drop k) fun x hx => hn.le x (List.mem_of_mem_drop hx)
  have c := lenB_mono hTE (l := l.drop k) fun x hx => hn.le x (List.mem_of_mem_drop hx)
  rw [lenB_split l k E]
  omega
/-- the next interval begins within the day: its seconds -/
theorem DI.count {l : List Iv} {T E : Int} {k : Nat} {s : Int} {x : Iv} (h : DI l T E k s) (hx : l[k]? = some x) (hE : x.1 < E) : s + min x.2 E - max x.1 T = lenB (l.take (k + 1)) E + lenB (l.drop (k + 1)) T := by
  obtain ⟨h1, h2, h3, h4⟩ := h
  have hT := h4 x hx
  rw [h2, drop_get hx, take_snoc hx, lenB_cons, lenB_append, lenB_cons, lenB_nil, if_neg (by omega : ¬ E ≤ x.1)]
  split <;> omega
theorem DI.next {l : List Iv} {T E : Int} {k : Nat} {s : Int} {x : Iv} (hn : NF l) (h : DI l T E k s) (hx : l[k]? = some x) (hE : x.1 < E) (hu : x.2 ≤ E) : DI l T E (k + 1) (s + min x.2 E - max x.1 T) := by
  have hk : k < l.length := (List.getElem?_eq_some_iff.1 hx).1
  have hT := h.2.2.2 x hx
  refine ⟨hk, h.count hx hE, fun y hy => ?_, fun y hy => ?_⟩
  · rw [take_snoc hx, List.mem_append] at hy
    rcases hy with hy | hy
    · exact h.2.2.1 y hy
    · simp at hy; subst hy; exact hu
  · have a := hn.behind hx y (by rw [drop_get hy]; simp)
    have b := hn.1 y (List.mem_of_getElem? hy)
    unfold vld at b
    omega
theorem DI.stop {l : List Iv} {T E : Int} {k : Nat} {s : Int} {x : Iv} (hn : NF l) (hTE : T ≤ E) (h : DI l T E k s) (hx : l[k]? = some x) (hE : x.1 < E) (hu : E < x.2) : DO l E k (s + min x.2 E - max x.1 T) := by
  refine ⟨h.1, ?_, h.2.2.1, fun y hy => by rw [hx] at hy; obtain rfl := Option.some.inj hy; exact hu⟩
  rw [h.count hx hE, lenB_split l (k + 1) E]
  congr 1
  rw [lenB_late (t := T) fun y hy => by have := hn.behind hx y hy; omega, lenB_late (t := E) fun y hy => by have := hn.behind hx y hy; omega]
theorem DI.late {l : List Iv} {T E : Int} {k : Nat} {s : Int} (hn : NF l) (hTE : T ≤ E) (h : DI l T E k s) (hx : ∀ x, l[k]? = some x → E ≤ x.1) : DO l E k s := by
  have key : ∀ y ∈ l.drop k, E ≤ y.1 := by
    intro y hy
    by_cases hk : k < l.length
    · obtain ⟨x, hx'⟩ : ∃ x, l[k]? = some x := ⟨_, List.getElem?_eq_getElem hk⟩
      have a := hx x hx'
      rw [drop_get hx'] at hy
      simp only [List.mem_cons] at hy
      rcases hy with rfl | hy
      · exact a
      · have b := hn.behind hx' y hy
        have c := hn.1 x (List.mem_of_getElem? hx')
        unfold vld at c
        omega
    · rw [List.drop_eq_nil_of_le (by omega)] at hy
      simp at hy
  refine ⟨h.1, ?_, h.2.2.1, fun y hy => ?_⟩
  · rw [h.2.1, lenB_split l k E]
    congr 1
    rw [lenB_late key, lenB_late fun y hy => by have := key y hy; omega]
  · have a := hx y hy
    have b := hn.1 y (List.mem_of_getElem? hy)
    unfold vld at b
    omega
end Go.Proofs.YtcpfiiapfggmpaaGreat
/- The reference's Price and Steps, walked. -/
namespace Go.Proofs.YtcpfiiapfggmpaaGreat
open Go.RowKit Go.Lib

def priceN (ss : List Wn) (s : Int) : Int := if V ss s ≤ 1125899906842624 then V ss s else 0
def priceB (ss : List Wn) (s : Int) : Bool := decide (V ss s ≤ 1125899906842624)
theorem price_ok {ss : List Wn} {s : Int} (h : V ss s ≤ 1125899906842624) : priceN ss s = V ss s ∧ priceB ss s = true := ⟨if_pos h, decide_eq_true h⟩
theorem price_no {ss : List Wn} {s : Int} (h : 1125899906842624 < V ss s) : priceN ss s = 0 ∧ priceB ss s = false := ⟨if_neg (by omega), decide_eq_false (by omega)⟩
theorem lim_nonneg {ss : List Wn} (h : StOk ss) {k : Nat} (hk : k < ss.length) : 0 ≤ lim ss k ∧ lim ss k ≤ 68719476736 := by
  unfold lim prevU
  split
  · omega
  · rename_i hk0
    obtain ⟨y', hy'⟩ : ∃ y', ss[k - 1]? = some y' := ⟨_, List.getElem?_eq_getElem (by omega)⟩
    have := h.up (k - 1) y' hy' (by omega)
    rw [hy']
    simp
    omega

set_option maxRecDepth 100000 in
set_option maxHeartbeats 4000000 in
theorem price_any (z : Zn) {s : Int} {w : World} (h : ZOk w z) (St : StOk z.ss) (hr0 : 0 ≤ s) (hr1 : s ≤ 68719476736) :
    Calls Tryz.prog 124 #[ZV z, .int .i64 s] w fun e w' => e = .returned (.tuple #[.int .i64 (priceN z.ss s), .bool (priceB z.ss s)]) ∧ Below w.heap.size w w' := by
  obtain ⟨nm, hA, hc, hs, sA, sc, ss, gr, fr, dm, ms⟩ := z
  have h2 : Rd encW 3 w w.heap.size sA ss := h.2
  clear h
  simp only [ZV] at *
  have hb1 : Below w.heap.size w (w.alloc (.cells #[.string nm, .slice hA hs.length hc, .slice sA ss.length sc, .int .i64 gr, .int .i64 fr, .int .i64 dm, .int .i64 ms] 76)) := (Below.refl _ w).al _
  have ok' := Lib.hid (@price_ok ss s)
  have no' := Lib.hid (@price_no ss s)
  generalize priceN ss s = rn at *
  generalize priceB ss s = rb at *
  have ST : Hid (StOk ss) := St
  have hlen : ss.length ≤ 16 := St.len
  have h2' := h2.st hb1
  have hz0 : w.heap.size < (w.alloc (.cells #[.string nm, .slice hA hs.length hc, .slice sA ss.length sc, .int .i64 gr, .int .i64 fr, .int .i64 dm, .int .i64 ms] 76)).heap.size := by simp
  have b2 : (w.alloc (.cells #[.string nm, .slice hA hs.length hc, .slice sA ss.length sc, .int .i64 gr, .int .i64 fr, .int .i64 dm, .int .i64 ms] 76)).cell? ⟨w.heap.size, 2, none⟩ = some (.slice sA ss.length sc) := by simp
  clear St h2
  go_enter Tryz.func124, Tryz.ntmps124
  go_wp2_with fail
  go_loopw [6, 7, 8] (fun v f i wr => ∃ (k : Nat) (p g : Int), k ≤ ss.length ∧ i = .int .i64 k ∧ v = .int .i64 p ∧ f = .int .i64 g ∧ Hid (k < ss.length → g = lim ss k) ∧ Hid (p + val (ss.drop k) (lim ss k) s = V ss s) ∧ 0 ≤ p ∧ p ≤ 1125899906842624 ∧ Below (w.alloc (.cells #[.string nm, .slice hA hs.length hc, .slice sA ss.length sc, .int .i64 gr, .int .i64 fr, .int .i64 dm, .int .i64 ms] 76)).heap.size (w.alloc (.cells #[.string nm, .slice hA hs.length hc, .slice sA ss.length sc, .int .i64 gr, .int .i64 fr, .int .i64 dm, .int .i64 ms] 76)) wr) (fun _ _ i _ => ss.length - (RowKit.intOf i).toNat)
  case atStart => exact ⟨0, 0, 0, Nat.zero_le _, rfl, rfl, rfl, (fun _ => lim_zero ss), (by unfold Hid V; rw [lim_zero]; simp), by omega, by omega, Below.refl _ _⟩
  case round =>
    obtain ⟨k, p, g, hk, rfl, rfl, rfl, HG, HP, hp0, hp1, hbr⟩ := hrel
    have bel := hb1.st hbr
    have c2 := (hbr.cell (p := ⟨w.heap.size, 2, none⟩) hz0).trans b2
    have hzr : w.heap.size < wr.heap.size := Nat.lt_of_lt_of_le hz0 hbr.size
    by_cases hi : k < ss.length
    · obtain ⟨b, off, x, y, c, rfl, hb, hx, d0, d1, d2⟩ := (h2'.keep hbr).w3 hi
      have hi2 : (k : Int) < (ss.length : Int) := by omega
      obtain ⟨y1, y2, c1, c3⟩ := ST.out.ok _ (List.mem_of_getElem? hx)
      simp only at y1 y2 c1 c3
      have hbA := hbr.al (.cells #[.int .i64 x, .int .i64 y, .int .i64 c] 228)
      have belA := hb1.st hbA
      obtain ⟨hg0, hg1⟩ := lim_nonneg ST.out hi
      rw [← HG.out hi] at hg0 hg1
      -- the part of the step: q seconds; the next limit: n
      obtain ⟨q, n, hq, hqs, hval, hlim, hx1⟩ : ∃ q n, (if k + 1 < ss.length then min (s - g) (x - g) = q ∧ x = n else s - g = q ∧ g = n) ∧ q ≤ s - g ∧ (p + piece (x, y, c) q + val (ss.drop (k + 1)) (lim ss (k + 1)) s = V ss s) ∧ (k + 1 < ss.length → n = lim ss (k + 1)) ∧ (k + 1 < ss.length → g < x ∧ x ≤ 68719476736) := by
        have hg' := HG.out hi
        by_cases hl : k + 1 < ss.length
        · have hup := ST.out.up k _ hx hl
          simp only at hup
          have e1 := V_on hx hl HP.out
          rw [← hg'] at e1 hup
          simp only at e1
          refine ⟨min (s - g) (x - g), x, by rw [if_pos hl]; exact ⟨rfl, rfl⟩, by omega, ?_, fun _ => by rw [lim_succ hx], fun _ => by omega⟩
          rw [show min (s - g) (x - g) = min s x - g by omega]
          exact e1
        · have e1 := V_last hx hl HP.out
          rw [← hg'] at e1
          refine ⟨s - g, g, by rw [if_neg hl]; exact ⟨rfl, rfl⟩, by omega, ?_, fun q => absurd q hl, fun q => absurd q hl⟩
          rw [List.drop_eq_nil_of_le (by omega), val]
          omega
      have hD := drop_ok ST.out (k + 1) (lim ss (k + 1)) s
      have hN := piece_nonneg (x := (x, y, c)) q ⟨y1, y2, c1, c3⟩
      have HP0 := Lib.hid (fun hq => piece_zero (x := (x, y, c)) (p := q) hq)
      have HP1 := Lib.hid (fun hq => piece_pos (x := (x, y, c)) (p := q) hq)
      have HU := Lib.hid (fun hq => units_pos (x := (x, y, c)) (p := q) hq ⟨y1, y2, c1, c3⟩)
      have hqr : q ≤ 68719476736 := by omega
      have hqn : -68719476736 ≤ q := by split at hq <;> omega
      generalize piece (x, y, c) q = pc at *
      generalize hrest : val (ss.drop (k + 1)) (lim ss (k + 1)) s = rest at *
      have HV0 : Hid (p + pc + val (ss.drop (k + 1)) (lim ss (k + 1)) s = V ss s) := by rw [hrest]; exact hval
      have HV1 := Lib.hid hval
      have HL := Lib.hid hlim
      have HQ := Lib.hid hq
      have HD := Lib.hid hD
      have HX := Lib.hid hx1
      clear hval hlim hq hD hrest HG HP hx hx1
      by_cases hq0 : q ≤ 0
      · have HV : Hid (p + val (ss.drop (k + 1)) (lim ss (k + 1)) s = V ss s) := by have := HV0.out; have := HP0.out hq0; unfold Hid; omega
        by_cases hl : k + 1 < ss.length
        · have hl2 : (k : Int) + 1 < (ss.length : Int) := (by omega); obtain ⟨hmin, rfl⟩ : min (s - g) (x - g) = q ∧ x = n := (by have := HQ.out; rwa [if_pos hl] at this); obtain ⟨hx1, hx2⟩ := HX.out hl; 
          go_wp2; go_roundw; (case rel => exact ⟨k + 1, _, _, by omega, by go_num, rfl, rfl, HL.out, HV.out, by omega, by omega, hbA⟩); (case measure => simp [RowKit.intOf]; omega)
        · have hl2 : ¬ (k : Int) + 1 < (ss.length : Int) := (by omega); obtain ⟨hmin, rfl⟩ : s - g = q ∧ g = n := (by have := HQ.out; rwa [if_neg hl] at this); 
          go_wp2; go_roundw; (case rel => exact ⟨k + 1, _, _, by omega, by go_num, rfl, rfl, HL.out, HV.out, by omega, by omega, hbA⟩); (case measure => simp [RowKit.intOf]; omega)
      · have hq1 : 0 ≤ q - 1 := by omega
        have HPc := Lib.hid (HP1.out (by omega))
        obtain ⟨hu0, hu1⟩ : 1 ≤ (q - 1) / y + 1 ∧ (q - 1) / y + 1 ≤ q := HU.out (by omega)
        have hu2 : (q - 1) / y + 1 ≤ 68719476736 := by omega
        have hu3 : 0 ≤ (q - 1) / y := by omega
        have hy0 : y ≠ 0 := by omega
        by_cases hc0 : c = 0
        · have HV : Hid (p + val (ss.drop (k + 1)) (lim ss (k + 1)) s = V ss s) := by have := HV0.out; have h5 := HPc.out; rw [hc0, Int.mul_zero] at h5; unfold Hid; omega
          subst hc0
          by_cases hl : k + 1 < ss.length
          · have hl2 : (k : Int) + 1 < (ss.length : Int) := (by omega); obtain ⟨hmin, rfl⟩ : min (s - g) (x - g) = q ∧ x = n := (by have := HQ.out; rwa [if_pos hl] at this); obtain ⟨hx1, hx2⟩ := HX.out hl; 
            go_wp2; go_roundw; (case rel => exact ⟨k + 1, _, _, by omega, by go_num, rfl, rfl, HL.out, HV.out, by omega, by omega, hbA⟩); (case measure => simp [RowKit.intOf]; omega)
          · have hl2 : ¬ (k : Int) + 1 < (ss.length : Int) := (by omega); obtain ⟨hmin, rfl⟩ : s - g = q ∧ g = n := (by have := HQ.out; rwa [if_neg hl] at this); 
            go_wp2; go_roundw; (case rel => exact ⟨k + 1, _, _, by omega, by go_num, rfl, rfl, HL.out, HV.out, by omega, by omega, hbA⟩); (case measure => simp [RowKit.intOf]; omega)
        · have hc1 : 0 < c := by omega
          by_cases hu : 1125899906842624 / c < (q - 1) / y + 1
          · have hbig : 1125899906842624 < ((q - 1) / y + 1) * c := (Int.ediv_lt_iff_lt_mul hc1).1 hu
            obtain ⟨rfl, rfl⟩ := no'.out (by have h5 := HPc.out; have := HV1.out; have := HD.out; simp only at h5; omega)
            by_cases hl : k + 1 < ss.length
            · have hl2 : (k : Int) + 1 < (ss.length : Int) := (by omega); obtain ⟨hmin, rfl⟩ : min (s - g) (x - g) = q ∧ x = n := (by have := HQ.out; rwa [if_pos hl] at this); obtain ⟨hx1, hx2⟩ := HX.out hl; 
              go_wp2; all_goals (go_ret2; exact ⟨rfl, belA⟩)
            · have hl2 : ¬ (k : Int) + 1 < (ss.length : Int) := (by omega); obtain ⟨hmin, rfl⟩ : s - g = q ∧ g = n := (by have := HQ.out; rwa [if_neg hl] at this); 
              go_wp2; all_goals (go_ret2; exact ⟨rfl, belA⟩)
          · have hm1 : ((q - 1) / y + 1) * c ≤ 1125899906842624 := by have := mt (Int.ediv_lt_iff_lt_mul hc1).2 hu; omega
            have hm0 : 0 ≤ ((q - 1) / y + 1) * c := Int.mul_nonneg (by omega) c1
            by_cases hs : p + ((q - 1) / y + 1) * c ≤ 1125899906842624
            · have HV : Hid (p + ((q - 1) / y + 1) * c + val (ss.drop (k + 1)) (lim ss (k + 1)) s = V ss s) := by rw [← show pc = ((q - 1) / y + 1) * c from HPc.out]; exact HV0.out
              by_cases hl : k + 1 < ss.length
              · have hl2 : (k : Int) + 1 < (ss.length : Int) := (by omega); obtain ⟨hmin, rfl⟩ : min (s - g) (x - g) = q ∧ x = n := (by have := HQ.out; rwa [if_pos hl] at this); obtain ⟨hx1, hx2⟩ := HX.out hl; 
                go_wp2; go_roundw; (case rel => exact ⟨k + 1, _, _, by omega, by go_num, rfl, rfl, HL.out, HV.out, by omega, by omega, hbA⟩); (case measure => simp [RowKit.intOf]; omega)
              · have hl2 : ¬ (k : Int) + 1 < (ss.length : Int) := (by omega); obtain ⟨hmin, rfl⟩ : s - g = q ∧ g = n := (by have := HQ.out; rwa [if_neg hl] at this); 
                go_wp2; go_roundw; (case rel => exact ⟨k + 1, _, _, by omega, by go_num, rfl, rfl, HL.out, HV.out, by omega, by omega, hbA⟩); (case measure => simp [RowKit.intOf]; omega)
            · obtain ⟨rfl, rfl⟩ := no'.out (by have h5 := HPc.out; have := HV1.out; have := HD.out; simp only at h5; omega)
              by_cases hl : k + 1 < ss.length
              · have hl2 : (k : Int) + 1 < (ss.length : Int) := (by omega); obtain ⟨hmin, rfl⟩ : min (s - g) (x - g) = q ∧ x = n := (by have := HQ.out; rwa [if_pos hl] at this); obtain ⟨hx1, hx2⟩ := HX.out hl; 
                go_wp2; all_goals (go_ret2; exact ⟨rfl, belA⟩)
              · have hl2 : ¬ (k : Int) + 1 < (ss.length : Int) := (by omega); obtain ⟨hmin, rfl⟩ : s - g = q ∧ g = n := (by have := HQ.out; rwa [if_neg hl] at this); 
                go_wp2; all_goals (go_ret2; exact ⟨rfl, belA⟩)
    · obtain rfl : k = ss.length := by omega
      have E0 : Hid (p = V ss s) := by have := HP.out; rw [List.drop_eq_nil_of_le (Nat.le_refl _), val] at this; unfold Hid; omega
      obtain ⟨rfl, rfl⟩ := ok'.out (by have := E0.out; omega)
      clear HG HP ok' no'
      go_wp2
      all_goals (go_ret2; rw [← E0.out]; exact ⟨rfl, bel⟩)

end Go.Proofs.YtcpfiiapfggmpaaGreat
