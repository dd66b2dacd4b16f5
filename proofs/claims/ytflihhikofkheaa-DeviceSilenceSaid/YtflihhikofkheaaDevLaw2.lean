/- The law DeviceSilence, walked. -/
import Derived.Test.YtflihhikofkheaaDevAwake
import Derived.Test.YtflihhikofkheaaDevLawFns
namespace Go.Proofs.Ytflihhikofkheaa
open Go.RowKit Go.Lib

def workP (pt : ByteArray) (kd t : Int) (d : Dv) : Bool := selB pt kd d && worksB d t
theorem workP_filter (pt : ByteArray) (kd t : Int) (l : List Dv) : l.any (workP pt kd t) = (l.filter (selB pt kd)).any fun d => worksB d t := by
  induction l with
  | nil => rfl
  | cons d l ih =>
    rw [List.any_cons, ih]
    unfold workP
    cases h : selB pt kd d <;> simp [h]
theorem noneAt_iff (r : List Dv) (t : Int) (ht : 0 ≤ t ∧ t < 68719476736) : NoneAt r t ↔ (r.any fun d => worksB d t) = false := by
  have h1 : tB t = true := by unfold tB; simpa using ht
  unfold NoneAt
  rw [List.any_eq_false]
  constructor
  · rintro ⟨_, h⟩ d hd
    have := (hasB_iff _ _).2 (h d hd)
    unfold worksB
    rw [h1, this]; simp
  · intro h
    refine ⟨ht, fun d hd => ?_⟩
    have := h d hd
    unfold worksB at this
    rw [h1] at this
    rw [← hasB_iff]
    simpa using this
/-- the outage of kind 0 lies in the others -/
theorem silence_sub {pt : ByteArray} {kd : Int} {l r r0 : List Dv} (h : AtOf pt kd l r) (h0 : AtOf pt 0 l r0) {t : Int} (k : NoneAt r0 t) : NoneAt r t := by
  rw [NoneAt.of h0] at k
  rw [NoneAt.of h]
  refine ⟨k.1, fun d hd => k.2 d ?_⟩
  rw [List.mem_filter] at hd ⊢
  refine ⟨hd.1, ?_⟩
  have := hd.2
  unfold selB at this ⊢
  simp only [Bool.and_eq_true] at this ⊢
  exact ⟨this.1, by simp⟩
theorem silence_at {pt : ByteArray} {kd t : Int} {l r : List Dv} {n : List Iv} (ht : 0 ≤ t ∧ t < 68719476736) (h : AtOf pt kd l r) (hn : NF n) (hm : ∀ t, Mem n t ↔ NoneAt r t) : inL n t = !(l.any (workP pt kd t)) := by
  rw [Bool.eq_iff_iff, inL_nf hn, hm, NoneAt.of h, noneAt_iff _ _ ht, workP_filter]
  simp
theorem nf_at {n : List Iv} (h : NF n) {k : Nat} {x y : Int} (hx : n[k]? = some (x, y)) : 0 ≤ x ∧ x < y ∧ y ≤ 68719476736 := h.1 _ (List.mem_of_getElem? hx)
theorem nf_prev {n : List Iv} (h : NF n) {k : Nat} {x y f u : Int} (hk : 0 < k) (hx : n[k]? = some (x, y)) (hp : n[k - 1]? = some (f, u)) : u < x := by
  obtain ⟨h1, e1⟩ := List.getElem?_eq_some_iff.1 hx
  obtain ⟨h2, e2⟩ := List.getElem?_eq_some_iff.1 hp
  have := List.pairwise_iff_getElem.1 h.2 (k - 1) k h2 h1 (by omega)
  rw [e1, e2] at this
  exact this

set_option maxRecDepth 100000 in
set_option maxHeartbeats 16000000 in
theorem deviceSilence_walk {A : Option Addr} (c : Nat) {l : List Dv} (pt : ByteArray) (kd t : Int) {w : World} (h : Rd encD 6 w w.heap.size A l) (hz : DsOk w l) :
    Calls Try.prog 6 #[.slice A l.length c, .agg #[.string pt, .int .i64 kd], .int .i64 t] w fun e w' => e = .returned (.bool true) ∧ Below w.heap.size w w' := by
  have CG := Lib.hid (fun (X : World) (hX : Below w.heap.size w X) => great_any c (h.st hX))
  have C1 := Lib.hid (fun (g : GOk l) (kk : Int) (X : World) (hX : Below w.heap.size w X) => dout_any c pt kk (h.st hX) (hz.st hX) g.small (by have := g.1; omega))
  have C2 := Lib.hid (fun (g : GOk l) (d : Dv) (hd : d ∈ l) (X : World) (hX : Below w.heap.size w X) => dworks_any d t ((hz d hd).st hX) (by have := (g.2 d hd).2; omega))
  have H := Lib.hid h
  clear h hz
  obtain ⟨Y, hY⟩ : ∃ Y, w.alloc (.cells #[.string pt, .int .i64 kd] 42) = Y := ⟨_, rfl⟩
  have bW : Below w.heap.size w Y := by rw [← hY]; exact (Below.refl _ w).al _
  have bN : Blk Y w.heap.size #[.string pt, .int .i64 kd] 42 := by rw [← hY]; exact Blk.new w _ _
  have n0 : World.cell? Y ⟨w.heap.size, 0, none⟩ = some (.string pt) := bN.cell 0 rfl; have n1 : World.cell? Y ⟨w.heap.size, 1, none⟩ = some (.int .i64 kd) := bN.cell 1 rfl
  by_cases hp : 60 < l.length
  · go_enter Try.func6, Try.ntmps6
    go_wp2_with fail; refine (awake_any _).mono ?_; rintro e wl ⟨rfl, hbl⟩; have bL := bW.st hbl; go_wp2_with fail; go_ret; exact ⟨rfl, bL⟩
  · go_enter Try.func6, Try.ntmps6
    go_wp2_with fail
    refine (CG.out _ bW).mono ?_
    rintro e w2 ⟨b, rfl, hb, hbn⟩
    have HB := Lib.hid hb
    clear hb hY
    have bW : Below w.heap.size w w2 := (by first | exact bW.st hbn | exact bW.drew.st hbn); have bN : Blk w2 w.heap.size #[.string pt, .int .i64 kd] 42 := (by first | exact bN.below hbn bN.lt | exact bN.drew.below hbn bN.lt); have n0 : World.cell? w2 ⟨w.heap.size, 0, none⟩ = some (.string pt) := bN.cell 0 rfl; have n1 : World.cell? w2 ⟨w.heap.size, 1, none⟩ = some (.int .i64 kd) := bN.cell 1 rfl
    cases b
    · by_cases t1 : t < 0
      · go_wp2_with fail; refine (awake_any _).mono ?_; rintro e wl ⟨rfl, hbl⟩; have bL := bW.st hbl; go_wp2_with fail; go_ret; exact ⟨rfl, bL⟩
      · by_cases t2 : 68719476736 ≤ t
        · go_wp2_with fail; refine (awake_any _).mono ?_; rintro e wl ⟨rfl, hbl⟩; have bL := bW.st hbl; go_wp2_with fail; go_ret; exact ⟨rfl, bL⟩
        · have C1 := Lib.hid (C1.out (HB.out rfl))
          have C2 := Lib.hid (C2.out (HB.out rfl))
          have hll : l.length ≤ 1100 := (HB.out rfl).1
          have hp2 : decide (60 < (l.length : Int)) = false := decide_eq_false (by omega)
          have ht1 : decide (t < 0) = false := decide_eq_false t1
          have ht2 : decide (68719476736 ≤ t) = false := decide_eq_false t2
          have HT := Lib.hid (show 0 ≤ t ∧ t < 68719476736 by omega)
          clear HB CG
          go_wp2_with fail
          go_region_held3 (fun w' => w'.cell? ⟨w.heap.size, 0, none⟩ = some (.string pt) ∧ w'.cell? ⟨w.heap.size, 1, none⟩ = some (.int .i64 kd)) (go_keep) (first | (go_at_call 18; (with_reducible refine (C1.out kd _ (by first | exact bW | exact bW.drew)).mono ?_); rintro e wn ⟨r1, ha1, A1, c1, n1', rfl, hn1, hm1, ho1, hbn⟩; have HA1 := Lib.hid ha1; have HN1 := Lib.hid hn1; have HM1 := Lib.hid hm1; clear hm1 ha1 hn1; have ro1 := ho1.rd encIv_ok; clear ho1; have bW : Below w.heap.size w wn := (by first | exact bW.st hbn | exact bW.drew.st hbn); have bN : Blk wn w.heap.size #[.string pt, .int .i64 kd] 42 := (by first | exact bN.below hbn bN.lt | exact bN.drew.below hbn bN.lt); have n0 : World.cell? wn ⟨w.heap.size, 0, none⟩ = some (.string pt) := bN.cell 0 rfl; have n1 : World.cell? wn ⟨w.heap.size, 1, none⟩ = some (.int .i64 kd) := bN.cell 1 rfl; (try have ro2 := ro2.st hbn)) | (go_at_call 18; (with_reducible refine (C1.out 0 _ (by first | exact bW | exact bW.drew)).mono ?_); rintro e wn ⟨r2, ha2, A2, c2, n2', rfl, hn2, hm2, ho2, hbn⟩; have HA2 := Lib.hid ha2; have HN2 := Lib.hid hn2; have HM2 := Lib.hid hm2; clear hm2 ha2 hn2; have ro2 := ho2.rd encIv_ok; clear ho2; have bW : Below w.heap.size w wn := (by first | exact bW.st hbn | exact bW.drew.st hbn); have bN : Blk wn w.heap.size #[.string pt, .int .i64 kd] 42 := (by first | exact bN.below hbn bN.lt | exact bN.drew.below hbn bN.lt); have n0 : World.cell? wn ⟨w.heap.size, 0, none⟩ = some (.string pt) := bN.cell 0 rfl; have n1 : World.cell? wn ⟨w.heap.size, 1, none⟩ = some (.int .i64 kd) := bN.cell 1 rfl; (try have ro1 := ro1.st hbn)))
          have HW := Lib.hid (silence_at (pt := pt) (kd := kd) HT.out HA1.out HN1.out HM1.out)
          have HS := Lib.hid (show inL n2' t = true → inL n1' t = true from fun q => (inL_nf HN1.out t).2 ((HM1.out t).2 (silence_sub HA1.out HA2.out ((HM2.out t).1 ((inL_nf HN2.out t).1 q)))))
          have hln1 := HN1.out.length_max
          have hln2 := HN2.out.length_max
          clear HA1 HA2 HM1 HM2 HT C1 HN2
          obtain ⟨wE, hwE⟩ : ∃ wE, wE = wn := ⟨_, rfl⟩
          rw [← hwE] at ro1 ro2 bW bN n0 n1 ⊢
          clear hwE
          go_wp2_with fail
          go_loopw [9, 42] (fun v i wr => ∃ (k : Nat) (q : Bool), k ≤ l.length ∧ i = .int .i64 k ∧ v = .bool q ∧ Hid ((l.take k).any (workP pt kd t) = q) ∧ Below wE.heap.size wE wr) (fun _ i _ => l.length - (intOf i).toNat)
          case atStart => exact ⟨0, false, Nat.zero_le _, rfl, rfl, rfl, Below.refl _ _⟩
          case round =>
            obtain ⟨k, q, hk, rfl, rfl, HQ, hbr⟩ := hrel
            have bX := bW.st hbr
            by_cases hi : k < l.length
            · obtain ⟨b, off, d, rfl, hg, hx, d0, d1, d2, d3, d4, d5⟩ := (H.out.st bX).d hi
              have HA := Lib.hid (show (l.take (k + 1)).any (workP pt kd t) = (q || (selB pt kd d && worksB d t)) by rw [take_snoc hx, List.any_append, HQ.out]; simp [workP])
              have CW := Lib.hid (C2.out d (List.mem_of_getElem? hx))
              have HL := Lib.hid hi
              clear hx HQ
              obtain ⟨nm, pt1, kd1, ln, oA, oc, os, dA, dc, ds⟩ := d
              simp only [DV] at *
              obtain ⟨Z, hZ⟩ : ∃ Z, wr.alloc (.cells #[.string nm, .string pt1, .int .i64 kd1, .int .i64 ln, .slice oA os.length oc, .slice dA ds.length dc] 36) = Z := ⟨_, rfl⟩
              have gZ : Below wr.heap.size wr Z := by rw [← hZ]; exact (Below.refl _ wr).al _
              have bX := bX.st gZ
              have hbr := hbr.st gZ
              have bZ : Blk Z wr.heap.size #[.string nm, .string pt1, .int .i64 kd1, .int .i64 ln, .slice oA os.length oc, .slice dA ds.length dc] 36 := by rw [← hZ]; exact Blk.new wr _ _
              have bN := bN.below hbr bN.lt
              have ltN := bN.lt
              have n0 : World.cell? Z ⟨w.heap.size, 0, none⟩ = some (.string pt) := bN.cell 0 rfl; have n1 : World.cell? Z ⟨w.heap.size, 1, none⟩ = some (.int .i64 kd) := bN.cell 1 rfl
              have q0 : World.cell? Z ⟨wr.heap.size, 0, none⟩ = some (.string nm) := bZ.cell 0 rfl; have q1 : World.cell? Z ⟨wr.heap.size, 1, none⟩ = some (.string pt1) := bZ.cell 1 rfl; have q2 : World.cell? Z ⟨wr.heap.size, 2, none⟩ = some (.int .i64 kd1) := bZ.cell 2 rfl; have q3 : World.cell? Z ⟨wr.heap.size, 3, none⟩ = some (.int .i64 ln) := bZ.cell 3 rfl; have q4 : World.cell? Z ⟨wr.heap.size, 4, none⟩ = some (.slice oA os.length oc) := bZ.cell 4 rfl; have q5 : World.cell? Z ⟨wr.heap.size, 5, none⟩ = some (.slice dA ds.length dc) := bZ.cell 5 rfl
              cases q
              · cases hs : selB pt kd ⟨nm, pt1, kd1, ln, oA, oc, os, dA, dc, ds⟩
                · have HA2 := Lib.hid (show (l.take (k + 1)).any (workP pt kd t) = false by rw [HA.out, hs]; rfl)
                  unfold selB at hs
                  simp only at hs
                  clear HA CW
                  cases he : eqS pt1 pt
                  · have he2 : (pt1.toList == pt.toList) = false := he
                    clear he hs
                    go_wp2_with fail
                    go_roundw
                    case rel => exact ⟨k + 1, false, HL.out, by go_num, rfl, HA2, hbr⟩
                    case measure => have := HL.out; simp [intOf]; omega
                  · have he2 : (pt1.toList == pt.toList) = true := he
                    rw [he] at hs
                    have k1 : (kd == 0) = false := by cases z : (kd == 0) <;> simp_all
                    have k2 : (kd1 == kd) = false := by cases z : (kd1 == kd) <;> simp_all
                    clear he hs
                    go_wp2_with fail
                    go_roundw
                    case rel => exact ⟨k + 1, false, HL.out, by go_num, rfl, HA2, hbr⟩
                    case measure => have := HL.out; simp [intOf]; omega
                · have HA2 := Lib.hid (show (l.take (k + 1)).any (workP pt kd t) = worksB ⟨nm, pt1, kd1, ln, oA, oc, os, dA, dc, ds⟩ t by rw [HA.out, hs]; rfl)
                  generalize worksB ⟨nm, pt1, kd1, ln, oA, oc, os, dA, dc, ds⟩ t = v at *
                  unfold selB at hs
                  simp only [Bool.and_eq_true] at hs
                  obtain ⟨he, hk2⟩ := hs
                  have he2 : (pt1.toList == pt.toList) = true := he
                  clear HA he
                  have hkz : (kd == 0) = true ∨ ((kd == 0) = false ∧ (kd1 == kd) = true) := by
                    cases z : (kd == 0)
                    · right; refine ⟨rfl, ?_⟩; rw [z] at hk2; simpa using hk2
                    · left; rfl
                  clear hk2
                  rcases hkz with z | ⟨z, z2⟩
                  all_goals
                    go_wp2_with fail
                    refine (CW.out _ bX).mono ?_
                    rintro e wk ⟨rfl, hbk⟩
                    go_wp2_with fail
                    go_roundw
                    case rel => exact ⟨k + 1, v, HL.out, by go_num, rfl, HA2, hbr.st hbk⟩
                    case measure => have := HL.out; simp [intOf]; omega
              · have HA2 := Lib.hid (show (l.take (k + 1)).any (workP pt kd t) = true by rw [HA.out]; rfl)
                clear HA CW
                go_wp2_with fail
                go_roundw
                case rel => exact ⟨k + 1, true, HL.out, by go_num, rfl, HA2, hbr⟩
                case measure => have := HL.out; simp [intOf]; omega
            · obtain rfl : k = l.length := by omega
              have HWW := Lib.hid (show inL n1' t = !q by rw [HW.out]; have := HQ.out; rw [List.take_length] at this; rw [this])
              have CI1 := Lib.hid (fun (X : World) (hX : Below wE.heap.size wE X) => lwithin_any c1 (t := t) (ro1.st hX) (by omega))
              have CI2 := Lib.hid (fun (X : World) (hX : Below wE.heap.size wE X) => lwithin_any c2 (t := t) (ro2.st hX) (by omega))
              have HI2 := Lib.hid (show inL n1' t = false → inL n2' t = false from fun h1 => by
                cases h2 : inL n2' t
                · rfl
                · rw [HS.out h2] at h1; cases h1)
              clear HW HQ HS C2
              have HR1 := Lib.hid ro1
              clear ro1 ro2
              generalize inL n1' t = v1 at *
              generalize inL n2' t = v2 at *
              have hqv : v1 = !q := HWW.out
              subst hqv
              clear HWW
              have ways : (q = false ∧ v2 = false) ∨ (q = false ∧ v2 = true) ∨ (q = true ∧ v2 = false) := by
                cases q
                · cases v2
                  · exact .inl ⟨rfl, rfl⟩
                  · exact .inr (.inl ⟨rfl, rfl⟩)
                · exact .inr (.inr ⟨rfl, HI2.out rfl⟩)
              clear HI2 bX
              rcases ways with ⟨rfl, rfl⟩ | ⟨rfl, rfl⟩ | ⟨rfl, rfl⟩
              all_goals
                go_wp2_with (go_at_call 20; (first | (with_reducible refine (CI1.out _ hbr).mono ?_) | (with_reducible refine (CI2.out _ hbr).mono ?_)); rintro e wk ⟨rfl, hbk⟩; have hbr := hbr.st hbk)
                have bW := bW.st hbr
                clear CI1 CI2 bN n0 n1
                obtain ⟨wF, hwF⟩ : ∃ wF, wF = wk := ⟨_, rfl⟩
                have HR2 := Lib.hid (HR1.out.st hbr)
                rw [← hwF] at bW HR2 ⊢
                clear hwF HR1 hbr
                go_loopw [90] (fun i wr => ∃ k : Nat, k ≤ n1'.length ∧ i = .int .i64 k ∧ Below wF.heap.size wF wr) (fun i _ => n1'.length - (intOf i).toNat)
                case atStart => exact ⟨0, Nat.zero_le _, rfl, Below.refl _ _⟩
                case round =>
                  obtain ⟨k, hk, rfl, hbr⟩ := hrel
                  by_cases hi : k < n1'.length
                  · have hr := HR2.out.st hbr
                    have hpv := fun h0 : 0 < k => hr.ivPrev0 h0 hi
                    obtain ⟨b, off, x, y, rfl, hb, hx, c0, c1⟩ := hr.iv hi
                    obtain ⟨x0, x1, x2⟩ := nf_at HN1.out hx
                    have HP := Lib.hid (fun (h0 : 0 < k) (f u : Int) (hp : n1'[k - 1]? = some (f, u)) => nf_prev HN1.out h0 hx hp)
                    have hi1 : (0 : Int) ≤ (k : Int) := by omega
                    have hi2 : (k : Int) < (n1'.length : Int) := by omega
                    have HL := Lib.hid hi
                    have y0 : decide (x < 0) = false := decide_eq_false (by omega)
                    have y1 : decide (y ≤ x) = false := decide_eq_false (by omega)
                    have y2 : decide (68719476736 < y) = false := decide_eq_false (by omega)
                    have hbal := hbr.al (.cells #[.int .i64 x, .int .i64 y] 48)
                    clear hx hr
                    by_cases hk0 : 0 < k
                    · obtain ⟨f, u, hpx, e0, e1⟩ := hpv hk0 b off rfl
                      have hux := HP.out hk0 f u hpx
                      have g1 : (0 : Int) < (k : Int) := by omega
                      have g2 : (0 : Int) ≤ (k : Int) - 1 := by omega
                      have g3 : (k : Int) - 1 < (n1'.length : Int) := by omega
                      have g4 : ((k : Int) - 1).toNat = k - 1 := by omega
                      have g5 : IntKind.i64.wrap ((k : Int) - 1) = (k : Int) - 1 := IntWalk.i64_in _ (by omega)
                      have g6 : decide ((0 : Int) < (k : Int)) = true := decide_eq_true g1
                      have g8 : decide (0 < k) = true := decide_eq_true (by omega)
                      have g9 : decide (x ≤ u) = false := decide_eq_false (by omega)
                      have d3 := (World.cell?_alloc_lt wr (.cells #[.int .i64 x, .int .i64 y] 48) ⟨b, off + (k - 1) * 2 + 1, none⟩ hb).trans e1
                      clear hpx hpv e0 HP
                      go_wp2_with fail
                      go_quiet (fail)
                      go_wp2
                      go_roundw
                      case rel => exact ⟨k + 1, HL.out, by go_num, below_drewN hbal _⟩
                      case measure => have := HL.out; simp [intOf]; omega
                    · have g6 : decide ((0 : Int) < (k : Int)) = false := decide_eq_false (by omega)
                      have g8 : decide (0 < k) = false := decide_eq_false (by omega)
                      clear hpv HP
                      go_wp2_with fail
                      go_quiet (fail)
                      go_wp2
                      go_roundw
                      case rel => exact ⟨k + 1, HL.out, by go_num, below_drewN hbal _⟩
                      case measure => have := HL.out; simp [intOf]; omega
                  · obtain rfl : k = n1'.length := by omega
                    have bW := bW.st hbr
                    go_wp2_with fail; refine (awake_any _).mono ?_; rintro e wl ⟨rfl, hbl⟩; have bL := bW.st hbl; go_wp2_with fail; go_ret; exact ⟨rfl, bL⟩
    · go_wp2_with fail; refine (awake_any _).mono ?_; rintro e wl ⟨rfl, hbl⟩; have bL := bW.st hbl; go_wp2_with fail; go_ret; exact ⟨rfl, bL⟩
end Go.Proofs.Ytflihhikofkheaa
