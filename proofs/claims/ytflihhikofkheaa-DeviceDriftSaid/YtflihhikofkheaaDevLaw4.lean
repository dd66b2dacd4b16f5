/- The law DeviceDrift, walked. -/
import Derived.Test.YtflihhikofkheaaDevAwake
import Derived.Test.YtflihhikofkheaaDevSame
import Derived.Test.YtflihhikofkheaaDevLawFns
namespace Go.Proofs.Ytflihhikofkheaa
open Go.RowKit Go.Lib

theorem firstE_zero {f : Nat → Int} {n : Nat} (h : firstE f n = 0) : ∀ j, j < n → f j = 0 := by
  intro j
  induction j using Nat.strongRecOn with
  | ind j ih =>
    intro hj
    by_cases hf : f j = 0
    · exact hf
    · have := firstE_some (fun m hm => ih m hm (by omega)) hj hf
      rw [h] at this
      exact absurd this.symm hf
theorem offs_small {os : List Iv} (h : offsE os = 0) : ∀ o ∈ os, -86400 ≤ o.2 ∧ o.2 ≤ 86400 := by
  intro o ho
  obtain ⟨i, hi, rfl⟩ := List.getElem_of_mem ho
  have h1 := firstE_zero h i hi
  rw [offE_at (List.getElem?_eq_getElem hi)] at h1
  unfold offX at h1
  split at h1
  · exact absurd h1 (by decide)
  · split at h1
    · exact absurd h1 (by decide)
    · rename_i q
      omega
theorem delta_small {os : List Iv} (h : ∀ o ∈ os, -86400 ≤ o.2 ∧ o.2 ≤ 86400) (raw : Int) : -86400 ≤ delta os raw ∧ delta os raw ≤ 86400 := by
  unfold delta
  have gen : ∀ (l : List Iv) (d : Int), (∀ o ∈ l, -86400 ≤ o.2 ∧ o.2 ≤ 86400) → -86400 ≤ d ∧ d ≤ 86400 → -86400 ≤ l.foldl (fun d o => if o.1 ≤ raw then o.2 else d) d ∧ l.foldl (fun d o => if o.1 ≤ raw then o.2 else d) d ≤ 86400 := by
    intro l
    induction l with
    | nil => intro d _ hd; exact hd
    | cons o l ih =>
      intro d hl hd
      rw [List.foldl_cons]
      refine ih _ (fun x hx => hl x (by simp [hx])) ?_
      split
      · exact hl o (by simp)
      · exact hd
  exact gen os 0 h (by omega)
theorem drift_at {ps : List Pt} {l : List Dv} (h : devsE ps l = 0) {k : Nat} {d : Dv} (hx : l[k]? = some d) : findD l d.name = some d ∧ ∀ raw, -86400 ≤ delta d.os raw ∧ delta d.os raw ≤ 86400 := by
  unfold devsE at h
  split at h
  · exact absurd h (by decide)
  · have h1 := firstE_zero h k (List.getElem?_eq_some_iff.1 hx).1
    rw [devE_at hx] at h1
    unfold devX at h1
    split at h1
    · exact absurd h1 (by decide)
    · split at h1
      · exact absurd h1 (by decide)
      · rename_i hdup
        refine ⟨findD_at hx ?_ (eqS_refl _), delta_small (offs_small ?_)⟩
        · have : ((l.take k).any fun y => eqS y.name d.name) = false := by simpa using hdup
          rw [List.any_eq_false] at this
          intro y hy
          have := this y hy
          simpa using this
        · unfold oneE at h1
          split at h1
          · exact absurd h1 (by decide)
          · split at h1
            · exact absurd h1 (by decide)
            · split at h1
              · rename_i q; exact absurd h1 q
              · rename_i q; simpa using q
theorem drift_yes {d : Dv} {raw : Int} (hd : -86400 ≤ delta d.os raw ∧ delta d.os raw ≤ 86400) (h : clockB d raw = true) :
    0 ≤ clockN d raw ∧ clockN d raw < 68719476736 ∧ clockN d raw - raw ≤ 86400 ∧ raw - clockN d raw ≤ 86400 := by
  have e : clockN d raw = raw + delta d.os raw := by unfold clockN; rw [if_pos h]
  unfold clockB at h
  simp only [Bool.and_eq_true, decide_eq_true_eq] at h
  rw [e]
  omega
theorem drift_no {d : Dv} {raw : Int} (hd : -86400 ≤ delta d.os raw ∧ delta d.os raw ≤ 86400) (ht : tB raw = true) (h : clockB d raw = false) : raw < 86400 ∨ 68719390336 ≤ raw := by
  have := tB_yes ht
  unfold clockB at h
  rw [ht] at h
  simp only [Bool.true_and, Bool.and_eq_false_iff, decide_eq_false_iff_not] at h
  omega

set_option maxRecDepth 100000 in
set_option maxHeartbeats 16000000 in
theorem deviceDrift_walk {A : Option Addr} (c : Nat) {l : List Dv} (n : Nw) (raw : Int) {w : World} (h : Rd encD 6 w w.heap.size A l) (hz : DsOk w l) (hn : NwOk w n) (hm : l.length ≤ 9223372036854775807) :
    Calls Try.prog 8 #[.slice A l.length c, NV n, .int .i64 raw] w fun e w' => e = .returned (.bool true) ∧ Below w.heap.size w w' := by
  have CG := Lib.hid (fun (X : World) (hX : Below w.heap.size w X) => great_any c (h.st hX))
  have C1 := Lib.hid (fun (g : GOk l) (g2 : n.ps.length ≤ 200) (X : World) (hX : Below w.heap.size w X) => dcheck_any c n (h.st hX) (hz.st hX) (hn.st hX) g.small (by omega))
  have C2 := Lib.hid (fun (g : GOk l) (d : Dv) (hd : d ∈ l) (X : World) (hX : Below w.heap.size w X) => dclock_any d raw ((hz d hd).st hX) (by have := (g.2 d hd).1; omega))
  have C3 := Lib.hid (fun (g : GOk l) (d : Dv) (hd : findD l d.name = some d) (X : World) (hX : Below w.heap.size w X) => show Calls Try.prog 21 #[.slice A l.length c, .string d.name] X fun e w' => ∃ d', e = .returned (.tuple #[DV d', .bool true]) ∧ vD d' = vD d ∧ DOk w' d' ∧ Below X.heap.size X w' from by
    have := dfind_any c (nm := d.name) (h.st hX) (hz.st hX) g.small (by have := g.1; omega)
    unfold FindDR at this
    rw [hd] at this
    exact this)
  have HV := Lib.hid (fun (e : devsE n.ps l = 0) (k : Nat) (d : Dv) (hx : l[k]? = some d) => drift_at e hx)
  have HOK := Lib.hid (fun (d : Dv) (hd : d ∈ l) (X : World) (hX : Below w.heap.size w X) => (hz d hd).st hX)
  have HGL := Lib.hid (fun (g : GOk l) (d : Dv) (hd : d ∈ l) (d' : Dv) (e : vD d' = vD d) => show d'.os.length ≤ 9223372036854775807 ∧ d'.ds.length ≤ 9223372036854775807 from by
    have e1 : d'.os = d.os := congrArg (fun v : Val => v.2.2.2.2.1) e
    have e2 : d'.ds = d.ds := congrArg (fun v : Val => v.2.2.2.2.2) e
    rw [e1, e2]
    have := g.2 d hd
    omega)
  have H := Lib.hid h
  generalize hr : devsE n.ps l = r at *
  clear h hz hn hr
  obtain ⟨pA, pc, ps, lA, ln2, lc⟩ := n
  simp only [NV] at *
  obtain ⟨Y, hY⟩ : ∃ Y, w.alloc (.cells #[.slice pA ps.length pc, .slice lA ln2 lc] 26) = Y := ⟨_, rfl⟩
  have bW : Below w.heap.size w Y := by rw [← hY]; exact (Below.refl _ w).al _
  have bN : Blk Y w.heap.size #[.slice pA ps.length pc, .slice lA ln2 lc] 26 := by rw [← hY]; exact Blk.new w _ _
  go_enter Try.func8, Try.ntmps8
  go_wp2_with fail
  refine (CG.out _ bW).mono ?_
  rintro e w2 ⟨b, rfl, hb, hbn⟩
  have HB := Lib.hid hb
  clear hb hY
  have bW : Below w.heap.size w w2 := (by first | exact bW.st hbn | exact bW.drew.st hbn); have bN : Blk w2 w.heap.size #[.slice pA ps.length pc, .slice lA ln2 lc] 26 := (by first | exact bN.below hbn bN.lt | exact bN.drew.below hbn bN.lt); have n0 : World.cell? w2 ⟨w.heap.size, 0, none⟩ = some (.slice pA ps.length pc) := bN.cell 0 rfl; have n1 : World.cell? w2 ⟨w.heap.size, 1, none⟩ = some (.slice lA ln2 lc) := bN.cell 1 rfl
  cases b
  · by_cases hp : 200 < ps.length
    · go_wp2_with fail; refine (awake_any _).mono ?_; rintro e wl ⟨rfl, hbl⟩; have bL := bW.st hbl; go_wp2_with fail; go_ret; exact ⟨rfl, bL⟩
    · have C1 := Lib.hid (C1.out (HB.out rfl) (by omega))
      have hpd : decide (200 < (ps.length : Int)) = false := decide_eq_false (by omega)
      by_cases hr0 : r = 0
      · have HV2 := Lib.hid (HV.out hr0)
        have C22 := Lib.hid (C2.out (HB.out rfl))
        have C32 := Lib.hid (C3.out (HB.out rfl))
        have HGL2 := Lib.hid (HGL.out (HB.out rfl))
        clear HV C2 C3 HGL HB CG
        subst hr0
        go_wp2_with fail
        refine (C1.out _ bW).mono ?_
        rintro e w3 ⟨rfl, hbn⟩
        have bW := bW.st hbn
        clear bN n0 n1 C1 hbn
        obtain ⟨wE, hwE⟩ : ∃ wE, wE = w3 := ⟨_, rfl⟩
        rw [← hwE] at bW ⊢
        clear hwE
        go_wp2_with fail
        go_loopw [30] (fun i wr => ∃ k : Nat, k ≤ l.length ∧ i = .int .i64 k ∧ Below wE.heap.size wE wr) (fun i _ => l.length - (RowKit.intOf i).toNat)
        case atStart => exact ⟨0, Nat.zero_le _, rfl, Below.refl _ _⟩
        case round =>
          obtain ⟨k, hk, rfl, hbr⟩ := hrel
          by_cases hi : k < l.length
          · have bX := bW.st hbr
            obtain ⟨b, off, d, rfl, hg, hx, d0, d1, d2, d3, d4, d5⟩ := (H.out.st bX).d hi
            have hmem := List.mem_of_getElem? hx
            obtain ⟨hfd, hdl⟩ := HV2.out k d hx
            have CC := Lib.hid (C22.out d hmem)
            have CF := Lib.hid (C32.out d hfd)
            have okd := Lib.hid (HOK.out d hmem)
            have HLN := Lib.hid (HGL2.out d hmem)
            have HY := Lib.hid (fun hb => drift_yes (hdl raw) hb)
            have HN := Lib.hid (fun ht hb => drift_no (d := d) (hdl raw) ht hb)
            have HZ0 := Lib.hid (fun hb => @clock_no d raw hb)
            have HZ1 := Lib.hid (fun ht => @clock_1 d raw ht)
            have HL := Lib.hid hi
            generalize clockN d raw = cn at *
            generalize clockB d raw = cb at *
            clear hx hmem hfd hdl HV2 C22 C32 HOK HGL2 H
            obtain ⟨nmd, ptd, kdd, lnd, oAd, ocd, osd, dAd, dcd, dsd⟩ := d
            simp only [DV] at *
            obtain ⟨Z, hZ⟩ : ∃ Z, wr.alloc (.cells #[.string nmd, .string ptd, .int .i64 kdd, .int .i64 lnd, .slice oAd osd.length ocd, .slice dAd dsd.length dcd] 36) = Z := ⟨_, rfl⟩
            have gZ : Below wr.heap.size wr Z := by rw [← hZ]; exact (Below.refl _ wr).al _
            have bX := bX.st gZ
            have hbr := hbr.st gZ
            have bZ : Blk Z wr.heap.size #[.string nmd, .string ptd, .int .i64 kdd, .int .i64 lnd, .slice oAd osd.length ocd, .slice dAd dsd.length dcd] 36 := by rw [← hZ]; exact Blk.new wr _ _
            have v0 : World.cell? Z ⟨wr.heap.size, 0, none⟩ = some (.string nmd) := bZ.cell 0 rfl; have v1 : World.cell? Z ⟨wr.heap.size, 1, none⟩ = some (.string ptd) := bZ.cell 1 rfl; have v2 : World.cell? Z ⟨wr.heap.size, 2, none⟩ = some (.int .i64 kdd) := bZ.cell 2 rfl; have v3 : World.cell? Z ⟨wr.heap.size, 3, none⟩ = some (.int .i64 lnd) := bZ.cell 3 rfl; have v4 : World.cell? Z ⟨wr.heap.size, 4, none⟩ = some (.slice oAd osd.length ocd) := bZ.cell 4 rfl; have v5 : World.cell? Z ⟨wr.heap.size, 5, none⟩ = some (.slice dAd dsd.length dcd) := bZ.cell 5 rfl
            cases ht : tB raw
            · obtain rfl := HZ1.out ht
              obtain rfl := HZ0.out rfl
              have hno := tB_no ht
              have hw : raw < 0 ∨ (¬ raw < 0 ∧ 68719476736 ≤ raw) := by omega
              clear ht hno HY HN HZ0 HZ1 CF HLN okd
              rcases hw with k1 | ⟨k1, k2⟩
              all_goals
                go_wp2_with fail
                refine (CC.out _ bX).mono ?_
                rintro e w5 ⟨rfl, hbn⟩
                have hbr := hbr.st hbn
                go_wp2_with fail
                go_roundw
                case rel => exact ⟨k + 1, HL.out, by go_num, hbr⟩
                case measure => have := HL.out; (simp [RowKit.intOf]; omega)
            · obtain ⟨k1, k2⟩ := tB_yes ht
              cases cb
              · obtain rfl := HZ0.out rfl
                have hw := HN.out ht rfl
                clear ht HY HN HZ0 HZ1
                rcases hw with k3 | k3
                all_goals
                  go_wp2_with fail
                  refine (CC.out _ bX).mono ?_
                  rintro e w5 ⟨rfl, hbn⟩
                  have hbr := hbr.st hbn
                  have bX := bX.st hbn; have bZ := bZ.below hbn bZ.lt; have v0 : World.cell? w5 ⟨wr.heap.size, 0, none⟩ = some (.string nmd) := bZ.cell 0 rfl; have v1 : World.cell? w5 ⟨wr.heap.size, 1, none⟩ = some (.string ptd) := bZ.cell 1 rfl; have v2 : World.cell? w5 ⟨wr.heap.size, 2, none⟩ = some (.int .i64 kdd) := bZ.cell 2 rfl; have v3 : World.cell? w5 ⟨wr.heap.size, 3, none⟩ = some (.int .i64 lnd) := bZ.cell 3 rfl; have v4 : World.cell? w5 ⟨wr.heap.size, 4, none⟩ = some (.slice oAd osd.length ocd) := bZ.cell 4 rfl; have v5 : World.cell? w5 ⟨wr.heap.size, 5, none⟩ = some (.slice dAd dsd.length dcd) := bZ.cell 5 rfl
                  clear CC hZ gZ
                  go_wp2_with fail; refine (CF.out _ bX).mono ?_; rintro e w6 ⟨⟨nm1, pt1, kd1, ln1, oA1, oc1, os1, dA1, dc1, ds1⟩, rfl, hv1, ok1, hbn⟩; simp only [DV] at *; have bX := bX.st hbn; have bZ := bZ.below hbn bZ.lt; have v0 : World.cell? w6 ⟨wr.heap.size, 0, none⟩ = some (.string nmd) := bZ.cell 0 rfl; have v1 : World.cell? w6 ⟨wr.heap.size, 1, none⟩ = some (.string ptd) := bZ.cell 1 rfl; have v2 : World.cell? w6 ⟨wr.heap.size, 2, none⟩ = some (.int .i64 kdd) := bZ.cell 2 rfl; have v3 : World.cell? w6 ⟨wr.heap.size, 3, none⟩ = some (.int .i64 lnd) := bZ.cell 3 rfl; have v4 : World.cell? w6 ⟨wr.heap.size, 4, none⟩ = some (.slice oAd osd.length ocd) := bZ.cell 4 rfl; have v5 : World.cell? w6 ⟨wr.heap.size, 5, none⟩ = some (.slice dAd dsd.length dcd) := bZ.cell 5 rfl; have hbr := hbr.st hbn; obtain ⟨Y1, hY1⟩ : ∃ Y, World.alloc w6 (.cells #[.string ⟨#[]⟩, .string ⟨#[]⟩, .int .i64 0, .int .i64 0, .slice none 0 0, .slice none 0 0] 36) = Y := ⟨_, rfl⟩; have y1 : Blk Y1 (w6).heap.size #[.string ⟨#[]⟩, .string ⟨#[]⟩, .int .i64 0, .int .i64 0, .slice none 0 0, .slice none 0 0] 36 := (by rw [← hY1]; exact Blk.new _ _ _); have gy1 : Below (w6).heap.size w6 Y1 := (by rw [← hY1]; exact (Below.refl _ _).al _); have m01 : World.cell? Y1 ⟨(w6).heap.size, 0, none⟩ = some (.string ⟨#[]⟩) := y1.cell 0 rfl; have m11 : World.cell? Y1 ⟨(w6).heap.size, 1, none⟩ = some (.string ⟨#[]⟩) := y1.cell 1 rfl; have m21 : World.cell? Y1 ⟨(w6).heap.size, 2, none⟩ = some (.int .i64 0) := y1.cell 2 rfl; have m31 : World.cell? Y1 ⟨(w6).heap.size, 3, none⟩ = some (.int .i64 0) := y1.cell 3 rfl; have m41 : World.cell? Y1 ⟨(w6).heap.size, 4, none⟩ = some (.slice none 0 0) := y1.cell 4 rfl; have m51 : World.cell? Y1 ⟨(w6).heap.size, 5, none⟩ = some (.slice none 0 0) := y1.cell 5 rfl; have x01 := y1.frozen 0; have x11 := y1.frozen 1; have x21 := y1.frozen 2; have x31 := y1.frozen 3; have x41 := y1.frozen 4; have x51 := y1.frozen 5; obtain ⟨X1, hX1⟩ : ∃ X, ((((((Y1).setCell ⟨(w6).heap.size, 0, none⟩ (.string nm1)).setCell ⟨(w6).heap.size, 1, none⟩ (.string pt1)).setCell ⟨(w6).heap.size, 2, none⟩ (.int .i64 kd1)).setCell ⟨(w6).heap.size, 3, none⟩ (.int .i64 ln1)).setCell ⟨(w6).heap.size, 4, none⟩ (.slice oA1 os1.length oc1)).setCell ⟨(w6).heap.size, 5, none⟩ (.slice dA1 ds1.length dc1) = X := ⟨_, rfl⟩; have gX1 : Below (w6).heap.size w6 X1 := (by rw [← hX1]; exact ((((((gy1).setCell (Nat.le_refl _) _).setCell (Nat.le_refl _) _).setCell (Nat.le_refl _) _).setCell (Nat.le_refl _) _).setCell (Nat.le_refl _) _).setCell (Nat.le_refl _) _); have bX1 : Blk X1 (w6).heap.size #[.string nm1, .string pt1, .int .i64 kd1, .int .i64 ln1, .slice oA1 os1.length oc1, .slice dA1 ds1.length dc1] 36 := (by rw [← hX1]; exact ((((((y1).set 0 (.string nm1)).set 1 (.string pt1)).set 2 (.int .i64 kd1)).set 3 (.int .i64 ln1)).set 4 (.slice oA1 os1.length oc1)).set 5 (.slice dA1 ds1.length dc1)); have bX := bX.st gX1; have bZ := bZ.below gX1 bZ.lt; have v0 : World.cell? X1 ⟨wr.heap.size, 0, none⟩ = some (.string nmd) := bZ.cell 0 rfl; have v1 : World.cell? X1 ⟨wr.heap.size, 1, none⟩ = some (.string ptd) := bZ.cell 1 rfl; have v2 : World.cell? X1 ⟨wr.heap.size, 2, none⟩ = some (.int .i64 kdd) := bZ.cell 2 rfl; have v3 : World.cell? X1 ⟨wr.heap.size, 3, none⟩ = some (.int .i64 lnd) := bZ.cell 3 rfl; have v4 : World.cell? X1 ⟨wr.heap.size, 4, none⟩ = some (.slice oAd osd.length ocd) := bZ.cell 4 rfl; have v5 : World.cell? X1 ⟨wr.heap.size, 5, none⟩ = some (.slice dAd dsd.length dcd) := bZ.cell 5 rfl; have hbr := hbr.st gX1; have ok1 := ok1.st gX1; have HV1 := Lib.hid hv1; clear hv1 CF; have lt1 := bX1.lt; have u0 : World.cell? X1 ⟨w6.heap.size, 0, none⟩ = some (.string nm1) := bX1.cell 0 rfl; have u1 : World.cell? X1 ⟨w6.heap.size, 1, none⟩ = some (.string pt1) := bX1.cell 1 rfl; have u2 : World.cell? X1 ⟨w6.heap.size, 2, none⟩ = some (.int .i64 kd1) := bX1.cell 2 rfl; have u3 : World.cell? X1 ⟨w6.heap.size, 3, none⟩ = some (.int .i64 ln1) := bX1.cell 3 rfl; have u4 : World.cell? X1 ⟨w6.heap.size, 4, none⟩ = some (.slice oA1 os1.length oc1) := bX1.cell 4 rfl; have u5 : World.cell? X1 ⟨w6.heap.size, 5, none⟩ = some (.slice dA1 ds1.length dc1) := bX1.cell 5 rfl; have ltZ := bZ.lt; have CS := Lib.hid (rsameD_true _ _ ok1 (okd.out _ bX) HV1.out (HLN.out _ HV1.out).1 (HLN.out _ HV1.out).2); clear ok1 okd; go_wp2_with fail; clear hY1 hX1 y1 gy1 m01 m11 m21 m31 m41 m51 x01 x11 x21 x31 x41 x51; refine CS.out.mono ?_; rintro e w7 ⟨rfl, hbn⟩; have hbr := hbr.st hbn; clear bX1 u0 u1 u2 u3 u4 u5 v0 v1 v2 v3 v4 v5 CS; go_wp2_with fail; go_roundw; (case rel => exact ⟨k + 1, HL.out, by go_num, hbr⟩); (case measure => have := HL.out; (simp [RowKit.intOf]; omega))
              · obtain ⟨c0, c1', c2, c3⟩ := HY.out rfl
                clear ht HY HN HZ0 HZ1
                go_wp2_with fail
                refine (CC.out _ bX).mono ?_
                rintro e w5 ⟨rfl, hbn⟩
                have hbr := hbr.st hbn
                have bX := bX.st hbn; have bZ := bZ.below hbn bZ.lt; have v0 : World.cell? w5 ⟨wr.heap.size, 0, none⟩ = some (.string nmd) := bZ.cell 0 rfl; have v1 : World.cell? w5 ⟨wr.heap.size, 1, none⟩ = some (.string ptd) := bZ.cell 1 rfl; have v2 : World.cell? w5 ⟨wr.heap.size, 2, none⟩ = some (.int .i64 kdd) := bZ.cell 2 rfl; have v3 : World.cell? w5 ⟨wr.heap.size, 3, none⟩ = some (.int .i64 lnd) := bZ.cell 3 rfl; have v4 : World.cell? w5 ⟨wr.heap.size, 4, none⟩ = some (.slice oAd osd.length ocd) := bZ.cell 4 rfl; have v5 : World.cell? w5 ⟨wr.heap.size, 5, none⟩ = some (.slice dAd dsd.length dcd) := bZ.cell 5 rfl
                clear CC hZ gZ
                go_wp2_with fail; refine (CF.out _ bX).mono ?_; rintro e w6 ⟨⟨nm1, pt1, kd1, ln1, oA1, oc1, os1, dA1, dc1, ds1⟩, rfl, hv1, ok1, hbn⟩; simp only [DV] at *; have bX := bX.st hbn; have bZ := bZ.below hbn bZ.lt; have v0 : World.cell? w6 ⟨wr.heap.size, 0, none⟩ = some (.string nmd) := bZ.cell 0 rfl; have v1 : World.cell? w6 ⟨wr.heap.size, 1, none⟩ = some (.string ptd) := bZ.cell 1 rfl; have v2 : World.cell? w6 ⟨wr.heap.size, 2, none⟩ = some (.int .i64 kdd) := bZ.cell 2 rfl; have v3 : World.cell? w6 ⟨wr.heap.size, 3, none⟩ = some (.int .i64 lnd) := bZ.cell 3 rfl; have v4 : World.cell? w6 ⟨wr.heap.size, 4, none⟩ = some (.slice oAd osd.length ocd) := bZ.cell 4 rfl; have v5 : World.cell? w6 ⟨wr.heap.size, 5, none⟩ = some (.slice dAd dsd.length dcd) := bZ.cell 5 rfl; have hbr := hbr.st hbn; obtain ⟨Y1, hY1⟩ : ∃ Y, World.alloc w6 (.cells #[.string ⟨#[]⟩, .string ⟨#[]⟩, .int .i64 0, .int .i64 0, .slice none 0 0, .slice none 0 0] 36) = Y := ⟨_, rfl⟩; have y1 : Blk Y1 (w6).heap.size #[.string ⟨#[]⟩, .string ⟨#[]⟩, .int .i64 0, .int .i64 0, .slice none 0 0, .slice none 0 0] 36 := (by rw [← hY1]; exact Blk.new _ _ _); have gy1 : Below (w6).heap.size w6 Y1 := (by rw [← hY1]; exact (Below.refl _ _).al _); have m01 : World.cell? Y1 ⟨(w6).heap.size, 0, none⟩ = some (.string ⟨#[]⟩) := y1.cell 0 rfl; have m11 : World.cell? Y1 ⟨(w6).heap.size, 1, none⟩ = some (.string ⟨#[]⟩) := y1.cell 1 rfl; have m21 : World.cell? Y1 ⟨(w6).heap.size, 2, none⟩ = some (.int .i64 0) := y1.cell 2 rfl; have m31 : World.cell? Y1 ⟨(w6).heap.size, 3, none⟩ = some (.int .i64 0) := y1.cell 3 rfl; have m41 : World.cell? Y1 ⟨(w6).heap.size, 4, none⟩ = some (.slice none 0 0) := y1.cell 4 rfl; have m51 : World.cell? Y1 ⟨(w6).heap.size, 5, none⟩ = some (.slice none 0 0) := y1.cell 5 rfl; have x01 := y1.frozen 0; have x11 := y1.frozen 1; have x21 := y1.frozen 2; have x31 := y1.frozen 3; have x41 := y1.frozen 4; have x51 := y1.frozen 5; obtain ⟨X1, hX1⟩ : ∃ X, ((((((Y1).setCell ⟨(w6).heap.size, 0, none⟩ (.string nm1)).setCell ⟨(w6).heap.size, 1, none⟩ (.string pt1)).setCell ⟨(w6).heap.size, 2, none⟩ (.int .i64 kd1)).setCell ⟨(w6).heap.size, 3, none⟩ (.int .i64 ln1)).setCell ⟨(w6).heap.size, 4, none⟩ (.slice oA1 os1.length oc1)).setCell ⟨(w6).heap.size, 5, none⟩ (.slice dA1 ds1.length dc1) = X := ⟨_, rfl⟩; have gX1 : Below (w6).heap.size w6 X1 := (by rw [← hX1]; exact ((((((gy1).setCell (Nat.le_refl _) _).setCell (Nat.le_refl _) _).setCell (Nat.le_refl _) _).setCell (Nat.le_refl _) _).setCell (Nat.le_refl _) _).setCell (Nat.le_refl _) _); have bX1 : Blk X1 (w6).heap.size #[.string nm1, .string pt1, .int .i64 kd1, .int .i64 ln1, .slice oA1 os1.length oc1, .slice dA1 ds1.length dc1] 36 := (by rw [← hX1]; exact ((((((y1).set 0 (.string nm1)).set 1 (.string pt1)).set 2 (.int .i64 kd1)).set 3 (.int .i64 ln1)).set 4 (.slice oA1 os1.length oc1)).set 5 (.slice dA1 ds1.length dc1)); have bX := bX.st gX1; have bZ := bZ.below gX1 bZ.lt; have v0 : World.cell? X1 ⟨wr.heap.size, 0, none⟩ = some (.string nmd) := bZ.cell 0 rfl; have v1 : World.cell? X1 ⟨wr.heap.size, 1, none⟩ = some (.string ptd) := bZ.cell 1 rfl; have v2 : World.cell? X1 ⟨wr.heap.size, 2, none⟩ = some (.int .i64 kdd) := bZ.cell 2 rfl; have v3 : World.cell? X1 ⟨wr.heap.size, 3, none⟩ = some (.int .i64 lnd) := bZ.cell 3 rfl; have v4 : World.cell? X1 ⟨wr.heap.size, 4, none⟩ = some (.slice oAd osd.length ocd) := bZ.cell 4 rfl; have v5 : World.cell? X1 ⟨wr.heap.size, 5, none⟩ = some (.slice dAd dsd.length dcd) := bZ.cell 5 rfl; have hbr := hbr.st gX1; have ok1 := ok1.st gX1; have HV1 := Lib.hid hv1; clear hv1 CF; have lt1 := bX1.lt; have u0 : World.cell? X1 ⟨w6.heap.size, 0, none⟩ = some (.string nm1) := bX1.cell 0 rfl; have u1 : World.cell? X1 ⟨w6.heap.size, 1, none⟩ = some (.string pt1) := bX1.cell 1 rfl; have u2 : World.cell? X1 ⟨w6.heap.size, 2, none⟩ = some (.int .i64 kd1) := bX1.cell 2 rfl; have u3 : World.cell? X1 ⟨w6.heap.size, 3, none⟩ = some (.int .i64 ln1) := bX1.cell 3 rfl; have u4 : World.cell? X1 ⟨w6.heap.size, 4, none⟩ = some (.slice oA1 os1.length oc1) := bX1.cell 4 rfl; have u5 : World.cell? X1 ⟨w6.heap.size, 5, none⟩ = some (.slice dA1 ds1.length dc1) := bX1.cell 5 rfl; have ltZ := bZ.lt; have CS := Lib.hid (rsameD_true _ _ ok1 (okd.out _ bX) HV1.out (HLN.out _ HV1.out).1 (HLN.out _ HV1.out).2); clear ok1 okd; go_wp2_with fail; clear hY1 hX1 y1 gy1 m01 m11 m21 m31 m41 m51 x01 x11 x21 x31 x41 x51; refine CS.out.mono ?_; rintro e w7 ⟨rfl, hbn⟩; have hbr := hbr.st hbn; clear bX1 u0 u1 u2 u3 u4 u5 v0 v1 v2 v3 v4 v5 CS; go_wp2_with fail; go_roundw; (case rel => exact ⟨k + 1, HL.out, by go_num, hbr⟩); (case measure => have := HL.out; (simp [RowKit.intOf]; omega))
          · obtain rfl : k = l.length := by omega
            have bW := bW.st hbr
            go_wp2_with fail; refine (awake_any _).mono ?_; rintro e wl ⟨rfl, hbl⟩; have bL := bW.st hbl; go_wp2_with fail; go_ret; exact ⟨rfl, bL⟩
      · have hr1 : (r != 0) = true := by simp [hr0]
        go_wp2_with fail
        refine (C1.out _ bW).mono ?_
        rintro e w3 ⟨rfl, hbn⟩
        have bW : Below w.heap.size w w3 := (by first | exact bW.st hbn | exact bW.drew.st hbn); have bN : Blk w3 w.heap.size #[.slice pA ps.length pc, .slice lA ln2 lc] 26 := (by first | exact bN.below hbn bN.lt | exact bN.drew.below hbn bN.lt); have n0 : World.cell? w3 ⟨w.heap.size, 0, none⟩ = some (.slice pA ps.length pc) := bN.cell 0 rfl; have n1 : World.cell? w3 ⟨w.heap.size, 1, none⟩ = some (.slice lA ln2 lc) := bN.cell 1 rfl
        go_wp2_with fail; refine (awake_any _).mono ?_; rintro e wl ⟨rfl, hbl⟩; have bL := bW.st hbl; go_wp2_with fail; go_ret; exact ⟨rfl, bL⟩
  · go_wp2_with fail; refine (awake_any _).mono ?_; rintro e wl ⟨rfl, hbl⟩; have bL := bW.st hbl; go_wp2_with fail; go_ret; exact ⟨rfl, bL⟩
end Go.Proofs.Ytflihhikofkheaa
