/- The law DeviceFinds, walked. -/
import Derived.Test.YtflihhikofkheaaDevAwake
import Derived.Test.YtflihhikofkheaaDevRAt
import Derived.Test.YtflihhikofkheaaDevSame
import Derived.Test.YtflihhikofkheaaDevLawFns
namespace Go.Proofs.Ytflihhikofkheaa
open Go.RowKit Go.Lib

theorem find_len {l : List Dv} {nm : ByteArray} (g : GOk l) {d : Dv} (h : vD d = vD ((findD l nm).getD zeroD)) : d.os.length ≤ 40 ∧ d.ds.length ≤ 40 := by
  have e1 : d.os = ((findD l nm).getD zeroD).os := congrArg (fun v : Val => v.2.2.2.2.1) h
  have e2 : d.ds = ((findD l nm).getD zeroD).ds := congrArg (fun v : Val => v.2.2.2.2.2) h
  rw [e1, e2]
  cases hq : findD l nm with
  | none => simp [zeroD]
  | some y =>
    have := g.2 y (List.mem_of_find?_eq_some hq)
    exact this
theorem at_len {l r : List Dv} {pt : ByteArray} {kd : Int} (g : GOk l) (h : AtOf pt kd l r) : r.length ≤ 1100 ∧ ∀ d ∈ r, d.os.length ≤ 40 ∧ d.ds.length ≤ 40 := by
  have hp := h.perm
  refine ⟨?_, fun d hd => ?_⟩
  · have := hp.length_eq
    simp only [List.length_map] at this
    have := List.length_filter_le (selB pt kd) l
    have := g.1
    omega
  · have := hp.subset (List.mem_map_of_mem (f := vD) hd)
    obtain ⟨d2, hd2, e⟩ := List.mem_map.1 this
    have q := g.2 d2 (List.mem_filter.1 hd2).1
    have e1 : d2.os = d.os := congrArg (fun v : Val => v.2.2.2.2.1) e
    have e2 : d2.ds = d.ds := congrArg (fun v : Val => v.2.2.2.2.2) e
    rw [← e1, ← e2]
    exact q
theorem at_same {l r3 r4 : List Dv} {pt : ByteArray} {kd : Int} (h3 : AtOf pt kd l r3) (h4 : AtOf pt kd l r4) : r3.length = r4.length ∧ ∀ (k : Nat) (x y : Dv), r3[k]? = some x → r4[k]? = some y → vD x = vD y := by
  have e := h3.unique h4
  refine ⟨by have := congrArg List.length e; simpa using this, fun k x y hx hy => ?_⟩
  have := congrArg (fun l : List Val => l[k]?) e
  simp only [List.getElem?_map, hx, hy, Option.map_some] at this
  exact Option.some.inj this

set_option maxRecDepth 100000 in
set_option maxHeartbeats 16000000 in
theorem deviceFinds_walk {A : Option Addr} (c : Nat) {l : List Dv} (nm pt : ByteArray) (kd : Int) {w : World} (h : Rd encD 6 w w.heap.size A l) (hz : DsOk w l) (hm : l.length ≤ 9223372036854775807) :
    Calls Try.prog 7 #[.slice A l.length c, .string nm, .agg #[.string pt, .int .i64 kd]] w fun e w' => e = .returned (.bool true) ∧ Below w.heap.size w w' := by
  have CG := Lib.hid (fun (X : World) (hX : Below w.heap.size w X) => great_any c (h.st hX))
  have C1 := Lib.hid (fun (g : GOk l) (X : World) (hX : Below w.heap.size w X) => dfind_any c (nm := nm) (h.st hX) (hz.st hX) g.small (by have := g.1; omega))
  have C2 := Lib.hid (fun (g : GOk l) (X : World) (hX : Below w.heap.size w X) => rfindD_any c (nm := nm) (h.st hX) (hz.st hX) hm)
  have C3 := Lib.hid (fun (g : GOk l) (X : World) (hX : Below w.heap.size w X) => dat_any c pt kd (h.st hX) (hz.st hX) g.small (by have := g.1; omega))
  have C4 := Lib.hid (fun (g : GOk l) (X : World) (hX : Below w.heap.size w X) => rat_any c pt kd (h.st hX) (by have := g.1; omega))
  have HZ := Lib.hid hz
  have HFL := Lib.hid (fun (g : GOk l) (d : Dv) (e : vD d = vD ((findD l nm).getD zeroD)) => find_len g e)
  have HAL := Lib.hid (fun (g : GOk l) (r : List Dv) (e : AtOf pt kd l r) => at_len g e)
  have HAS := Lib.hid (fun (r3 r4 : List Dv) (e3 : AtOf pt kd l r3) (e4 : AtOf pt kd l r4) => at_same e3 e4)
  unfold FindDR at C1 C2
  generalize (findD l nm).isSome = fb at *
  generalize (findD l nm).getD zeroD = fd at *
  clear h hz
  obtain ⟨Y, hY⟩ : ∃ Y, w.alloc (.cells #[.string pt, .int .i64 kd] 42) = Y := ⟨_, rfl⟩
  have bW : Below w.heap.size w Y := by rw [← hY]; exact (Below.refl _ w).al _
  have bN : Blk Y w.heap.size #[.string pt, .int .i64 kd] 42 := by rw [← hY]; exact Blk.new w _ _
  have n0 : World.cell? Y ⟨w.heap.size, 0, none⟩ = some (.string pt) := bN.cell 0 rfl; have n1 : World.cell? Y ⟨w.heap.size, 1, none⟩ = some (.int .i64 kd) := bN.cell 1 rfl
  go_enter Try.func7, Try.ntmps7
  go_wp2_with fail
  refine (CG.out _ bW).mono ?_
  rintro e w2 ⟨b, rfl, hb, hbn⟩
  have HB := Lib.hid hb
  clear hb hY
  have bW : Below w.heap.size w w2 := (by first | exact bW.st hbn | exact bW.drew.st hbn); have bN : Blk w2 w.heap.size #[.string pt, .int .i64 kd] 42 := (by first | exact bN.below hbn bN.lt | exact bN.drew.below hbn bN.lt); have n0 : World.cell? w2 ⟨w.heap.size, 0, none⟩ = some (.string pt) := bN.cell 0 rfl; have n1 : World.cell? w2 ⟨w.heap.size, 1, none⟩ = some (.int .i64 kd) := bN.cell 1 rfl
  cases b
  · have C1 := Lib.hid (C1.out (HB.out rfl))
    have C2 := Lib.hid (C2.out (HB.out rfl))
    have C3 := Lib.hid (C3.out (HB.out rfl))
    have C4 := Lib.hid (C4.out (HB.out rfl))
    have HFL := Lib.hid (HFL.out (HB.out rfl))
    have HAL := Lib.hid (HAL.out (HB.out rfl))
    clear HB CG
    go_wp2_with fail
    refine (C1.out _ bW).mono ?_
    rintro e w3 ⟨⟨nm1, pt1, kd1, ln1, oA1, oc1, os1, dA1, dc1, ds1⟩, rfl, hv1, ok1, hbn⟩
    simp only [DV] at *
    have bW : Below w.heap.size w w3 := (by first | exact bW.st hbn | exact bW.drew.st hbn); have bN : Blk w3 w.heap.size #[.string pt, .int .i64 kd] 42 := (by first | exact bN.below hbn bN.lt | exact bN.drew.below hbn bN.lt); have n0 : World.cell? w3 ⟨w.heap.size, 0, none⟩ = some (.string pt) := bN.cell 0 rfl; have n1 : World.cell? w3 ⟨w.heap.size, 1, none⟩ = some (.int .i64 kd) := bN.cell 1 rfl
    obtain ⟨Y1, hY1⟩ : ∃ Y, World.alloc w3 (.cells #[.string ⟨#[]⟩, .string ⟨#[]⟩, .int .i64 0, .int .i64 0, .slice none 0 0, .slice none 0 0] 36) = Y := ⟨_, rfl⟩; have y1 : Blk Y1 (w3).heap.size #[.string ⟨#[]⟩, .string ⟨#[]⟩, .int .i64 0, .int .i64 0, .slice none 0 0, .slice none 0 0] 36 := (by rw [← hY1]; exact Blk.new _ _ _); have gy1 : Below (w3).heap.size w3 Y1 := (by rw [← hY1]; exact (Below.refl _ _).al _); have m01 : World.cell? Y1 ⟨(w3).heap.size, 0, none⟩ = some (.string ⟨#[]⟩) := y1.cell 0 rfl; have m11 : World.cell? Y1 ⟨(w3).heap.size, 1, none⟩ = some (.string ⟨#[]⟩) := y1.cell 1 rfl; have m21 : World.cell? Y1 ⟨(w3).heap.size, 2, none⟩ = some (.int .i64 0) := y1.cell 2 rfl; have m31 : World.cell? Y1 ⟨(w3).heap.size, 3, none⟩ = some (.int .i64 0) := y1.cell 3 rfl; have m41 : World.cell? Y1 ⟨(w3).heap.size, 4, none⟩ = some (.slice none 0 0) := y1.cell 4 rfl; have m51 : World.cell? Y1 ⟨(w3).heap.size, 5, none⟩ = some (.slice none 0 0) := y1.cell 5 rfl; have x01 := y1.frozen 0; have x11 := y1.frozen 1; have x21 := y1.frozen 2; have x31 := y1.frozen 3; have x41 := y1.frozen 4; have x51 := y1.frozen 5; obtain ⟨X1, hX1⟩ : ∃ X, ((((((Y1).setCell ⟨(w3).heap.size, 0, none⟩ (.string nm1)).setCell ⟨(w3).heap.size, 1, none⟩ (.string pt1)).setCell ⟨(w3).heap.size, 2, none⟩ (.int .i64 kd1)).setCell ⟨(w3).heap.size, 3, none⟩ (.int .i64 ln1)).setCell ⟨(w3).heap.size, 4, none⟩ (.slice oA1 os1.length oc1)).setCell ⟨(w3).heap.size, 5, none⟩ (.slice dA1 ds1.length dc1) = X := ⟨_, rfl⟩; have gX1 : Below (w3).heap.size w3 X1 := (by rw [← hX1]; exact ((((((gy1).setCell (Nat.le_refl _) _).setCell (Nat.le_refl _) _).setCell (Nat.le_refl _) _).setCell (Nat.le_refl _) _).setCell (Nat.le_refl _) _).setCell (Nat.le_refl _) _); have bX1 : Blk X1 (w3).heap.size #[.string nm1, .string pt1, .int .i64 kd1, .int .i64 ln1, .slice oA1 os1.length oc1, .slice dA1 ds1.length dc1] 36 := (by rw [← hX1]; exact ((((((y1).set 0 (.string nm1)).set 1 (.string pt1)).set 2 (.int .i64 kd1)).set 3 (.int .i64 ln1)).set 4 (.slice oA1 os1.length oc1)).set 5 (.slice dA1 ds1.length dc1))
    have hbn := gX1
    have bW : Below w.heap.size w X1 := (by first | exact bW.st hbn | exact bW.drew.st hbn); have bN : Blk X1 w.heap.size #[.string pt, .int .i64 kd] 42 := (by first | exact bN.below hbn bN.lt | exact bN.drew.below hbn bN.lt); have n0 : World.cell? X1 ⟨w.heap.size, 0, none⟩ = some (.string pt) := bN.cell 0 rfl; have n1 : World.cell? X1 ⟨w.heap.size, 1, none⟩ = some (.int .i64 kd) := bN.cell 1 rfl
    have ok1 := ok1.st gX1
    have ltB1 := bX1.lt
    clear C1
    go_wp2_with fail
    clear hY1 hX1 y1 gy1 m01 m11 m21 m31 m41 m51 x01 x11 x21 x31 x41 x51
    refine (C2.out _ bW).mono ?_
    rintro e w4 ⟨⟨nm2, pt2, kd2, ln2, oA2, oc2, os2, dA2, dc2, ds2⟩, rfl, hv2, ok2, hbn⟩
    simp only [DV] at *
    have bW : Below w.heap.size w w4 := (by first | exact bW.st hbn | exact bW.drew.st hbn); have bN : Blk w4 w.heap.size #[.string pt, .int .i64 kd] 42 := (by first | exact bN.below hbn bN.lt | exact bN.drew.below hbn bN.lt); have n0 : World.cell? w4 ⟨w.heap.size, 0, none⟩ = some (.string pt) := bN.cell 0 rfl; have n1 : World.cell? w4 ⟨w.heap.size, 1, none⟩ = some (.int .i64 kd) := bN.cell 1 rfl
    have bX1 := bX1.below hbn bX1.lt
    have ok1 := ok1.st hbn
    obtain ⟨Y2, hY2⟩ : ∃ Y, World.alloc w4 (.cells #[.string ⟨#[]⟩, .string ⟨#[]⟩, .int .i64 0, .int .i64 0, .slice none 0 0, .slice none 0 0] 36) = Y := ⟨_, rfl⟩; have y2 : Blk Y2 (w4).heap.size #[.string ⟨#[]⟩, .string ⟨#[]⟩, .int .i64 0, .int .i64 0, .slice none 0 0, .slice none 0 0] 36 := (by rw [← hY2]; exact Blk.new _ _ _); have gy2 : Below (w4).heap.size w4 Y2 := (by rw [← hY2]; exact (Below.refl _ _).al _); have m02 : World.cell? Y2 ⟨(w4).heap.size, 0, none⟩ = some (.string ⟨#[]⟩) := y2.cell 0 rfl; have m12 : World.cell? Y2 ⟨(w4).heap.size, 1, none⟩ = some (.string ⟨#[]⟩) := y2.cell 1 rfl; have m22 : World.cell? Y2 ⟨(w4).heap.size, 2, none⟩ = some (.int .i64 0) := y2.cell 2 rfl; have m32 : World.cell? Y2 ⟨(w4).heap.size, 3, none⟩ = some (.int .i64 0) := y2.cell 3 rfl; have m42 : World.cell? Y2 ⟨(w4).heap.size, 4, none⟩ = some (.slice none 0 0) := y2.cell 4 rfl; have m52 : World.cell? Y2 ⟨(w4).heap.size, 5, none⟩ = some (.slice none 0 0) := y2.cell 5 rfl; have x02 := y2.frozen 0; have x12 := y2.frozen 1; have x22 := y2.frozen 2; have x32 := y2.frozen 3; have x42 := y2.frozen 4; have x52 := y2.frozen 5; obtain ⟨X2, hX2⟩ : ∃ X, ((((((Y2).setCell ⟨(w4).heap.size, 0, none⟩ (.string nm2)).setCell ⟨(w4).heap.size, 1, none⟩ (.string pt2)).setCell ⟨(w4).heap.size, 2, none⟩ (.int .i64 kd2)).setCell ⟨(w4).heap.size, 3, none⟩ (.int .i64 ln2)).setCell ⟨(w4).heap.size, 4, none⟩ (.slice oA2 os2.length oc2)).setCell ⟨(w4).heap.size, 5, none⟩ (.slice dA2 ds2.length dc2) = X := ⟨_, rfl⟩; have gX2 : Below (w4).heap.size w4 X2 := (by rw [← hX2]; exact ((((((gy2).setCell (Nat.le_refl _) _).setCell (Nat.le_refl _) _).setCell (Nat.le_refl _) _).setCell (Nat.le_refl _) _).setCell (Nat.le_refl _) _).setCell (Nat.le_refl _) _); have bX2 : Blk X2 (w4).heap.size #[.string nm2, .string pt2, .int .i64 kd2, .int .i64 ln2, .slice oA2 os2.length oc2, .slice dA2 ds2.length dc2] 36 := (by rw [← hX2]; exact ((((((y2).set 0 (.string nm2)).set 1 (.string pt2)).set 2 (.int .i64 kd2)).set 3 (.int .i64 ln2)).set 4 (.slice oA2 os2.length oc2)).set 5 (.slice dA2 ds2.length dc2))
    have hbn := gX2
    have bX1 := bX1.below hbn bX1.lt
    have ok1 := ok1.st hbn
    have ok2 := ok2.st hbn
    have bW : Below w.heap.size w X2 := (by first | exact bW.st hbn | exact bW.drew.st hbn); have bN : Blk X2 w.heap.size #[.string pt, .int .i64 kd] 42 := (by first | exact bN.below hbn bN.lt | exact bN.drew.below hbn bN.lt); have n0 : World.cell? X2 ⟨w.heap.size, 0, none⟩ = some (.string pt) := bN.cell 0 rfl; have n1 : World.cell? X2 ⟨w.heap.size, 1, none⟩ = some (.int .i64 kd) := bN.cell 1 rfl
    have hvv := Lib.hid (hv1.trans hv2.symm)
    have hln := HFL.out _ hv1
    have ltB2 := bX2.lt
    have hfb : (fb == fb) = true := by simp
    have hfb2 : (fb != fb) = false := by simp
    have u0 : World.cell? X2 ⟨w3.heap.size, 0, none⟩ = some (.string nm1) := bX1.cell 0 rfl; have u1 : World.cell? X2 ⟨w3.heap.size, 1, none⟩ = some (.string pt1) := bX1.cell 1 rfl; have u2 : World.cell? X2 ⟨w3.heap.size, 2, none⟩ = some (.int .i64 kd1) := bX1.cell 2 rfl; have u3 : World.cell? X2 ⟨w3.heap.size, 3, none⟩ = some (.int .i64 ln1) := bX1.cell 3 rfl; have u4 : World.cell? X2 ⟨w3.heap.size, 4, none⟩ = some (.slice oA1 os1.length oc1) := bX1.cell 4 rfl; have u5 : World.cell? X2 ⟨w3.heap.size, 5, none⟩ = some (.slice dA1 ds1.length dc1) := bX1.cell 5 rfl
    have v0 : World.cell? X2 ⟨w4.heap.size, 0, none⟩ = some (.string nm2) := bX2.cell 0 rfl; have v1 : World.cell? X2 ⟨w4.heap.size, 1, none⟩ = some (.string pt2) := bX2.cell 1 rfl; have v2 : World.cell? X2 ⟨w4.heap.size, 2, none⟩ = some (.int .i64 kd2) := bX2.cell 2 rfl; have v3 : World.cell? X2 ⟨w4.heap.size, 3, none⟩ = some (.int .i64 ln2) := bX2.cell 3 rfl; have v4 : World.cell? X2 ⟨w4.heap.size, 4, none⟩ = some (.slice oA2 os2.length oc2) := bX2.cell 4 rfl; have v5 : World.cell? X2 ⟨w4.heap.size, 5, none⟩ = some (.slice dA2 ds2.length dc2) := bX2.cell 5 rfl
    have CS := Lib.hid (rsameD_true _ _ ok1 ok2 hvv.out (by omega) (by omega))
    clear C2 hv1 hv2 HFL hvv hln ok1 ok2
    go_wp2_with fail
    clear hY2 hX2 y2 gy2 m02 m12 m22 m32 m42 m52 x02 x12 x22 x32 x42 x52
    refine CS.out.mono ?_
    rintro e w5 ⟨rfl, hbn⟩
    have bW : Below w.heap.size w w5 := (by first | exact bW.st hbn | exact bW.drew.st hbn); have bN : Blk w5 w.heap.size #[.string pt, .int .i64 kd] 42 := (by first | exact bN.below hbn bN.lt | exact bN.drew.below hbn bN.lt); have n0 : World.cell? w5 ⟨w.heap.size, 0, none⟩ = some (.string pt) := bN.cell 0 rfl; have n1 : World.cell? w5 ⟨w.heap.size, 1, none⟩ = some (.int .i64 kd) := bN.cell 1 rfl
    clear bX1 bX2 u0 u1 u2 u3 u4 u5 v0 v1 v2 v3 v4 v5 CS
    go_wp2_with fail
    go_region_held3 (fun w' => w'.cell? ⟨w.heap.size, 0, none⟩ = some (.string pt) ∧ w'.cell? ⟨w.heap.size, 1, none⟩ = some (.int .i64 kd)) (go_keep) (first | (go_at_call 24; (with_reducible refine (C3.out _ (by first | exact bW | exact bW.drew)).mono ?_); rintro e wn ⟨A3, c3, r3, rfl, ho3, hd3, ha3, hbn⟩; have HA3 := Lib.hid ha3; have HD3 := Lib.hid (fun d hd => (hd3 d hd).ok); clear ha3 hd3; have ro3 := ho3.rd encD_ok; clear ho3; have bW : Below w.heap.size w wn := (by first | exact bW.st hbn | exact bW.drew.st hbn); have bN : Blk wn w.heap.size #[.string pt, .int .i64 kd] 42 := (by first | exact bN.below hbn bN.lt | exact bN.drew.below hbn bN.lt); have n0 : World.cell? wn ⟨w.heap.size, 0, none⟩ = some (.string pt) := bN.cell 0 rfl; have n1 : World.cell? wn ⟨w.heap.size, 1, none⟩ = some (.int .i64 kd) := bN.cell 1 rfl; (try have ro4 := ro4.st hbn); (try have HD4 := Lib.hid (fun d hd => (HD4.out d hd).st hbn))) | (go_at_call 25; (with_reducible refine (C4.out _ (by first | exact bW | exact bW.drew)).mono ?_); rintro e wn ⟨A4, c4, r4, rfl, ho4, hd4, ha4, hbn⟩; have HA4 := Lib.hid ha4; have bW : Below w.heap.size w wn := (by first | exact bW.st hbn | exact bW.drew.st hbn); have bN : Blk wn w.heap.size #[.string pt, .int .i64 kd] 42 := (by first | exact bN.below hbn bN.lt | exact bN.drew.below hbn bN.lt); have n0 : World.cell? wn ⟨w.heap.size, 0, none⟩ = some (.string pt) := bN.cell 0 rfl; have n1 : World.cell? wn ⟨w.heap.size, 1, none⟩ = some (.int .i64 kd) := bN.cell 1 rfl; have HD4 := Lib.hid (fun d hd => (HZ.out d (hd4 d hd)).st bW); clear ha4 hd4; have ro4 := ho4.rd encD_ok; clear ho4; (try have ro3 := ro3.st hbn); (try have HD3 := Lib.hid (fun d hd => (HD3.out d hd).st hbn))))
    all_goals
      obtain ⟨hl34, hvk⟩ := HAS.out _ _ HA3.out HA4.out
      obtain ⟨hl3, hs3⟩ := HAL.out _ HA3.out
      have HVK := Lib.hid hvk
      have HS3 := Lib.hid hs3
      have hl5 : ((r3.length : Int) != (r4.length : Int)) = false := by simp [hl34]
      have HL34 := Lib.hid hl34
      clear hvk hs3 HA3 HA4 HAS HAL C3 C4 hl34
      obtain ⟨wE, hwE⟩ : ∃ wE, wE = wn := ⟨_, rfl⟩
      rw [← hwE] at HD3 HD4 ro3 ro4 bW ⊢
      clear hwE
      go_wp2_with fail
      go_loopw [57] (fun i wr => ∃ k : Nat, k ≤ r3.length ∧ i = .int .i64 k ∧ Below wE.heap.size wE wr) (fun i _ => r3.length - (intOf i).toNat)
      case atStart => exact ⟨0, Nat.zero_le _, rfl, Below.refl _ _⟩
      case round =>
        obtain ⟨k, hk, rfl, hbr⟩ := hrel
        by_cases hi : k < r3.length
        · obtain ⟨b3, off3, dd3, rfl, hg3, hx3, d0, d1, d2, d3, d4, d5⟩ := (ro3.st hbr).d hi
          obtain ⟨b4, off4, dd4, rfl, hg4, hx4, e0, e1, e2, e3, e4, e5⟩ := (ro4.st hbr).d (show k < r4.length by have := HL34.out; omega)
          have hv := HVK.out k _ _ hx3 hx4
          have hln := HS3.out _ (List.mem_of_getElem? hx3)
          have ok3 := (HD3.out _ (List.mem_of_getElem? hx3)).st hbr
          have ok4 := (HD4.out _ (List.mem_of_getElem? hx4)).st hbr
          have CS := Lib.hid (fun (X : World) (hX : Below wr.heap.size wr X) => rsameD_true _ _ (ok3.st hX) (ok4.st hX) hv (by omega) (by omega))
          have hi1 : (0 : Int) ≤ (k : Int) := by omega
          have hi2 : (k : Int) < (r3.length : Int) := by omega
          have hi3 : (k : Int) < (r4.length : Int) := by have := HL34.out; omega
          have HL := Lib.hid hi
          clear hx3 hx4 hv hln ok3 ok4
          obtain ⟨nm3, pt3, kd3, ln3, oA3, oc3, os3, dA3, dc3, ds3⟩ := dd3
          obtain ⟨nm4, pt4, kd4, ln4, oA4, oc4, os4, dA4, dc4, ds4⟩ := dd4
          simp only [DV] at *
          have bz := Below.refl wr.heap.size wr
          go_wp2_with fail
          go_region_held3 (fun w' => w'.cell? ⟨b3, off3 + k * 6, none⟩ = some (.string nm3) ∧ w'.cell? ⟨b3, off3 + k * 6 + 1, none⟩ = some (.string pt3) ∧ w'.cell? ⟨b3, off3 + k * 6 + 2, none⟩ = some (.int .i64 kd3) ∧ w'.cell? ⟨b3, off3 + k * 6 + 3, none⟩ = some (.int .i64 ln3) ∧ w'.cell? ⟨b3, off3 + k * 6 + 4, none⟩ = some (.slice oA3 os3.length oc3) ∧ w'.cell? ⟨b3, off3 + k * 6 + 5, none⟩ = some (.slice dA3 ds3.length dc3) ∧ w'.cell? ⟨b4, off4 + k * 6, none⟩ = some (.string nm4) ∧ w'.cell? ⟨b4, off4 + k * 6 + 1, none⟩ = some (.string pt4) ∧ w'.cell? ⟨b4, off4 + k * 6 + 2, none⟩ = some (.int .i64 kd4) ∧ w'.cell? ⟨b4, off4 + k * 6 + 3, none⟩ = some (.int .i64 ln4) ∧ w'.cell? ⟨b4, off4 + k * 6 + 4, none⟩ = some (.slice oA4 os4.length oc4) ∧ w'.cell? ⟨b4, off4 + k * 6 + 5, none⟩ = some (.slice dA4 ds4.length dc4)) (go_keep) ((go_at_call 23; (with_reducible refine (CS.out _ (by first | exact bz | exact bz.drew)).mono ?_); rintro e wk ⟨rfl, hbk⟩; (first | have bN9 : Below wr.heap.size wr wk := hbk | have bN9 : Below wr.heap.size wr wk := bz.drew.st hbk); have t0 := (bN9.cell (p := ⟨b3, off3 + k * 6, none⟩) hg3).trans d0; have t1 := (bN9.cell (p := ⟨b3, off3 + k * 6 + 1, none⟩) hg3).trans d1; have t2 := (bN9.cell (p := ⟨b3, off3 + k * 6 + 2, none⟩) hg3).trans d2; have t3 := (bN9.cell (p := ⟨b3, off3 + k * 6 + 3, none⟩) hg3).trans d3; have t4 := (bN9.cell (p := ⟨b3, off3 + k * 6 + 4, none⟩) hg3).trans d4; have t5 := (bN9.cell (p := ⟨b3, off3 + k * 6 + 5, none⟩) hg3).trans d5; have z0 := (bN9.cell (p := ⟨b4, off4 + k * 6, none⟩) hg4).trans e0; have z1 := (bN9.cell (p := ⟨b4, off4 + k * 6 + 1, none⟩) hg4).trans e1; have z2 := (bN9.cell (p := ⟨b4, off4 + k * 6 + 2, none⟩) hg4).trans e2; have z3 := (bN9.cell (p := ⟨b4, off4 + k * 6 + 3, none⟩) hg4).trans e3; have z4 := (bN9.cell (p := ⟨b4, off4 + k * 6 + 4, none⟩) hg4).trans e4; have z5 := (bN9.cell (p := ⟨b4, off4 + k * 6 + 5, none⟩) hg4).trans e5))
          all_goals
            go_wp2
            go_roundw
            case rel => exact ⟨k + 1, HL.out, by go_num, by first | exact hbr.st bN9 | exact (hbr.st bN9).drew⟩
            case measure => have := HL.out; simp [intOf]; omega
        · obtain rfl : k = r3.length := by omega
          have bW := bW.st hbr
          go_wp2_with fail; refine (awake_any _).mono ?_; rintro e wl ⟨rfl, hbl⟩; have bL := bW.st hbl; go_wp2_with fail; go_ret; exact ⟨rfl, bL⟩
  · go_wp2_with fail; refine (awake_any _).mono ?_; rintro e wl ⟨rfl, hbl⟩; have bL := bW.st hbl; go_wp2_with fail; go_ret; exact ⟨rfl, bL⟩
end Go.Proofs.Ytflihhikofkheaa
