/- The laws DeviceChecks, DeviceClocks, DeviceOutages, walked. -/
import Derived.Test.YtflihhikofkheaaDevAwake
import Derived.Test.YtflihhikofkheaaDevRCheck
import Derived.Test.YtflihhikofkheaaDevRClock
import Derived.Test.YtflihhikofkheaaDevROut
import Derived.Test.YtflihhikofkheaaDevLawFns
namespace Go.Proofs.Ytflihhikofkheaa
open Go.RowKit Go.Lib

set_option maxRecDepth 100000 in
set_option maxHeartbeats 8000000 in
theorem deviceChecks_walk {A : Option Addr} (c : Nat) {l : List Dv} (n : Nw) {w : World} (h : Rd encD 6 w w.heap.size A l) (hz : DsOk w l) (hn : NwOk w n) :
    Calls Try.prog 3 #[.slice A l.length c, NV n] w fun e w' => e = .returned (.bool true) ∧ Below w.heap.size w w' := by
  have CG := Lib.hid (fun (X : World) (hX : Below w.heap.size w X) => great_any c (h.st hX))
  have C1 := Lib.hid (fun (g : GOk l) (g2 : n.ps.length ≤ 200) (X : World) (hX : Below w.heap.size w X) => dcheck_any c n (h.st hX) (hz.st hX) (hn.st hX) g.small (by omega))
  have C2 := Lib.hid (fun (g : GOk l) (g2 : n.ps.length ≤ 200) (X : World) (hX : Below w.heap.size w X) => rcheck_any c n (h.st hX) (hz.st hX) (hn.st hX) g.small (by omega))
  generalize devsE n.ps l = r at *
  clear h hz hn
  obtain ⟨pA, pc, ps, lA, ln2, lc⟩ := n
  simp only [NV] at *
  obtain ⟨Y, hY⟩ : ∃ Y, w.alloc (.cells #[.slice pA ps.length pc, .slice lA ln2 lc] 26) = Y := ⟨_, rfl⟩
  have bW : Below w.heap.size w Y := by rw [← hY]; exact (Below.refl _ w).al _
  have bN : Blk Y w.heap.size #[.slice pA ps.length pc, .slice lA ln2 lc] 26 := by rw [← hY]; exact Blk.new w _ _
  go_enter Try.func3, Try.ntmps3
  go_wp2_with fail
  refine (CG.out _ bW).mono ?_
  rintro e w2 ⟨b, rfl, hb, hbn⟩
  have HB := Lib.hid hb
  clear hb
  have bW : Below w.heap.size w w2 := (by first | exact bW.st hbn | exact bW.drew.st hbn); have bN : Blk w2 w.heap.size #[.slice pA ps.length pc, .slice lA ln2 lc] 26 := (by first | exact bN.below hbn bN.lt | exact bN.drew.below hbn bN.lt); have n0 : World.cell? w2 ⟨w.heap.size, 0, none⟩ = some (.slice pA ps.length pc) := bN.cell 0 rfl; have n1 : World.cell? w2 ⟨w.heap.size, 1, none⟩ = some (.slice lA ln2 lc) := bN.cell 1 rfl
  cases b
  · by_cases hp : 200 < ps.length
    · go_wp2_with fail; refine (awake_any _).mono ?_; rintro e wl ⟨rfl, hbl⟩; have bL := bW.st hbl; go_wp2_with fail; go_ret; exact ⟨rfl, bL⟩
    · have C1 := Lib.hid (C1.out (HB.out rfl) (by omega))
      have C2 := Lib.hid (C2.out (HB.out rfl) (by omega))
      clear HB CG
      go_wp2_with fail
      go_region_held3 (fun w' => w'.cell? ⟨w.heap.size, 0, none⟩ = some (.slice pA ps.length pc) ∧ w'.cell? ⟨w.heap.size, 1, none⟩ = some (.slice lA ln2 lc)) (go_keep) (first | (go_at_call 11; (with_reducible refine (C1.out _ (by first | exact bW | exact bW.drew)).mono ?_); rintro e wn ⟨rfl, hbn⟩; have bW : Below w.heap.size w wn := (by first | exact bW.st hbn | exact bW.drew.st hbn); have bN : Blk wn w.heap.size #[.slice pA ps.length pc, .slice lA ln2 lc] 26 := (by first | exact bN.below hbn bN.lt | exact bN.drew.below hbn bN.lt); have n0 : World.cell? wn ⟨w.heap.size, 0, none⟩ = some (.slice pA ps.length pc) := bN.cell 0 rfl; have n1 : World.cell? wn ⟨w.heap.size, 1, none⟩ = some (.slice lA ln2 lc) := bN.cell 1 rfl) | (go_at_call 12; (with_reducible refine (C2.out _ (by first | exact bW | exact bW.drew)).mono ?_); rintro e wn ⟨rfl, hbn⟩; have bW : Below w.heap.size w wn := (by first | exact bW.st hbn | exact bW.drew.st hbn); have bN : Blk wn w.heap.size #[.slice pA ps.length pc, .slice lA ln2 lc] 26 := (by first | exact bN.below hbn bN.lt | exact bN.drew.below hbn bN.lt); have n0 : World.cell? wn ⟨w.heap.size, 0, none⟩ = some (.slice pA ps.length pc) := bN.cell 0 rfl; have n1 : World.cell? wn ⟨w.heap.size, 1, none⟩ = some (.slice lA ln2 lc) := bN.cell 1 rfl) | (go_at_call 10; (refine (awake_any _).mono ?_); rintro e wn ⟨rfl, hbn⟩; have bW : Below w.heap.size w wn := (by first | exact bW.st hbn | exact bW.drew.st hbn); have bN : Blk wn w.heap.size #[.slice pA ps.length pc, .slice lA ln2 lc] 26 := (by first | exact bN.below hbn bN.lt | exact bN.drew.below hbn bN.lt); have n0 : World.cell? wn ⟨w.heap.size, 0, none⟩ = some (.slice pA ps.length pc) := bN.cell 0 rfl; have n1 : World.cell? wn ⟨w.heap.size, 1, none⟩ = some (.slice lA ln2 lc) := bN.cell 1 rfl))
      all_goals
        go_wp2
        go_ret
        first | exact ⟨rfl, bW⟩ | exact ⟨rfl, bW.drew⟩
  · go_wp2_with fail; refine (awake_any _).mono ?_; rintro e wl ⟨rfl, hbl⟩; have bL := bW.st hbl; go_wp2_with fail; go_ret; exact ⟨rfl, bL⟩

set_option maxRecDepth 100000 in
set_option maxHeartbeats 8000000 in
theorem deviceClocks_walk (d : Dv) (raw t : Int) {w : World} (h : DOk w d) :
    Calls Try.prog 4 #[DV d, .int .i64 raw, .int .i64 t] w fun e w' => e = .returned (.bool true) ∧ Below w.heap.size w w' := by
  have C1 := Lib.hid (fun (g : d.os.length ≤ 1000) (X : World) (hX : Below w.heap.size w X) => dclock_any d raw (h.st hX) (by omega))
  have C2 := Lib.hid (fun (g : d.os.length ≤ 1000) (X : World) (hX : Below w.heap.size w X) => rclock_any d raw (h.st hX) (by omega))
  have C3 := Lib.hid (fun (g : d.ds.length ≤ 1000) (X : World) (hX : Below w.heap.size w X) => dworks_any d t (h.st hX) (by omega))
  have C4 := Lib.hid (fun (g : d.ds.length ≤ 1000) (X : World) (hX : Below w.heap.size w X) => rworks_any d t (h.st hX) (by omega))
  generalize clockN d raw = cn at *
  generalize clockB d raw = cb at *
  generalize worksB d t = wb at *
  clear h
  obtain ⟨nm, pt, kd, ln, oA, oc, os, dA, dc, ds⟩ := d
  simp only [DV] at *
  obtain ⟨Y1, hY1⟩ : ∃ Y, w.alloc (.cells #[.string nm, .string pt, .int .i64 kd, .int .i64 ln, .slice oA os.length oc, .slice dA ds.length dc] 36) = Y := ⟨_, rfl⟩; have bW : Below w.heap.size w Y1 := (by rw [← hY1]; exact (Below.refl _ w).al _); have bZ : Blk Y1 w.heap.size #[.string nm, .string pt, .int .i64 kd, .int .i64 ln, .slice oA os.length oc, .slice dA ds.length dc] 36 := (by rw [← hY1]; exact Blk.new w _ _); have q0 : World.cell? Y1 ⟨w.heap.size, 0, none⟩ = some (.string nm) := bZ.cell 0 rfl; have q1 : World.cell? Y1 ⟨w.heap.size, 1, none⟩ = some (.string pt) := bZ.cell 1 rfl; have q2 : World.cell? Y1 ⟨w.heap.size, 2, none⟩ = some (.int .i64 kd) := bZ.cell 2 rfl; have q3 : World.cell? Y1 ⟨w.heap.size, 3, none⟩ = some (.int .i64 ln) := bZ.cell 3 rfl; have q4 : World.cell? Y1 ⟨w.heap.size, 4, none⟩ = some (.slice oA os.length oc) := bZ.cell 4 rfl; have q5 : World.cell? Y1 ⟨w.heap.size, 5, none⟩ = some (.slice dA ds.length dc) := bZ.cell 5 rfl
  by_cases g1 : 1000 < os.length
  · go_enter Try.func4, Try.ntmps4
    go_wp2_with fail; refine (awake_any _).mono ?_; rintro e wl ⟨rfl, hbl⟩; have bL := bW.st hbl; go_wp2_with fail; go_ret; exact ⟨rfl, bL⟩
  · by_cases g2 : 1000 < ds.length
    · go_enter Try.func4, Try.ntmps4
      go_wp2_with fail; refine (awake_any _).mono ?_; rintro e wl ⟨rfl, hbl⟩; have bL := bW.st hbl; go_wp2_with fail; go_ret; exact ⟨rfl, bL⟩
    · have C1 := Lib.hid (C1.out (by omega))
      have C2 := Lib.hid (C2.out (by omega))
      have C3 := Lib.hid (C3.out (by omega))
      have C4 := Lib.hid (C4.out (by omega))
      go_enter Try.func4, Try.ntmps4
      go_wp2_with fail
      refine (C1.out _ bW).mono ?_
      rintro e wn ⟨rfl, hbn⟩
      have bW : Below w.heap.size w wn := (by first | exact bW.st hbn | exact bW.drew.st hbn); have bZ : Blk wn w.heap.size #[.string nm, .string pt, .int .i64 kd, .int .i64 ln, .slice oA os.length oc, .slice dA ds.length dc] 36 := (by first | exact bZ.below hbn bZ.lt | exact bZ.drew.below hbn bZ.lt); have q0 : World.cell? wn ⟨w.heap.size, 0, none⟩ = some (.string nm) := bZ.cell 0 rfl; have q1 : World.cell? wn ⟨w.heap.size, 1, none⟩ = some (.string pt) := bZ.cell 1 rfl; have q2 : World.cell? wn ⟨w.heap.size, 2, none⟩ = some (.int .i64 kd) := bZ.cell 2 rfl; have q3 : World.cell? wn ⟨w.heap.size, 3, none⟩ = some (.int .i64 ln) := bZ.cell 3 rfl; have q4 : World.cell? wn ⟨w.heap.size, 4, none⟩ = some (.slice oA os.length oc) := bZ.cell 4 rfl; have q5 : World.cell? wn ⟨w.heap.size, 5, none⟩ = some (.slice dA ds.length dc) := bZ.cell 5 rfl
      go_wp2_with fail
      refine (C2.out _ bW).mono ?_
      rintro e wm ⟨rfl, hbn⟩
      have bW : Below w.heap.size w wm := (by first | exact bW.st hbn | exact bW.drew.st hbn); have bZ : Blk wm w.heap.size #[.string nm, .string pt, .int .i64 kd, .int .i64 ln, .slice oA os.length oc, .slice dA ds.length dc] 36 := (by first | exact bZ.below hbn bZ.lt | exact bZ.drew.below hbn bZ.lt); have q0 : World.cell? wm ⟨w.heap.size, 0, none⟩ = some (.string nm) := bZ.cell 0 rfl; have q1 : World.cell? wm ⟨w.heap.size, 1, none⟩ = some (.string pt) := bZ.cell 1 rfl; have q2 : World.cell? wm ⟨w.heap.size, 2, none⟩ = some (.int .i64 kd) := bZ.cell 2 rfl; have q3 : World.cell? wm ⟨w.heap.size, 3, none⟩ = some (.int .i64 ln) := bZ.cell 3 rfl; have q4 : World.cell? wm ⟨w.heap.size, 4, none⟩ = some (.slice oA os.length oc) := bZ.cell 4 rfl; have q5 : World.cell? wm ⟨w.heap.size, 5, none⟩ = some (.slice dA ds.length dc) := bZ.cell 5 rfl
      have e1 : (cn == cn) = true := by simp
      have e2 : (cb == cb) = true := by simp
      have e3 : (wb == wb) = true := by simp
      go_wp2_with fail
      go_region_held3 (fun w' => w'.cell? ⟨w.heap.size, 0, none⟩ = some (.string nm) ∧ w'.cell? ⟨w.heap.size, 1, none⟩ = some (.string pt) ∧ w'.cell? ⟨w.heap.size, 2, none⟩ = some (.int .i64 kd) ∧ w'.cell? ⟨w.heap.size, 3, none⟩ = some (.int .i64 ln) ∧ w'.cell? ⟨w.heap.size, 4, none⟩ = some (.slice oA os.length oc) ∧ w'.cell? ⟨w.heap.size, 5, none⟩ = some (.slice dA ds.length dc)) (go_keep) (first | (go_at_call 15; (with_reducible refine (C3.out _ (by first | exact bW | exact bW.drew)).mono ?_); rintro e wn ⟨rfl, hbn⟩; have bW : Below w.heap.size w wn := (by first | exact bW.st hbn | exact bW.drew.st hbn); have bZ : Blk wn w.heap.size #[.string nm, .string pt, .int .i64 kd, .int .i64 ln, .slice oA os.length oc, .slice dA ds.length dc] 36 := (by first | exact bZ.below hbn bZ.lt | exact bZ.drew.below hbn bZ.lt); have q0 : World.cell? wn ⟨w.heap.size, 0, none⟩ = some (.string nm) := bZ.cell 0 rfl; have q1 : World.cell? wn ⟨w.heap.size, 1, none⟩ = some (.string pt) := bZ.cell 1 rfl; have q2 : World.cell? wn ⟨w.heap.size, 2, none⟩ = some (.int .i64 kd) := bZ.cell 2 rfl; have q3 : World.cell? wn ⟨w.heap.size, 3, none⟩ = some (.int .i64 ln) := bZ.cell 3 rfl; have q4 : World.cell? wn ⟨w.heap.size, 4, none⟩ = some (.slice oA os.length oc) := bZ.cell 4 rfl; have q5 : World.cell? wn ⟨w.heap.size, 5, none⟩ = some (.slice dA ds.length dc) := bZ.cell 5 rfl) | (go_at_call 16; (with_reducible refine (C4.out _ (by first | exact bW | exact bW.drew)).mono ?_); rintro e wn ⟨rfl, hbn⟩; have bW : Below w.heap.size w wn := (by first | exact bW.st hbn | exact bW.drew.st hbn); have bZ : Blk wn w.heap.size #[.string nm, .string pt, .int .i64 kd, .int .i64 ln, .slice oA os.length oc, .slice dA ds.length dc] 36 := (by first | exact bZ.below hbn bZ.lt | exact bZ.drew.below hbn bZ.lt); have q0 : World.cell? wn ⟨w.heap.size, 0, none⟩ = some (.string nm) := bZ.cell 0 rfl; have q1 : World.cell? wn ⟨w.heap.size, 1, none⟩ = some (.string pt) := bZ.cell 1 rfl; have q2 : World.cell? wn ⟨w.heap.size, 2, none⟩ = some (.int .i64 kd) := bZ.cell 2 rfl; have q3 : World.cell? wn ⟨w.heap.size, 3, none⟩ = some (.int .i64 ln) := bZ.cell 3 rfl; have q4 : World.cell? wn ⟨w.heap.size, 4, none⟩ = some (.slice oA os.length oc) := bZ.cell 4 rfl; have q5 : World.cell? wn ⟨w.heap.size, 5, none⟩ = some (.slice dA ds.length dc) := bZ.cell 5 rfl) | (go_at_call 10; (refine (awake_any _).mono ?_); rintro e wn ⟨rfl, hbn⟩; have bW : Below w.heap.size w wn := (by first | exact bW.st hbn | exact bW.drew.st hbn); have bZ : Blk wn w.heap.size #[.string nm, .string pt, .int .i64 kd, .int .i64 ln, .slice oA os.length oc, .slice dA ds.length dc] 36 := (by first | exact bZ.below hbn bZ.lt | exact bZ.drew.below hbn bZ.lt); have q0 : World.cell? wn ⟨w.heap.size, 0, none⟩ = some (.string nm) := bZ.cell 0 rfl; have q1 : World.cell? wn ⟨w.heap.size, 1, none⟩ = some (.string pt) := bZ.cell 1 rfl; have q2 : World.cell? wn ⟨w.heap.size, 2, none⟩ = some (.int .i64 kd) := bZ.cell 2 rfl; have q3 : World.cell? wn ⟨w.heap.size, 3, none⟩ = some (.int .i64 ln) := bZ.cell 3 rfl; have q4 : World.cell? wn ⟨w.heap.size, 4, none⟩ = some (.slice oA os.length oc) := bZ.cell 4 rfl; have q5 : World.cell? wn ⟨w.heap.size, 5, none⟩ = some (.slice dA ds.length dc) := bZ.cell 5 rfl))
      all_goals
        go_wp2
        go_ret
        first | exact ⟨rfl, bW⟩ | exact ⟨rfl, bW.drew⟩

theorem out_same {pt : ByteArray} {kd : Int} {l r1 r2 : List Dv} {n1 n2 : List Iv} (h1 : AtOf pt kd l r1) (h2 : AtOf pt kd l r2) (k1 : NF n1) (k2 : NF n2) (m1 : ∀ t, Mem n1 t ↔ NoneAt r1 t) (m2 : ∀ t, Mem n2 t ↔ NoneAt r2 t) : n1 = n2 :=
  k1.unique k2 fun t => by rw [m1, m2, NoneAt.of h1, NoneAt.of h2]

set_option maxRecDepth 100000 in
set_option maxHeartbeats 8000000 in
theorem deviceOutages_walk {A : Option Addr} (c : Nat) {l : List Dv} (pt : ByteArray) (kd : Int) {w : World} (h : Rd encD 6 w w.heap.size A l) (hz : DsOk w l) :
    Calls Try.prog 5 #[.slice A l.length c, .agg #[.string pt, .int .i64 kd]] w fun e w' => e = .returned (.bool true) ∧ Below w.heap.size w w' := by
  have CG := Lib.hid (fun (X : World) (hX : Below w.heap.size w X) => great_any c (h.st hX))
  have C1 := Lib.hid (fun (g : GOk l) (X : World) (hX : Below w.heap.size w X) => dout_any c pt kd (h.st hX) (hz.st hX) g.small (by have := g.1; omega))
  have C2 := Lib.hid (fun (g : GOk l) (g2 : l.length ≤ 60) (X : World) (hX : Below w.heap.size w X) => rout_any c pt kd (h.st hX) (hz.st hX) g2 (fun d hd => (g.2 d hd).2))
  clear h hz
  obtain ⟨Y, hY⟩ : ∃ Y, w.alloc (.cells #[.string pt, .int .i64 kd] 42) = Y := ⟨_, rfl⟩
  have bW : Below w.heap.size w Y := by rw [← hY]; exact (Below.refl _ w).al _
  have bN : Blk Y w.heap.size #[.string pt, .int .i64 kd] 42 := by rw [← hY]; exact Blk.new w _ _
  have n0 : World.cell? Y ⟨w.heap.size, 0, none⟩ = some (.string pt) := bN.cell 0 rfl; have n1 : World.cell? Y ⟨w.heap.size, 1, none⟩ = some (.int .i64 kd) := bN.cell 1 rfl
  by_cases hp : 60 < l.length
  · go_enter Try.func5, Try.ntmps5
    go_wp2_with fail; refine (awake_any _).mono ?_; rintro e wl ⟨rfl, hbl⟩; have bL := bW.st hbl; go_wp2_with fail; go_ret; exact ⟨rfl, bL⟩
  · go_enter Try.func5, Try.ntmps5
    go_wp2_with fail
    refine (CG.out _ bW).mono ?_
    rintro e w2 ⟨b, rfl, hb, hbn⟩
    have HB := Lib.hid hb
    clear hb
    have bW : Below w.heap.size w w2 := (by first | exact bW.st hbn | exact bW.drew.st hbn); have bN : Blk w2 w.heap.size #[.string pt, .int .i64 kd] 42 := (by first | exact bN.below hbn bN.lt | exact bN.drew.below hbn bN.lt); have n0 : World.cell? w2 ⟨w.heap.size, 0, none⟩ = some (.string pt) := bN.cell 0 rfl; have n1 : World.cell? w2 ⟨w.heap.size, 1, none⟩ = some (.int .i64 kd) := bN.cell 1 rfl
    cases b
    · have C1 := Lib.hid (C1.out (HB.out rfl))
      have C2 := Lib.hid (C2.out (HB.out rfl) (by omega))
      clear HB CG
      go_wp2_with fail
      go_region_held3 (fun w' => w'.cell? ⟨w.heap.size, 0, none⟩ = some (.string pt) ∧ w'.cell? ⟨w.heap.size, 1, none⟩ = some (.int .i64 kd)) (go_keep) (first | (go_at_call 18; (with_reducible refine (C1.out _ (by first | exact bW | exact bW.drew)).mono ?_); rintro e wn ⟨r1, ha1, A1, c1, n1, rfl, hn1, hm1, ho1, hbn⟩; have HM1 := Lib.hid hm1; clear hm1; have ro1 := ho1.rd encIv_ok; clear ho1; have bW : Below w.heap.size w wn := (by first | exact bW.st hbn | exact bW.drew.st hbn); have bN : Blk wn w.heap.size #[.string pt, .int .i64 kd] 42 := (by first | exact bN.below hbn bN.lt | exact bN.drew.below hbn bN.lt); have n0 : World.cell? wn ⟨w.heap.size, 0, none⟩ = some (.string pt) := bN.cell 0 rfl; have n1 : World.cell? wn ⟨w.heap.size, 1, none⟩ = some (.int .i64 kd) := bN.cell 1 rfl; (try have ro2 := ro2.st hbn)) | (go_at_call 19; (with_reducible refine (C2.out _ (by first | exact bW | exact bW.drew)).mono ?_); rintro e wn ⟨r2, ha2, A2, c2, n2, rfl, hn2, hm2, ho2, hbn⟩; have HM2 := Lib.hid hm2; clear hm2; have ro2 := ho2.rd encIv_ok; clear ho2; have bW : Below w.heap.size w wn := (by first | exact bW.st hbn | exact bW.drew.st hbn); have bN : Blk wn w.heap.size #[.string pt, .int .i64 kd] 42 := (by first | exact bN.below hbn bN.lt | exact bN.drew.below hbn bN.lt); have n0 : World.cell? wn ⟨w.heap.size, 0, none⟩ = some (.string pt) := bN.cell 0 rfl; have n1 : World.cell? wn ⟨w.heap.size, 1, none⟩ = some (.int .i64 kd) := bN.cell 1 rfl; (try have ro1 := ro1.st hbn)) | (go_at_call 17; (obtain rfl := out_same ha1 ha2 hn1 hn2 HM1.out HM2.out); have hln := hn1.length_max; (with_reducible refine (sameSpans_true c1 c2 ro1 ro2 (by omega)).mono ?_); rintro e wn ⟨rfl, hbn⟩; have bW : Below w.heap.size w wn := (by first | exact bW.st hbn | exact bW.drew.st hbn); have bN : Blk wn w.heap.size #[.string pt, .int .i64 kd] 42 := (by first | exact bN.below hbn bN.lt | exact bN.drew.below hbn bN.lt); have n0 : World.cell? wn ⟨w.heap.size, 0, none⟩ = some (.string pt) := bN.cell 0 rfl; have n1 : World.cell? wn ⟨w.heap.size, 1, none⟩ = some (.int .i64 kd) := bN.cell 1 rfl) | (go_at_call 10; (refine (awake_any _).mono ?_); rintro e wn ⟨rfl, hbn⟩; have bW : Below w.heap.size w wn := (by first | exact bW.st hbn | exact bW.drew.st hbn); have bN : Blk wn w.heap.size #[.string pt, .int .i64 kd] 42 := (by first | exact bN.below hbn bN.lt | exact bN.drew.below hbn bN.lt); have n0 : World.cell? wn ⟨w.heap.size, 0, none⟩ = some (.string pt) := bN.cell 0 rfl; have n1 : World.cell? wn ⟨w.heap.size, 1, none⟩ = some (.int .i64 kd) := bN.cell 1 rfl))
      all_goals
        go_wp2
        go_ret
        first | exact ⟨rfl, bW⟩ | exact ⟨rfl, bW.drew⟩
    · go_wp2_with fail; refine (awake_any _).mono ?_; rintro e wl ⟨rfl, hbl⟩; have bL := bW.st hbl; go_wp2_with fail; go_ret; exact ⟨rfl, bL⟩
end Go.Proofs.Ytflihhikofkheaa
