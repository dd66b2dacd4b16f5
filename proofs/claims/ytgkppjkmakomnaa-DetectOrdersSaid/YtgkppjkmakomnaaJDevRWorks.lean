/- Joined texts: DevRWorks, DevRClock. -/
import Derived.Test.YtgkppjkmakomnaaJDevEnc
import Derived.Test.YtgkppjkmakomnaaJValid
import Derived.Deep.RegionHeld3
import Derived.Test.YtgkppjkmakomnaaJDevClock
/- Works of the reference, walked. -/
namespace Go.Proofs.Ytgkppjkmakomnaa
open Go.RowKit Go.Lib

theorem hasB_snoc (l : List Iv) (x : Iv) (t : Int) : hasB (l ++ [x]) t = (hasB l t || (validB x.1 x.2 && decide (x.1 ≤ t) && decide (t < x.2))) := by simp [hasB]
theorem hasB_take {l : List Iv} {k : Nat} {x : Iv} {t : Int} (hx : l[k]? = some x) (h : (validB x.1 x.2 && decide (x.1 ≤ t) && decide (t < x.2)) = true) : hasB l t = true := by
  unfold hasB
  rw [List.any_eq_true]
  exact ⟨x, List.mem_of_getElem? hx, h⟩

set_option maxHeartbeats 4000000 in
theorem rworks_any (d : Dv) (t : Int) {w : World} (h : DOk w d) (hl : d.ds.length ≤ 100000000000) :
    Calls Try.prog 37 #[DV d, .int .i64 t] w fun e w' => e = .returned (.bool (worksB d t)) ∧ Below w.heap.size w w' := by
  have h2 := Lib.hid h.2
  have CT := Lib.hid (fun w => rtime_any t w)
  unfold worksB
  clear h
  obtain ⟨nm, pt, kd, ln, oA, oc, os, dA, dc, ds⟩ := d
  simp only [DV] at *
  cases ht : tB t
  · rw [ht] at CT
    obtain ⟨Y1, hY1⟩ : ∃ Y, w.alloc (.cells #[.string nm, .string pt, .int .i64 kd, .int .i64 ln, .slice oA os.length oc, .slice dA ds.length dc] 59) = Y := ⟨_, rfl⟩; have bW : Below w.heap.size w Y1 := (by rw [← hY1]; exact (Below.refl _ w).al _); have bZ : Blk Y1 w.heap.size #[.string nm, .string pt, .int .i64 kd, .int .i64 ln, .slice oA os.length oc, .slice dA ds.length dc] 59 := (by rw [← hY1]; exact Blk.new w _ _); have q0 : World.cell? Y1 ⟨w.heap.size, 0, none⟩ = some (.string nm) := bZ.cell 0 rfl; have q1 : World.cell? Y1 ⟨w.heap.size, 1, none⟩ = some (.string pt) := bZ.cell 1 rfl; have q2 : World.cell? Y1 ⟨w.heap.size, 2, none⟩ = some (.int .i64 kd) := bZ.cell 2 rfl; have q3 : World.cell? Y1 ⟨w.heap.size, 3, none⟩ = some (.int .i64 ln) := bZ.cell 3 rfl; have q4 : World.cell? Y1 ⟨w.heap.size, 4, none⟩ = some (.slice oA os.length oc) := bZ.cell 4 rfl; have q5 : World.cell? Y1 ⟨w.heap.size, 5, none⟩ = some (.slice dA ds.length dc) := bZ.cell 5 rfl
    go_enter Try.func37, Try.ntmps37
    go_wp2_with fail
    refine (CT.out _).mono ?_
    rintro e w' ⟨rfl, rfl⟩
    go_wp2
    all_goals (go_ret; exact ⟨rfl, bW⟩)
  · rw [ht] at CT
    have HB := Lib.hid (fun k x (hx : ds[k]? = some x) q => hasB_take (t := t) hx q)
    obtain ⟨Y1, hY1⟩ : ∃ Y, w.alloc (.cells #[.string nm, .string pt, .int .i64 kd, .int .i64 ln, .slice oA os.length oc, .slice dA ds.length dc] 59) = Y := ⟨_, rfl⟩; have bW : Below w.heap.size w Y1 := (by rw [← hY1]; exact (Below.refl _ w).al _); have bZ : Blk Y1 w.heap.size #[.string nm, .string pt, .int .i64 kd, .int .i64 ln, .slice oA os.length oc, .slice dA ds.length dc] 59 := (by rw [← hY1]; exact Blk.new w _ _); have q0 : World.cell? Y1 ⟨w.heap.size, 0, none⟩ = some (.string nm) := bZ.cell 0 rfl; have q1 : World.cell? Y1 ⟨w.heap.size, 1, none⟩ = some (.string pt) := bZ.cell 1 rfl; have q2 : World.cell? Y1 ⟨w.heap.size, 2, none⟩ = some (.int .i64 kd) := bZ.cell 2 rfl; have q3 : World.cell? Y1 ⟨w.heap.size, 3, none⟩ = some (.int .i64 ln) := bZ.cell 3 rfl; have q4 : World.cell? Y1 ⟨w.heap.size, 4, none⟩ = some (.slice oA os.length oc) := bZ.cell 4 rfl; have q5 : World.cell? Y1 ⟨w.heap.size, 5, none⟩ = some (.slice dA ds.length dc) := bZ.cell 5 rfl
    go_enter Try.func37, Try.ntmps37
    go_wp2_with fail
    refine (CT.out _).mono ?_
    rintro e w' ⟨rfl, rfl⟩
    go_wp2_with fail
    go_loopw [5] (fun i wr => ∃ (k : Nat), k ≤ ds.length ∧ i = .int .i64 k ∧ Hid (hasB (ds.take k) t = false) ∧ Below w'.heap.size w' wr) (fun i _ => ds.length - (intOf i).toNat)
    case atStart => exact ⟨0, Nat.zero_le _, rfl, rfl, Below.refl _ _⟩
    case round =>
      obtain ⟨k, hk, rfl, HQ, hbr⟩ := hrel
      have hbn := hbr
      have bW : Below w.heap.size w wr := (by first | exact bW.st hbn | exact bW.drew.st hbn); have bZ : Blk wr w.heap.size #[.string nm, .string pt, .int .i64 kd, .int .i64 ln, .slice oA os.length oc, .slice dA ds.length dc] 59 := (by first | exact bZ.below hbn bZ.lt | exact bZ.drew.below hbn bZ.lt); have q0 : World.cell? wr ⟨w.heap.size, 0, none⟩ = some (.string nm) := bZ.cell 0 rfl; have q1 : World.cell? wr ⟨w.heap.size, 1, none⟩ = some (.string pt) := bZ.cell 1 rfl; have q2 : World.cell? wr ⟨w.heap.size, 2, none⟩ = some (.int .i64 kd) := bZ.cell 2 rfl; have q3 : World.cell? wr ⟨w.heap.size, 3, none⟩ = some (.int .i64 ln) := bZ.cell 3 rfl; have q4 : World.cell? wr ⟨w.heap.size, 4, none⟩ = some (.slice oA os.length oc) := bZ.cell 4 rfl; have q5 : World.cell? wr ⟨w.heap.size, 5, none⟩ = some (.slice dA ds.length dc) := bZ.cell 5 rfl
      by_cases hlt : k < ds.length
      · obtain ⟨b, off, f, u, rfl, hg, hx, hc0, hc1⟩ := (h2.out.st bW).iv hlt
        have hc0' := (World.cell?_alloc_lt wr (.cells #[.int .i64 f, .int .i64 u] 98) ⟨b, off + k * 2, none⟩ hg).trans hc0
        have hc1' := (World.cell?_alloc_lt wr (.cells #[.int .i64 f, .int .i64 u] 98) ⟨b, off + k * 2 + 1, none⟩ hg).trans hc1
        have hza := bZ.lt
        have q5' := (World.cell?_alloc_lt wr (.cells #[.int .i64 f, .int .i64 u] 98) ⟨w.heap.size, 5, none⟩ hza).trans q5
        have HS := Lib.hid (show hasB (ds.take (k + 1)) t = (validB f u && decide (f ≤ t) && decide (t < u)) by rw [take_snoc hx, hasB_snoc, HQ.out]; simp)
        have HT := Lib.hid (HB.out k (f, u) hx)
        clear hx HQ HB
        have CS := Lib.hid (rspan_any f u wr)
        have hbr2 := hbr.al (.cells #[.int .i64 f, .int .i64 u] 98)
        cases hv : validB f u
        · rw [hv] at CS HS
          have HS2 := Lib.hid (show hasB (ds.take (k + 1)) t = false from HS.out)
          clear HS HT
          go_wp2_with fail
          refine (CS.out).mono ?_
          rintro e w2 ⟨rfl, rfl⟩
          go_wp2
          go_roundw
          case rel => exact ⟨k + 1, by omega, by go_num, HS2, hbr2⟩
          case measure => simp [intOf]; omega
        · rw [hv] at CS HS
          by_cases g1 : f ≤ t
          · by_cases g2 : t < u
            · have HX := Lib.hid (HT.out (by simp only; rw [hv, decide_eq_true g1, decide_eq_true g2]; rfl))
              clear HS HT
              have bW2 := bW.al (.cells #[.int .i64 f, .int .i64 u] 98)
              go_wp2_with fail
              refine (CS.out).mono ?_
              rintro e w2 ⟨rfl, rfl⟩
              go_wp2
              go_ret
              exact ⟨ret_bool (by rw [HX.out]; rfl), bW2⟩
            · have HS2 := Lib.hid (show hasB (ds.take (k + 1)) t = false by rw [HS.out, decide_eq_false g2]; simp)
              clear HS HT
              go_wp2_with fail
              refine (CS.out).mono ?_
              rintro e w2 ⟨rfl, rfl⟩
              go_wp2
              go_roundw
              case rel => exact ⟨k + 1, by omega, by go_num, HS2, hbr2⟩
              case measure => simp [intOf]; omega
          · have HS2 := Lib.hid (show hasB (ds.take (k + 1)) t = false by rw [HS.out, decide_eq_false g1]; simp)
            clear HS HT
            go_wp2_with fail
            refine (CS.out).mono ?_
            rintro e w2 ⟨rfl, rfl⟩
            go_wp2
            go_roundw
            case rel => exact ⟨k + 1, by omega, by go_num, HS2, hbr2⟩
            case measure => simp [intOf]; omega
      · obtain rfl : k = ds.length := by omega
        have HX := Lib.hid (show hasB ds t = false by have := HQ.out; rwa [List.take_length] at this)
        clear HQ HB
        go_wp2
        go_ret
        exact ⟨ret_bool (by rw [HX.out]; rfl), bW⟩
end Go.Proofs.Ytgkppjkmakomnaa
/- The reference's Clock and Works, walked. -/
namespace Go.Proofs.Ytgkppjkmakomnaa
open Go.RowKit Go.Lib

set_option maxHeartbeats 4000000 in
theorem rclock_any (d : Dv) (raw : Int) {w : World} (h : DOk w d) (hl : d.os.length ≤ 100000000000) :
    Calls Try.prog 36 #[DV d, .int .i64 raw] w fun e w' => e = .returned (.tuple #[.int .i64 (clockN d raw), .bool (clockB d raw)]) ∧ Below w.heap.size w w' := by
  have h1 := Lib.hid h.1
  have F1 := Lib.hid (@clock_1 d raw)
  have F2 := Lib.hid (@clock_2 d raw)
  have F3 := Lib.hid (@clock_3 d raw)
  have F0 := Lib.hid (@clock_no d raw)
  have HD : Hid (∀ os, d.os = os → delta d.os raw = delta os raw) := fun os e => by rw [e]
  have CT := Lib.hid (fun w => rtime_any raw w)
  clear h
  generalize clockN d raw = cn at *
  generalize clockB d raw = cb at *
  obtain ⟨nm, pt, kd, ln, oA, oc, os, dA, dc, ds⟩ := d
  simp only [DV] at *
  clear HD
  cases ht : tB raw
  · have R1 := F1.out ht
    subst R1
    have R0 := F0.out rfl
    subst R0
    rw [ht] at CT
    clear F1 F2 F3 F0 ht
    obtain ⟨Y1, hY1⟩ : ∃ Y, w.alloc (.cells #[.string nm, .string pt, .int .i64 kd, .int .i64 ln, .slice oA os.length oc, .slice dA ds.length dc] 59) = Y := ⟨_, rfl⟩; have bW : Below w.heap.size w Y1 := (by rw [← hY1]; exact (Below.refl _ w).al _); have bZ : Blk Y1 w.heap.size #[.string nm, .string pt, .int .i64 kd, .int .i64 ln, .slice oA os.length oc, .slice dA ds.length dc] 59 := (by rw [← hY1]; exact Blk.new w _ _); have q0 : World.cell? Y1 ⟨w.heap.size, 0, none⟩ = some (.string nm) := bZ.cell 0 rfl; have q1 : World.cell? Y1 ⟨w.heap.size, 1, none⟩ = some (.string pt) := bZ.cell 1 rfl; have q2 : World.cell? Y1 ⟨w.heap.size, 2, none⟩ = some (.int .i64 kd) := bZ.cell 2 rfl; have q3 : World.cell? Y1 ⟨w.heap.size, 3, none⟩ = some (.int .i64 ln) := bZ.cell 3 rfl; have q4 : World.cell? Y1 ⟨w.heap.size, 4, none⟩ = some (.slice oA os.length oc) := bZ.cell 4 rfl; have q5 : World.cell? Y1 ⟨w.heap.size, 5, none⟩ = some (.slice dA ds.length dc) := bZ.cell 5 rfl
    go_enter Try.func36, Try.ntmps36
    go_wp2_with fail
    refine (CT.out _).mono ?_
    rintro e w' ⟨rfl, rfl⟩
    go_wp2
    all_goals (go_ret2; exact ⟨rfl, bW⟩)
  · rw [ht] at CT
    have F2 := Lib.hid (F2.out ht)
    have F3 := Lib.hid (F3.out ht)
    obtain ⟨ht1, ht2⟩ := tB_yes ht
    clear F1 ht
    obtain ⟨Y1, hY1⟩ : ∃ Y, w.alloc (.cells #[.string nm, .string pt, .int .i64 kd, .int .i64 ln, .slice oA os.length oc, .slice dA ds.length dc] 59) = Y := ⟨_, rfl⟩; have bW : Below w.heap.size w Y1 := (by rw [← hY1]; exact (Below.refl _ w).al _); have bZ : Blk Y1 w.heap.size #[.string nm, .string pt, .int .i64 kd, .int .i64 ln, .slice oA os.length oc, .slice dA ds.length dc] 59 := (by rw [← hY1]; exact Blk.new w _ _); have q0 : World.cell? Y1 ⟨w.heap.size, 0, none⟩ = some (.string nm) := bZ.cell 0 rfl; have q1 : World.cell? Y1 ⟨w.heap.size, 1, none⟩ = some (.string pt) := bZ.cell 1 rfl; have q2 : World.cell? Y1 ⟨w.heap.size, 2, none⟩ = some (.int .i64 kd) := bZ.cell 2 rfl; have q3 : World.cell? Y1 ⟨w.heap.size, 3, none⟩ = some (.int .i64 ln) := bZ.cell 3 rfl; have q4 : World.cell? Y1 ⟨w.heap.size, 4, none⟩ = some (.slice oA os.length oc) := bZ.cell 4 rfl; have q5 : World.cell? Y1 ⟨w.heap.size, 5, none⟩ = some (.slice dA ds.length dc) := bZ.cell 5 rfl
    go_enter Try.func36, Try.ntmps36
    go_wp2_with fail
    refine (CT.out _).mono ?_
    rintro e w' ⟨rfl, rfl⟩
    go_wp2_with fail
    go_loop [6, 7] (fun v i => ∃ (k : Nat) (q : Int), k ≤ os.length ∧ i = .int .i64 k ∧ v = .int .i64 q ∧ Hid (delta (os.take k) raw = q)) (fun _ i => os.length - (intOf i).toNat)
    case atStart => exact ⟨0, 0, Nat.zero_le _, rfl, rfl, rfl⟩
    case round =>
      obtain ⟨k, q, hk, rfl, rfl, HQ⟩ := hrel
      have hbr := bW
      by_cases hlt : k < os.length
      · obtain ⟨b, off, f, u, rfl, hg, hx, hc0, hc1⟩ := (h1.out.st hbr).iv hlt
        have HS := Lib.hid (show delta (os.take (k + 1)) raw = if f ≤ raw then u else q by rw [take_snoc hx, delta_snoc, HQ.out])
        clear hx HQ
        by_cases hf : f ≤ raw
        · have HS2 := HS.out
          rw [if_pos hf] at HS2
          have HS3 := Lib.hid HS2
          clear HS2 HS
          go_wp2
          go_round
          case rel => exact ⟨k + 1, _, by omega, by go_num, rfl, HS3⟩
          case measure => simp [intOf]; omega
        · have HS2 := HS.out
          rw [if_neg hf] at HS2
          have HS3 := Lib.hid HS2
          clear HS2 HS
          go_wp2
          go_round
          case rel => exact ⟨k + 1, _, by omega, by go_num, rfl, HS3⟩
          case measure => simp [intOf]; omega
      · obtain rfl : k = os.length := by omega
        have HE := Lib.hid (show delta os raw = q by have := HQ.out; rwa [List.take_length] at this)
        clear HQ
        have G2 : Hid (q < -raw ∨ 68719476736 - raw ≤ q → cb = false) := fun z => F2.out (by have e := HE.out; omega)
        have G3 : Hid (¬ q < -raw → ¬ 68719476736 - raw ≤ q → cb = true ∧ cn = raw + q) := fun z1 z2 => by
          have := F3.out (by have e := HE.out; omega) (by have e := HE.out; omega)
          refine ⟨this.1, this.2.trans ?_⟩
          show raw + delta os raw = _
          rw [HE.out]
        clear F2 F3 HE
        by_cases z1 : q < -raw
        · have R1 := G2.out (.inl z1)
          subst R1
          have R0 := F0.out rfl
          subst R0
          clear G2 G3 F0
          go_wp2
          all_goals (go_ret2; exact ⟨rfl, hbr⟩)
        · by_cases z2 : 68719476736 - raw ≤ q
          · have R1 := G2.out (.inr z2)
            subst R1
            have R0 := F0.out rfl
            subst R0
            clear G2 G3 F0
            go_wp2
            all_goals (go_ret2; exact ⟨rfl, hbr⟩)
          · obtain ⟨rfl, rfl⟩ := G3.out z1 z2
            clear G2 G3 F0
            go_wp2
            all_goals (go_ret2; exact ⟨rfl, hbr⟩)


end Go.Proofs.Ytgkppjkmakomnaa
