/- Joined texts: RelHas, RelDownF. -/
import Derived.Test.YtekdppnlgkfcdaaJRelEnc
import Derived.Deep.RegionHeld3
import Derived.Deep.RegionWith
import Derived.Deep.DrawnRows
import Derived.BigRegion
/- The reference's Has (chapter 05), walked. -/
namespace Go.Proofs.Ytekdppnlgkfcdaa
open Go.RowKit Go.Lib

theorem rvalid5_any (f t : Int) (w : World) :
    Calls Try.prog 63 #[.agg #[.int .i64 f, .int .i64 t]] w fun e w' => e = .returned (.bool (validB f t)) ∧ w.alloc (.cells #[.int .i64 f, .int .i64 t] 84) = w' := by
  unfold validB
  go_enter Try.func63, Try.ntmps63
  go_wp2
  all_goals (go_ret; exact ⟨ret_bool (by rw [Bool.eq_iff_iff]; simp; omega), rfl⟩)

set_option maxHeartbeats 2000000 in
theorem rhas5_any {A : Option Addr} (c : Nat) {l : List Iv} (t : Int) {w : World} (h : Rd encIv 2 w w.heap.size A l) (hl : l.length ≤ 100000000000) :
    Calls Try.prog 47 #[.slice A l.length c, .int .i64 t] w fun e w' => e = .returned (.bool (hasB l t)) ∧ Below w.heap.size w w' := by
  have H := Lib.hid h
  have HB := Lib.hid (fun k x (hx : l[k]? = some x) q => hasB_take (t := t) hx q)
  have HN := Lib.hid (fun k x (hx : l[k]? = some x) (hq : hasB (l.take k) t = false) (q : (validB x.1 x.2 && decide (x.1 ≤ t) && decide (t < x.2)) = false) => show hasB (l.take (k + 1)) t = false by rw [take_snoc hx, hasB_snoc, hq, q]; rfl)
  have HE := Lib.hid (show hasB (l.take l.length) t = false → hasB l t = false from fun q => by rwa [List.take_length] at q)
  generalize hasB l t = r at *
  clear h
  go_enter Try.func47, Try.ntmps47
  go_wp2_with fail
  go_loopw [5] (fun i wr => ∃ (k : Nat), k ≤ l.length ∧ i = .int .i64 k ∧ Hid (hasB (l.take k) t = false) ∧ Below w.heap.size w wr) (fun i _ => l.length - (intOf i).toNat)
  case atStart => exact ⟨0, Nat.zero_le _, rfl, rfl, Below.refl _ _⟩
  case round =>
    obtain ⟨k, hk, rfl, HQ, hbr⟩ := hrel
    by_cases hi : k < l.length
    · obtain ⟨b, off, f, u, rfl, hg, hx, c0, c1⟩ := (H.out.keep hbr).iv hi
      have hgr : b < wr.heap.size := Nat.lt_of_lt_of_le hg hbr.size
      have c0' := (World.cell?_alloc_lt wr (.cells #[.int .i64 f, .int .i64 u] 84) ⟨b, off + k * 2, none⟩ hgr).trans c0
      have c1' := (World.cell?_alloc_lt wr (.cells #[.int .i64 f, .int .i64 u] 84) ⟨b, off + k * 2 + 1, none⟩ hgr).trans c1
      have hb2 := hbr.al (.cells #[.int .i64 f, .int .i64 u] 84)
      have CS := Lib.hid (rvalid5_any f u wr)
      have HL := Lib.hid hi
      have hi1 : (0 : Int) ≤ (k : Int) := by omega
      have hi2 : (k : Int) < (l.length : Int) := by omega
      cases hv : validB f u
      · rw [hv] at CS
        have HK := Lib.hid (HN.out k _ hx HQ.out (by simp only [hv]; rfl))
        clear hx hv
        go_wp2_with fail
        refine CS.out.mono ?_
        rintro e w2 ⟨rfl, rfl⟩
        go_wp2
        go_roundw
        case rel => exact ⟨k + 1, HL.out, by go_num, HK, hb2⟩
        case measure => have := HL.out; simp [intOf]; omega
      · rw [hv] at CS
        by_cases g1 : f ≤ t
        · by_cases g2 : t < u
          · have R := HB.out k _ hx (by simp only [hv, decide_eq_true g1, decide_eq_true g2]; rfl)
            subst R
            clear hx hv
            go_wp2_with fail
            refine CS.out.mono ?_
            rintro e w2 ⟨rfl, rfl⟩
            go_wp2
            go_ret
            exact ⟨rfl, hb2⟩
          · have HK := Lib.hid (HN.out k _ hx HQ.out (by simp only [hv, decide_eq_false g2]; simp))
            clear hx hv
            go_wp2_with fail
            refine CS.out.mono ?_
            rintro e w2 ⟨rfl, rfl⟩
            go_wp2
            go_roundw
            case rel => exact ⟨k + 1, HL.out, by go_num, HK, hb2⟩
            case measure => have := HL.out; simp [intOf]; omega
        · have HK := Lib.hid (HN.out k _ hx HQ.out (by simp only [hv, decide_eq_false g1]; simp))
          clear hx hv
          go_wp2_with fail
          refine CS.out.mono ?_
          rintro e w2 ⟨rfl, rfl⟩
          go_wp2
          go_roundw
          case rel => exact ⟨k + 1, HL.out, by go_num, HK, hb2⟩
          case measure => have := HL.out; simp [intOf]; omega
    · obtain rfl : k = l.length := by omega
      have R := HE.out HQ.out
      subst R
      go_wp2
      go_ret
      exact ⟨rfl, hbr⟩

end Go.Proofs.Ytekdppnlgkfcdaa
/- The reference's down, walked. -/
namespace Go.Proofs.Ytekdppnlgkfcdaa
open Go.RowKit Go.Lib

set_option maxRecDepth 100000 in
set_option maxHeartbeats 8000000 in
theorem rdown_f {A : Option Addr} (c : Nat) {l : List Dv} (pt pg : ByteArray) (kd t : Int) {w : World} (h : Rd encD 6 w w.heap.size A l) (hz : DsOk w l) (hl : l.length ≤ 60) (hd : ∀ d ∈ l, d.ds.length ≤ 40) (hem : (l.filter (selB pt kd)).isEmpty = false) :
    Calls Try.prog 30 #[.slice A l.length c, .agg #[.string pt, .int .i64 t, .string pg], .int .i64 kd] w fun e w' => e = .returned (.bool (downB l pt kd t)) ∧ Below w.heap.size w w' := by
  have C1 := Lib.hid (fun (X : World) (hX : Below w.heap.size w X) => rat_any c pt kd (h.st hX) (by omega))
  have C2 := Lib.hid (fun (X : World) (hX : Below w.heap.size w X) => rout_any c pt kd (h.st hX) (hz.st hX) hl hd)
  have HA := Lib.hid (fun (r : List Dv) (e : AtOf pt kd l r) => at_empty e)
  have HM := Lib.hid (fun (r : List Dv) (n : List Iv) (e : AtOf pt kd l r) (hm : ∀ t, Mem n t ↔ NoneAt r t) => out_has e hm t)
  unfold downB
  generalize noneB (l.filter (selB pt kd)) t = nb at *
  have HA := Lib.hid (fun r e => (HA.out r e).symm.trans hem)
  rw [hem]
  clear h hz hd hem
  obtain ⟨Y, hY⟩ : ∃ Y, w.alloc (.cells #[.string pt, .int .i64 t, .string pg] 81) = Y := ⟨_, rfl⟩
  have bW : Below w.heap.size w Y := by rw [← hY]; exact (Below.refl _ w).al _
  have bS : Blk Y w.heap.size #[.string pt, .int .i64 t, .string pg] 81 := by rw [← hY]; exact Blk.new w _ _
  have s0 : World.cell? Y ⟨w.heap.size, 0, none⟩ = some (.string pt) := bS.cell 0 rfl
  have s1 : World.cell? Y ⟨w.heap.size, 1, none⟩ = some (.int .i64 t) := bS.cell 1 rfl
  go_enter Try.func30, Try.ntmps30
  go_wp2_with fail
  go_region_held3 (fun w' => w'.cell? ⟨w.heap.size, 0, none⟩ = some (.string pt) ∧ w'.cell? ⟨w.heap.size, 1, none⟩ = some (.int .i64 t)) (go_keep) (first | (go_at_call 46; (with_reducible refine (C1.out _ (by first | exact bW | exact bW.drew)).mono ?_); rintro e wn ⟨A1, c1, r1, rfl, -, -, ha1, hbn⟩; (have hr0 : decide (r1.length = 0) = false := HA.out r1 ha1); (have hr1 : decide ((0 : Int) < (r1.length : Int)) = true := decide_eq_true (by have := of_decide_eq_false hr0; omega)); (have hr2 : decide (0 < r1.length) = true := decide_eq_true (by have := of_decide_eq_false hr0; omega)); clear ha1 hr0; have bW : Below w.heap.size w wn := (by first | exact bW.st hbn | exact bW.drew.st hbn); have bS : Blk wn w.heap.size #[.string pt, .int .i64 t, .string pg] 81 := (by first | exact bS.below hbn bS.lt | exact bS.drew.below hbn bS.lt); have s0 : World.cell? wn ⟨w.heap.size, 0, none⟩ = some (.string pt) := bS.cell 0 rfl; have s1 : World.cell? wn ⟨w.heap.size, 1, none⟩ = some (.int .i64 t) := bS.cell 1 rfl) | (go_at_call 48; (with_reducible refine (C2.out _ (by first | exact bW | exact bW.drew)).mono ?_); rintro e wn ⟨r2, ha2, A2, c2, n2, rfl, hn2, hm2, ho2, hbn⟩; have HH := Lib.hid (HM.out r2 n2 ha2 hm2); have hln := hn2.length_max; have ro2 := ho2.rd encIv_ok; clear ha2 hn2 hm2 ho2; have bW : Below w.heap.size w wn := (by first | exact bW.st hbn | exact bW.drew.st hbn); have bS : Blk wn w.heap.size #[.string pt, .int .i64 t, .string pg] 81 := (by first | exact bS.below hbn bS.lt | exact bS.drew.below hbn bS.lt); have s0 : World.cell? wn ⟨w.heap.size, 0, none⟩ = some (.string pt) := bS.cell 0 rfl; have s1 : World.cell? wn ⟨w.heap.size, 1, none⟩ = some (.int .i64 t) := bS.cell 1 rfl) | (go_at_call 47; (with_reducible refine (rhas5_any c2 t ro2 (by omega)).mono ?_); rw [HH.out]; rintro e wn ⟨rfl, hbn⟩; have bW : Below w.heap.size w wn := (by first | exact bW.st hbn | exact bW.drew.st hbn); have bS : Blk wn w.heap.size #[.string pt, .int .i64 t, .string pg] 81 := (by first | exact bS.below hbn bS.lt | exact bS.drew.below hbn bS.lt); have s0 : World.cell? wn ⟨w.heap.size, 0, none⟩ = some (.string pt) := bS.cell 0 rfl; have s1 : World.cell? wn ⟨w.heap.size, 1, none⟩ = some (.int .i64 t) := bS.cell 1 rfl))
  all_goals
    go_wp2
    go_ret
    first | exact ⟨rfl, bW⟩ | exact ⟨rfl, bW.drew⟩ | exact ⟨ret_bool (by simp), bW⟩ | exact ⟨ret_bool (by simp), bW.drew⟩
end Go.Proofs.Ytekdppnlgkfcdaa
