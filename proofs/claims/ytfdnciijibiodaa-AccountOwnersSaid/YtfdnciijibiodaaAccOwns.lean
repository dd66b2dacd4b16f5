/- account.owned and Owner, walked. -/
import Derived.Test.YtfdnciijibiodaaAccIdx
import Derived.Test.YtfdnciijibiodaaHas
namespace Go.Proofs.Ytfdnciijibiodaa
open Go.RowKit Go.Lib

theorem hasB_one (f t s : Int) : hasB [(f, t)] s = (validB f t && decide (f ≤ s) && decide (s < t)) := by simp [hasB]
theorem owns_emp {v : ByteArray} (h : emp v = true) (t : Int) (o : Ow) : ownsB v t o = false := by unfold ownsB; rw [h]; simp
theorem owns_neither {v : ByteArray} {t : Int} {o : Ow} (h1 : eqS o.tag v = false) (h2 : eqS o.pl v = false) : ownsB v t o = false := by unfold ownsB; rw [h1, h2]; simp
theorem owns_one {v : ByteArray} {t : Int} {o : Ow} (h : emp v = false) (h1 : eqS o.tag v = true ∨ eqS o.pl v = true) : ownsB v t o = hasB [(o.f, o.t)] t := by
  rw [hasB_one]
  unfold ownsB
  rw [h]
  rcases h1 with h1 | h1 <;> rw [h1] <;> simp
/-- span.Has at one interval in a box of its own -/
theorem has1_any (f t s : Int) {g : Nat} {W : World} (hg : Blk W g #[.int .i64 f, .int .i64 t] 41) :
    Calls Try.prog 31 #[.slice (some ⟨g, 0, none⟩) 1 1, .int .i64 s] W fun e w' => e = .returned (.bool (hasB [(f, t)] s)) ∧ Below W.heap.size W w' := by
  refine has_any (l := [((f, t) : Iv)]) 1 s ?_ (by simp)
  intro _
  refine ⟨g, 0, rfl, hg.lt, fun i y hi j u hu => ?_⟩
  match i, j with
  | 0, 0 => simp at hi; subst hi; simp [encIv] at hu; subst hu; exact hg.cell 0 rfl
  | 0, 1 => simp at hi; subst hi; simp [encIv] at hu; subst hu; exact hg.cell 1 rfl
  | 0, j + 2 => simp [encIv] at hu
  | i + 1, _ => simp at hi

set_option maxRecDepth 100000 in
set_option maxHeartbeats 8000000 in
theorem owned_any {A : Option Addr} (c : Nat) {l : List Ow} (v : ByteArray) (t : Int) {w : World} (h : Rd encOw 4 w w.heap.size A l) (hlen : l.length ≤ 9223372036854775807) :
    Calls Try.prog 21 #[.slice A l.length c, .string v, .int .i64 t] w fun e w' => (∃ i, e = .returned (.int .i64 i) ∧ IdxR (ownsB v t) l i) ∧ Below w.heap.size w w' := by
  have H := Lib.hid h
  have CH := Lib.hid (fun (o : Ow) {g : Nat} {W : World} hg => has1_any o.f o.t t (g := g) (W := W) hg)
  have HE := Lib.hid (fun (q : emp v = true) (o : Ow) => owns_emp q t o)
  have HX := Lib.hid (fun (o : Ow) q1 q2 => owns_neither (v := v) (t := t) (o := o) q1 q2)
  have HO := Lib.hid (fun (q : emp v = false) (o : Ow) q1 => owns_one (v := v) (t := t) (o := o) q q1)
  clear h
  by_cases hv : emp v = true
  · obtain rfl := (emp_iff v).1 hv
    have HE := Lib.hid (HE.out hv)
    clear HX HO CH
    clear hv
    go_enter Try.func21, Try.ntmps21
    go_wp2
    go_loopw [11] (fun i wr => ∃ k : Nat, k ≤ l.length ∧ i = .int .i64 k ∧ Hid (∀ y ∈ l.take k, ownsB ⟨#[]⟩ t y = false) ∧ Below w.heap.size w wr) (fun i _ => l.length - (RowKit.intOf i).toNat)
    case atStart => exact ⟨0, Nat.zero_le _, rfl, (by unfold Hid; simp), Below.refl _ _⟩
    case round =>
      obtain ⟨k, hk, rfl, HN, bW⟩ := hrel
      by_cases hi : k < l.length
      · obtain ⟨b, off, o, rfl, hb, hx, d0, d1, d2, d3⟩ := (H.out.st bW).ow hi
        have bW2 := bW.al (.cells #[.string o.tag, .string o.pl, .int .i64 o.f, .int .i64 o.t] 43)
        have HK := Lib.hid hi
        have R := Lib.hid (all_succ' (p := ownsB ⟨#[]⟩ t) hx HN.out (HE.out o))
        clear hx
        go_wp2_with fail; go_roundw; (case rel => exact ⟨k + 1, HK.out, by go_num, R, bW2⟩); (case measure => have := HK.out; simp [RowKit.intOf]; omega)
      · obtain rfl : k = l.length := by omega
        have R : Hid (IdxR (ownsB ⟨#[]⟩ t) l (-1)) := Lib.hid (Or.inl ⟨rfl, by have := HN.out; rwa [List.take_length] at this⟩)
        go_wp2
        go_ret
        exact ⟨⟨_, rfl, R.out⟩, bW⟩
  · rw [Bool.not_eq_true] at hv
    have HO := Lib.hid (HO.out hv)
    obtain ⟨n1, n2, n3⟩ := toList_neE hv
    clear HE hv
    go_enter Try.func21, Try.ntmps21
    go_wp2
    go_loopw [11] (fun i wr => ∃ k : Nat, k ≤ l.length ∧ i = .int .i64 k ∧ Hid (∀ y ∈ l.take k, ownsB v t y = false) ∧ Below w.heap.size w wr) (fun i _ => l.length - (RowKit.intOf i).toNat)
    case atStart => exact ⟨0, Nat.zero_le _, rfl, (by unfold Hid; simp), Below.refl _ _⟩
    case round =>
      obtain ⟨k, hk, rfl, HN, bW⟩ := hrel
      by_cases hi : k < l.length
      · obtain ⟨b, off, o, rfl, hb, hx, d0, d1, d2, d3⟩ := (H.out.st bW).ow hi
        have bW2 := bW.al (.cells #[.string o.tag, .string o.pl, .int .i64 o.f, .int .i64 o.t] 43)
        have HK := Lib.hid hi
        have HXk := Lib.hid hx
        obtain ⟨Y2, hY2⟩ : ∃ Y, wr.alloc (.cells #[.string o.tag, .string o.pl, .int .i64 o.f, .int .i64 o.t] 43) = Y := ⟨_, rfl⟩
        have sY2 : Y2.heap.size = wr.heap.size + 1 := by rw [← hY2]; simp
        have BX : Blk Y2 wr.heap.size #[.string o.tag, .string o.pl, .int .i64 o.f, .int .i64 o.t] 43 := by rw [← hY2]; exact Blk.new wr _ _
        have x0 : World.cell? Y2 ⟨wr.heap.size, 0, none⟩ = some (.string o.tag) := BX.cell 0 rfl
        have x1 : World.cell? Y2 ⟨wr.heap.size, 1, none⟩ = some (.string o.pl) := BX.cell 1 rfl
        have x2 : World.cell? Y2 ⟨wr.heap.size, 2, none⟩ = some (.int .i64 o.f) := BX.cell 2 rfl
        have x3 : World.cell? Y2 ⟨wr.heap.size, 3, none⟩ = some (.int .i64 o.t) := BX.cell 3 rfl
        obtain ⟨Y3, hY3⟩ : ∃ Y, Y2.alloc (.cells #[.int .i64 o.f, .int .i64 o.t] 41) = Y := ⟨_, rfl⟩
        rw [hY2] at bW2
        have bW3 : Below w.heap.size w Y3 := by rw [← hY3]; exact bW2.al _
        have CHx := Lib.hid (CH.out o (g := wr.heap.size + 1) (W := Y3) (by rw [← hY3, ← sY2]; exact Blk.new Y2 _ _))
        cases e1 : eqS o.tag v
        · cases e2 : eqS o.pl v
          · have R := Lib.hid (all_succ' (p := ownsB v t) hx HN.out (HX.out o e1 e2))
            have e1b : (o.tag.toList == v.toList) = false := e1
            have e2b : (o.pl.toList == v.toList) = false := e2
            clear hx e1 e2 hi CHx bW3
            go_wp2_with fail; go_roundw; (case rel => exact ⟨k + 1, HK.out, by go_num, R, bW2⟩); (case measure => have := HK.out; simp [RowKit.intOf]; omega)
          · have HV := Lib.hid (HO.out o (Or.inr e2))
            have e1b : (o.tag.toList == v.toList) = false := e1
            have e2b : (o.pl.toList == v.toList) = true := e2
            clear hx e1 e2 hi bW2
            go_wp2_with fail
            refine CHx.out.mono ?_
            rintro e w5 ⟨rfl, hbn⟩
            have bW2 := bW3.st hbn
            cases hh : hasB [(o.f, o.t)] t
            · have R := Lib.hid (all_succ' (p := ownsB v t) HXk.out HN.out (HV.out.trans hh))
              clear hh
              go_wp2_with fail; go_roundw; (case rel => exact ⟨k + 1, HK.out, by go_num, R, bW2⟩); (case measure => have := HK.out; simp [RowKit.intOf]; omega)
            · have R : Hid (IdxR (ownsB v t) l (k : Int)) := Lib.hid (Or.inr ⟨k, o, HXk.out, rfl, HV.out.trans hh, HN.out⟩)
              clear hh
              go_wp2_with fail
              go_ret
              exact ⟨⟨_, rfl, R.out⟩, bW2⟩
        · have HV := Lib.hid (HO.out o (Or.inl e1))
          have e1b : (o.tag.toList == v.toList) = true := e1
          clear hx e1 hi bW2
          go_wp2_with fail
          refine CHx.out.mono ?_
          rintro e w5 ⟨rfl, hbn⟩
          have bW2 := bW3.st hbn
          cases hh : hasB [(o.f, o.t)] t
          · have R := Lib.hid (all_succ' (p := ownsB v t) HXk.out HN.out (HV.out.trans hh))
            clear hh
            go_wp2_with fail; go_roundw; (case rel => exact ⟨k + 1, HK.out, by go_num, R, bW2⟩); (case measure => have := HK.out; simp [RowKit.intOf]; omega)
          · have R : Hid (IdxR (ownsB v t) l (k : Int)) := Lib.hid (Or.inr ⟨k, o, HXk.out, rfl, HV.out.trans hh, HN.out⟩)
            clear hh
            go_wp2_with fail
            go_ret
            exact ⟨⟨_, rfl, R.out⟩, bW2⟩
      · obtain rfl : k = l.length := by omega
        have R : Hid (IdxR (ownsB v t) l (-1)) := Lib.hid (Or.inl ⟨rfl, by have := HN.out; rwa [List.take_length] at this⟩)
        go_wp2
        go_ret
        exact ⟨⟨_, rfl, R.out⟩, bW⟩
end Go.Proofs.Ytfdnciijibiodaa
