/- The reference's owns and Owner, walked. -/
import Derived.Test.YtfdnciijibiodaaAccOwner
namespace Go.Proofs.Ytfdnciijibiodaa
open Go.RowKit Go.Lib

theorem rspan_any (f t : Int) (w : World) :
    Calls Try.prog 32 #[.agg #[.int .i64 f, .int .i64 t]] w fun e w' => e = .returned (.bool (validB f t)) ∧ w.alloc (.cells #[.int .i64 f, .int .i64 t] 41) = w' := by
  unfold validB
  go_enter Try.func32, Try.ntmps32
  go_wp2
  all_goals (go_ret; exact ⟨ret_bool (by rw [Bool.eq_iff_iff]; simp; omega), rfl⟩)
theorem rtime_any (t : Int) (w : World) : Calls Try.prog 24 #[.int .i64 t] w fun e w' => e = .returned (.bool (timeB t)) ∧ w' = w := by
  unfold timeB
  go_enter Try.func24, Try.ntmps24
  go_wp2
  all_goals (go_ret; exact ⟨ret_bool (by rw [Bool.eq_iff_iff]; simp; omega), rfl⟩)
theorem owns_span {v : ByteArray} {t : Int} {o : Ow} (h : emp v = false) (h1 : eqS o.tag v = true ∨ eqS o.pl v = true) : ownsB v t o = (validB o.f o.t && decide (o.f ≤ t) && decide (t < o.t)) := by rw [owns_one h h1, hasB_one]

set_option maxRecDepth 100000 in
set_option maxHeartbeats 8000000 in
theorem rowns_any {A : Option Addr} (c : Nat) {l : List Ow} (v : ByteArray) (t : Int) {w : World} (h : Rd encOw 4 w w.heap.size A l) (hlen : l.length ≤ 9223372036854775807) :
    Calls Try.prog 25 #[.slice A l.length c, .string v, .int .i64 t] w fun e w' => (∃ i, e = .returned (.int .i64 i) ∧ IdxR (ownsB v t) l i) ∧ Below w.heap.size w w' := by
  have H := Lib.hid h
  have CV := Lib.hid (fun (f t : Int) (X : World) => rspan_any f t X)
  have HE := Lib.hid (fun (q : emp v = true) (o : Ow) => owns_emp q t o)
  have HX := Lib.hid (fun (o : Ow) q1 q2 => owns_neither (v := v) (t := t) (o := o) q1 q2)
  have HO := Lib.hid (fun (q : emp v = false) (o : Ow) q1 => owns_span (v := v) (t := t) (o := o) q q1)
  clear h
  by_cases hv : emp v = true
  · obtain rfl := (emp_iff v).1 hv
    have HE := Lib.hid (HE.out hv)
    clear HX HO CV
    clear hv
    go_enter Try.func25, Try.ntmps25
    go_wp2
    go_loopw [7] (fun i wr => ∃ k : Nat, k ≤ l.length ∧ i = .int .i64 k ∧ Hid (∀ y ∈ l.take k, ownsB ⟨#[]⟩ t y = false) ∧ Below w.heap.size w wr) (fun i _ => l.length - (RowKit.intOf i).toNat)
    case atStart => exact ⟨0, Nat.zero_le _, rfl, (by unfold Hid; simp), Below.refl _ _⟩
    case round =>
      obtain ⟨k, hk, rfl, HN, bW⟩ := hrel
      by_cases hi : k < l.length
      · have HK := Lib.hid hi
        have R := Lib.hid (all_succ' (p := ownsB ⟨#[]⟩ t) (List.getElem?_eq_getElem hi) HN.out (HE.out _))
        go_wp2_with fail; go_roundw; (case rel => exact ⟨k + 1, HK.out, by go_num, R, bW⟩); (case measure => have := HK.out; simp [RowKit.intOf]; omega)
      · obtain rfl : k = l.length := by omega
        have R : Hid (IdxR (ownsB ⟨#[]⟩ t) l (-1)) := Lib.hid (Or.inl ⟨rfl, by have := HN.out; rwa [List.take_length] at this⟩)
        go_wp2
        go_ret
        exact ⟨⟨_, rfl, R.out⟩, bW⟩
  · rw [Bool.not_eq_true] at hv
    have HO := Lib.hid (HO.out hv)
    obtain ⟨n1, n2, n3⟩ := toList_neE hv
    clear HE hv
    go_enter Try.func25, Try.ntmps25
    go_wp2
    go_loopw [7] (fun i wr => ∃ k : Nat, k ≤ l.length ∧ i = .int .i64 k ∧ Hid (∀ y ∈ l.take k, ownsB v t y = false) ∧ Below w.heap.size w wr) (fun i _ => l.length - (RowKit.intOf i).toNat)
    case atStart => exact ⟨0, Nat.zero_le _, rfl, (by unfold Hid; simp), Below.refl _ _⟩
    case round =>
      obtain ⟨k, hk, rfl, HN, bW⟩ := hrel
      by_cases hi : k < l.length
      · obtain ⟨b, off, o, rfl, hb, hx, d0, d1, d2, d3⟩ := (H.out.st bW).ow hi
        have HK := Lib.hid hi
        have HXk := Lib.hid hx
        have i1 : (0 : Int) ≤ (k : Int) := by omega
        have i2 : (k : Int) < (l.length : Int) := by omega
        have C5 := Lib.hid (CV.out o.f o.t wr)
        have key : ∀ (e : Bool), eqS o.tag v = e → (e = true ∨ eqS o.pl v = true) → ownsB v t o = (validB o.f o.t && decide (o.f ≤ t) && decide (t < o.t)) := fun e q q1 => HO.out o (q1.elim (fun q2 => Or.inl (q.trans q2)) Or.inr)
        obtain ⟨Y, hY⟩ : ∃ Y, wr.alloc (.cells #[.int .i64 o.f, .int .i64 o.t] 41) = Y := ⟨_, rfl⟩
        have bY : Below w.heap.size w Y := by rw [← hY]; exact bW.al _
        have y2 : World.cell? Y ⟨b, off + k * 4 + 2, none⟩ = some (.int .i64 o.f) := by rw [← hY]; exact (World.cell?_alloc_lt wr _ ⟨b, _, none⟩ hb).trans d2
        have y3 : World.cell? Y ⟨b, off + k * 4 + 3, none⟩ = some (.int .i64 o.t) := by rw [← hY]; exact (World.cell?_alloc_lt wr _ ⟨b, _, none⟩ hb).trans d3
        have KEY := Lib.hid key
        clear key
        rw [hY] at C5
        cases e1 : eqS o.tag v
        · cases e2 : eqS o.pl v
          · have R := Lib.hid (all_succ' (p := ownsB v t) hx HN.out (HX.out o e1 e2))
            have e1b : (o.tag.toList == v.toList) = false := e1
            have e2b : (o.pl.toList == v.toList) = false := e2
            clear hx e1 e2 hi C5 bY
            go_wp2_with fail; go_roundw; (case rel => exact ⟨k + 1, HK.out, by go_num, R, bW⟩); (case measure => have := HK.out; simp [RowKit.intOf]; omega)
          · have HV := Lib.hid (KEY.out false e1 (Or.inr e2))
            have e1b : (o.tag.toList == v.toList) = false := e1
            have e2b : (o.pl.toList == v.toList) = true := e2
            clear hx e1 e2 hi KEY hY
            go_wp2_with fail
            refine C5.out.mono ?_
            rintro e w5 ⟨rfl, rfl⟩
            clear bW
            have bW := bY
            clear bY
            by_cases hq : (validB o.f o.t && decide (o.f ≤ t) && decide (t < o.t)) = true
            · have R : Hid (IdxR (ownsB v t) l (k : Int)) := Lib.hid (Or.inr ⟨k, o, HXk.out, rfl, HV.out.trans hq, HN.out⟩)
              simp only [Bool.and_eq_true, decide_eq_true_eq] at hq
              obtain ⟨⟨q1, q2⟩, q3⟩ := hq
              go_wp2_with fail
              go_ret
              exact ⟨⟨_, rfl, R.out⟩, bW⟩
            · have R := Lib.hid (all_succ' (p := ownsB v t) HXk.out HN.out (HV.out.trans (by simpa using hq)))
              rw [Bool.not_eq_true] at hq
              cases q1 : validB o.f o.t
              · clear hq
                go_wp2_with fail; go_roundw; (case rel => exact ⟨k + 1, HK.out, by go_num, R, bW⟩); (case measure => have := HK.out; simp [RowKit.intOf]; omega)
              · by_cases q2 : o.f ≤ t
                · have q3 : ¬ t < o.t := by
                    intro q3
                    rw [q1, decide_eq_true q2, decide_eq_true q3] at hq
                    cases hq
                  clear hq
                  go_wp2_with fail; go_roundw; (case rel => exact ⟨k + 1, HK.out, by go_num, R, bW⟩); (case measure => have := HK.out; simp [RowKit.intOf]; omega)
                · clear hq
                  go_wp2_with fail; go_roundw; (case rel => exact ⟨k + 1, HK.out, by go_num, R, bW⟩); (case measure => have := HK.out; simp [RowKit.intOf]; omega)
        · have HV := Lib.hid (KEY.out true e1 (Or.inl rfl))
          have e1b : (o.tag.toList == v.toList) = true := e1
          clear hx e1 hi KEY hY
          go_wp2_with fail
          refine C5.out.mono ?_
          rintro e w5 ⟨rfl, rfl⟩
          clear bW
          have bW := bY
          clear bY
          by_cases hq : (validB o.f o.t && decide (o.f ≤ t) && decide (t < o.t)) = true
          · have R : Hid (IdxR (ownsB v t) l (k : Int)) := Lib.hid (Or.inr ⟨k, o, HXk.out, rfl, HV.out.trans hq, HN.out⟩)
            simp only [Bool.and_eq_true, decide_eq_true_eq] at hq
            obtain ⟨⟨q1, q2⟩, q3⟩ := hq
            go_wp2_with fail
            go_ret
            exact ⟨⟨_, rfl, R.out⟩, bW⟩
          · have R := Lib.hid (all_succ' (p := ownsB v t) HXk.out HN.out (HV.out.trans (by simpa using hq)))
            rw [Bool.not_eq_true] at hq
            cases q1 : validB o.f o.t
            · clear hq
              go_wp2_with fail; go_roundw; (case rel => exact ⟨k + 1, HK.out, by go_num, R, bW⟩); (case measure => have := HK.out; simp [RowKit.intOf]; omega)
            · by_cases q2 : o.f ≤ t
              · have q3 : ¬ t < o.t := by
                  intro q3
                  rw [q1, decide_eq_true q2, decide_eq_true q3] at hq
                  cases hq
                clear hq
                go_wp2_with fail; go_roundw; (case rel => exact ⟨k + 1, HK.out, by go_num, R, bW⟩); (case measure => have := HK.out; simp [RowKit.intOf]; omega)
              · clear hq
                go_wp2_with fail; go_roundw; (case rel => exact ⟨k + 1, HK.out, by go_num, R, bW⟩); (case measure => have := HK.out; simp [RowKit.intOf]; omega)
      · obtain rfl : k = l.length := by omega
        have R : Hid (IdxR (ownsB v t) l (-1)) := Lib.hid (Or.inl ⟨rfl, by have := HN.out; rwa [List.take_length] at this⟩)
        go_wp2
        go_ret
        exact ⟨⟨_, rfl, R.out⟩, bW⟩

set_option maxRecDepth 100000 in
set_option maxHeartbeats 8000000 in
theorem rowner_any {A : Option Addr} (c : Nat) {l : List Ac} (v : ByteArray) (t : Int) {w : World} (h : AL w A c l) (hsm : smL l) :
    Calls Try.prog 18 #[.slice A l.length c, .string v, .int .i64 t] w fun e w' => e = .returned (.tuple #[.string (ownerN (vals l) v t), .bool (ownerB (vals l) v t)]) ∧ Below w.heap.size w w' := by
  have H := Lib.hid h
  have CO := Lib.hid (fun (a : Ac) (ha : a ∈ l) (X : World) (hX : Below w.heap.size w X) => rowns_any a.oc v t (h.2.1.st hX a ha).1 (by have := (hsm.2 a ha).1; omega))
  have HAT := Lib.hid (fun (k : Nat) (a : Ac) (hx : l[k]? = some a) q1 q2 => owner_at (v := v) (t := t) hx q1 q2)
  have HNO := Lib.hid (owner_none (l := l) (v := v) (t := t))
  have hlen : l.length ≤ 1000 := hsm.1
  generalize ownerN (vals l) v t = rn at *
  generalize ownerB (vals l) v t = rb at *
  clear h hsm
  go_enter Try.func18, Try.ntmps18
  go_wp2
  go_loopw [8] (fun i wr => ∃ k : Nat, k ≤ l.length ∧ i = .int .i64 k ∧ Hid (∀ y ∈ l.take k, ownA v t y.v = false) ∧ Below w.heap.size w wr) (fun i _ => l.length - (RowKit.intOf i).toNat)
  case atStart => exact ⟨0, Nat.zero_le _, rfl, (by unfold Hid; simp), Below.refl _ _⟩
  case round =>
    obtain ⟨k, hk, rfl, HN, bW⟩ := hrel
    by_cases hi : k < l.length
    · obtain ⟨b, off, a, rfl, hb, hx, d0, d1, d2, d3, d4, d5, d6, d7, d8⟩ := (H.out.1.st bW).ac hi
      have i1 : (0 : Int) ≤ (k : Int) := by omega
      have i2 : (k : Int) < (l.length : Int) := by omega
      have HK := Lib.hid hi
      have HX := Lib.hid hx
      have COa := Lib.hid (CO.out a (List.mem_of_getElem? hx) wr bW)
      clear hx hi
      go_wp2_with fail
      refine COa.out.mono ?_
      rintro e w5 ⟨⟨i, rfl, hI⟩, hbn⟩
      have bW5 := bW.st hbn
      have y0 : World.cell? w5 ⟨b, off + k * 9, none⟩ = some (.string a.v.name) := (hbn.cell (p := ⟨b, _, none⟩) hb).trans d0
      rcases ownA_idx hI with ⟨hq, rfl⟩ | ⟨hq, j, rfl⟩
      · have R := Lib.hid (all_succ' (p := fun y : Ac => ownA v t y.v) HX.out HN.out hq)
        clear hq hI
        go_wp2_with fail
        go_roundw
        case rel => exact ⟨k + 1, HK.out, by go_num, R, bW5⟩
        case measure => have := HK.out; simp [RowKit.intOf]; omega
      · have R := Lib.hid (HAT.out k a HX.out hq HN.out)
        have j0 : (0 : Int) ≤ (j : Int) := by omega
        clear hq hI
        go_wp2_with fail
        go_ret2
        obtain ⟨rfl, rfl⟩ := R.out
        exact ⟨rfl, bW5⟩
    · obtain rfl : k = l.length := by omega
      have R := Lib.hid (HNO.out HN.out)
      go_wp2
      go_ret2
      obtain ⟨rfl, rfl⟩ := R.out
      exact ⟨rfl, bW⟩
end Go.Proofs.Ytfdnciijibiodaa
