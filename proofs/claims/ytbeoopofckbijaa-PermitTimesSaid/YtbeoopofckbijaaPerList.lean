/- permit.has, listed and Valid, walked. -/
import Derived.Test.YtbeoopofckbijaaPerEnc
import Derived.Test.YtbeoopofckbijaaDetPlN
import Derived.Test.YtbeoopofckbijaaJHas
namespace Go.Proofs.Ytbeoopofckbijaa
open Go.RowKit Go.Lib

theorem hasS_at {l : List ByteArray} {s y : ByteArray} {k : Nat} (hy : l[k]? = some y) (h : eqS s y = true) : hasS l s = true := List.any_eq_true.2 ⟨y, List.mem_of_getElem? hy, h⟩
theorem hasS_no {l : List ByteArray} {s : ByteArray} (h : ∀ y ∈ l.take l.length, eqS s y = false) : hasS l s = false := by
  rw [List.take_length] at h
  unfold hasS
  rw [List.any_eq_false]
  intro y hy
  rw [h y hy]; simp

set_option maxRecDepth 100000 in
set_option maxHeartbeats 4000000 in
theorem hasS_any {A : Option Addr} (c : Nat) {l : List ByteArray} (s : ByteArray) {w : World} (h : Rd encStr 1 w w.heap.size A l) (hl : l.length ≤ 9223372036854775807) :
    Calls Try.prog 34 #[.slice A l.length c, .string s] w fun e w' => e = .returned (.bool (hasS l s)) ∧ w' = w := by
  have HAT := Lib.hid (fun (k : Nat) (y : ByteArray) q q1 => hasS_at (l := l) (s := s) (y := y) (k := k) q q1)
  have HNO := Lib.hid (hasS_no (l := l) (s := s))
  generalize hasS l s = r at *
  go_enter Try.func34, Try.ntmps34
  go_wp2
  go_loopw [9] (fun i wr => ∃ k : Nat, k ≤ l.length ∧ i = .int .i64 k ∧ Hid (∀ y ∈ l.take k, eqS s y = false) ∧ wr = w) (fun i _ => l.length - (RowKit.intOf i).toNat)
  case atStart => exact ⟨0, Nat.zero_le _, rfl, (by unfold Hid; simp), rfl⟩
  case round =>
    obtain ⟨k, hk, rfl, HN, rfl⟩ := hrel
    by_cases hi : k < l.length
    · obtain ⟨b, off, y, hA, hb, hx, d0⟩ := h.str hi
      have HK := Lib.hid hi
      subst hA
      cases he : eqS s y
      · have R := Lib.hid (all_succ' (p := fun y => eqS s y) hx HN.out he)
        have he2 : (s.toList == y.toList) = false := he
        clear hx he
        go_wp2_with fail
        go_roundw
        case rel => exact ⟨k + 1, HK.out, by go_num, R, trivial⟩
        case measure => have := HK.out; simp [RowKit.intOf]; omega
      · have R := Lib.hid (HAT.out k y hx he)
        have he2 : (s.toList == y.toList) = true := he
        clear hx he
        go_wp2_with fail
        go_ret
        obtain rfl := R.out; exact ⟨rfl, rfl⟩
    · obtain rfl : k = l.length := by omega
      have R := Lib.hid (HNO.out HN.out)
      go_wp2
      go_ret
      obtain rfl := R.out; exact ⟨rfl, rfl⟩

set_option maxRecDepth 100000 in
set_option maxHeartbeats 4000000 in
theorem listed_any (p : Pm) (s : ByteArray) (hs : s.size ≤ 1000000) {w : World} (h : POk w p) (hl : p.ps.length ≤ 100000) :
    Calls Try.prog 16 #[PmV p, .string s] w fun e w' => e = .returned (.bool (listB p.ps s)) ∧ Below w.heap.size w w' := by
  have CP := Lib.hid (fun (X : World) => normal_any s hs X)
  have CH := Lib.hid (fun (u : ByteArray) (X : World) (hX : Below w.heap.size w X) => hasS_any p.pc u (h.1.st hX) (by omega))
  obtain ⟨nm, zn, pA, pc, ps, v0, v1, hA, hc, hs2, mo⟩ := p
  simp only [PmV] at *
  clear h
  obtain ⟨hs, rfl⟩ : ∃ hs, hs = hs2 := ⟨_, rfl⟩
  obtain ⟨Y, hY⟩ : ∃ Y, w.alloc (.cells #[.string nm, .string zn, .slice pA ps.length pc, .int .i64 v0, .int .i64 v1, .slice hA hs.length hc, .int .i64 mo] 31) = Y := ⟨_, rfl⟩; have bW : Below w.heap.size w Y := (by rw [← hY]; exact (Below.refl _ w).al _); have BP : Blk Y w.heap.size #[.string nm, .string zn, .slice pA ps.length pc, .int .i64 v0, .int .i64 v1, .slice hA hs.length hc, .int .i64 mo] 31 := (by rw [← hY]; exact Blk.new w _ _)
  have p0 := BP.cell 0 (v := .string nm) rfl; have p1 := BP.cell 1 (v := .string zn) rfl; have p2 := BP.cell 2 (v := .slice pA ps.length pc) rfl; have p3 := BP.cell 3 (v := .int .i64 v0) rfl; have p4 := BP.cell 4 (v := .int .i64 v1) rfl; have p5 := BP.cell 5 (v := .slice hA hs.length hc) rfl; have p6 := BP.cell 6 (v := .int .i64 mo) rfl
  unfold listB
  cases hb : plB s
  · have e1 : plE s = 19 := by unfold plE; rw [hb]; rfl
    rw [e1] at CP
    clear hb
    go_enter Try.func16, Try.ntmps16
    go_wp2_with fail
    refine (CP.out _).mono ?_
    rintro e wn ⟨rfl, hbn⟩
    have bW := bW.st hbn; have BP := BP.below hbn BP.lt
    go_wp2_with fail
    go_ret
    exact ⟨rfl, bW⟩
  · have e1 : plE s = 0 := by unfold plE; rw [if_pos hb]
    rw [e1] at CP
    generalize plS s = u at *
    have CHu := Lib.hid (CH.out u)
    generalize hasS ps u = r at *
    clear hb CH
    go_enter Try.func16, Try.ntmps16
    go_wp2_with fail
    refine (CP.out _).mono ?_
    rintro e wn ⟨rfl, hbn⟩
    have bW := bW.st hbn; have BP := BP.below hbn BP.lt
    have p0 := BP.cell 0 (v := .string nm) rfl; have p1 := BP.cell 1 (v := .string zn) rfl; have p2 := BP.cell 2 (v := .slice pA ps.length pc) rfl; have p3 := BP.cell 3 (v := .int .i64 v0) rfl; have p4 := BP.cell 4 (v := .int .i64 v1) rfl; have p5 := BP.cell 5 (v := .slice hA hs.length hc) rfl; have p6 := BP.cell 6 (v := .int .i64 mo) rfl
    go_wp2_with fail
    refine (CHu.out _ bW).mono ?_
    rintro e wm ⟨rfl, rfl⟩
    go_wp2_with fail
    go_ret
    exact ⟨by simp, bW⟩

theorem hrs_at {hs : List Wn} {k : Nat} {x : Wn} {t : Int} (h : hs[k]? = some x) (q : wAtB x t = true) : hrsB hs t = true := by
  unfold hrsB
  rw [Bool.or_eq_true]
  exact Or.inr (List.any_eq_true.2 ⟨x, List.mem_of_getElem? h, q⟩)
theorem hrs_no {hs : List Wn} {t : Int} (hne : ¬ hs.length = 0) (h : ∀ x ∈ hs.take hs.length, wAtB x t = false) : hrsB hs t = false := by
  rw [List.take_length] at h
  unfold hrsB
  rw [decide_eq_false hne, Bool.false_or, List.any_eq_false]
  intro x hx
  rw [h x hx]; simp
theorem hrs_0 {hs : List Wn} {t : Int} (h : hs.length = 0) : hrsB hs t = true := by unfold hrsB; rw [decide_eq_true h]; rfl

set_option maxRecDepth 100000 in
set_option maxHeartbeats 8000000 in
theorem validP_any (p : Pm) (s : ByteArray) (t : Int) (hs0 : s.size ≤ 1000000) {w : World} (h : POk w p) (hl : p.ps.length ≤ 100000) :
    Calls Try.prog 7 #[PmV p, .string s, .int .i64 t] w fun e w' => e = .returned (.bool (validP p s t)) ∧ Below w.heap.size w w' := by
  have CL := Lib.hid (fun (X : World) (hX : Below w.heap.size w X) => listed_any p s hs0 (h.st hX) hl)
  have CI := Lib.hid (fun (x : Wn) (X : World) => in_any x t X)
  have H := Lib.hid h.2.1
  have CH := Lib.hid (fun (g : Nat) (X : World) (hX : Blk X g #[.int .i64 p.v0, .int .i64 p.v1] 26) => show Calls Try.prog 19 #[.slice (some ⟨g, 0, none⟩) 1 1, .int .i64 t] X _ from has_any (l := [((p.v0, p.v1) : Iv)]) 1 t (fun _ => ⟨g, 0, rfl, hX.lt, fun i y hi j u hu => by
    match i, j with
    | 0, 0 => simp at hi; subst hi; simp [encIv] at hu; subst hu; exact hX.cell 0 rfl
    | 0, 1 => simp at hi; subst hi; simp [encIv] at hu; subst hu; exact hX.cell 1 rfl
    | 0, j + 2 => simp [encIv] at hu
    | i + 1, _ => simp at hi⟩) (by simp))
  have hh := h.2.2.2
  have HAT := Lib.hid (fun (k : Nat) (x : Wn) q q1 => hrs_at (hs := p.hs) (t := t) (k := k) (x := x) q q1)
  have HNO := Lib.hid (hrs_no (hs := p.hs) (t := t))
  have H0 := Lib.hid (hrs_0 (hs := p.hs) (t := t))
  obtain ⟨nm, zn, pA, pc, ps, v0, v1, hA, hc, hs2, mo⟩ := p
  simp only [PmV, validP] at *
  clear h
  obtain ⟨hs, rfl⟩ : ∃ hs, hs = hs2 := ⟨_, rfl⟩
  obtain ⟨Y, hY⟩ : ∃ Y, w.alloc (.cells #[.string nm, .string zn, .slice pA ps.length pc, .int .i64 v0, .int .i64 v1, .slice hA hs.length hc, .int .i64 mo] 31) = Y := ⟨_, rfl⟩; have bW : Below w.heap.size w Y := (by rw [← hY]; exact (Below.refl _ w).al _); have BP : Blk Y w.heap.size #[.string nm, .string zn, .slice pA ps.length pc, .int .i64 v0, .int .i64 v1, .slice hA hs.length hc, .int .i64 mo] 31 := (by rw [← hY]; exact Blk.new w _ _)
  have p0 := BP.cell 0 (v := .string nm) rfl; have p1 := BP.cell 1 (v := .string zn) rfl; have p2 := BP.cell 2 (v := .slice pA ps.length pc) rfl; have p3 := BP.cell 3 (v := .int .i64 v0) rfl; have p4 := BP.cell 4 (v := .int .i64 v1) rfl; have p5 := BP.cell 5 (v := .slice hA hs.length hc) rfl; have p6 := BP.cell 6 (v := .int .i64 mo) rfl
  generalize hrsB hs t = rb at *
  cases hlb : listB ps s
  · rw [hlb] at CL
    clear hlb
    go_enter Try.func7, Try.ntmps7
    go_wp2_with fail
    refine (CL.out _ bW).mono ?_
    rintro e wn ⟨rfl, hbn⟩
    have bW := bW.st hbn; have BP := BP.below hbn BP.lt
    go_wp2_with fail
    go_ret
    exact ⟨rfl, bW⟩
  · rw [hlb] at CL
    clear hlb
    cases hhb : hasB [(v0, v1)] t
    · rw [hhb] at CH
      clear hhb
      go_enter Try.func7, Try.ntmps7
      go_wp2_with fail
      refine (CL.out _ bW).mono ?_
      rintro e wn ⟨rfl, hbn⟩
      have bW := bW.st hbn; have BP := BP.below hbn BP.lt
      have p0 := BP.cell 0 (v := .string nm) rfl; have p1 := BP.cell 1 (v := .string zn) rfl; have p2 := BP.cell 2 (v := .slice pA ps.length pc) rfl; have p3 := BP.cell 3 (v := .int .i64 v0) rfl; have p4 := BP.cell 4 (v := .int .i64 v1) rfl; have p5 := BP.cell 5 (v := .slice hA hs.length hc) rfl; have p6 := BP.cell 6 (v := .int .i64 mo) rfl
      obtain ⟨Y3, hY3⟩ : ∃ Y, wn.alloc (.cells #[.int .i64 v0, .int .i64 v1] 26) = Y := ⟨_, rfl⟩
      have B3 : Blk Y3 wn.heap.size #[.int .i64 v0, .int .i64 v1] 26 := by rw [← hY3]; exact Blk.new _ _ _
      have hbn : Below wn.heap.size wn Y3 := by rw [← hY3]; exact (Below.refl _ _).al _
      have bW := bW.st hbn; have BP := BP.below hbn BP.lt
      go_wp2_with fail
      refine (CH.out _ _ B3).mono ?_
      rintro e w4 ⟨rfl, hbn⟩
      have bW := bW.st hbn; have BP := BP.below hbn BP.lt
      go_wp2_with fail
      go_ret
      exact ⟨rfl, bW⟩
    · rw [hhb] at CH
      clear hhb
      by_cases hz : hs.length = 0
      · have R := Lib.hid (H0.out hz)
        have hzb : ((hs.length : Int) == 0) = true := by simp [hz]
        clear hz HNO HAT H0
        go_enter Try.func7, Try.ntmps7
        go_wp2_with fail
        refine (CL.out _ bW).mono ?_
        rintro e wn ⟨rfl, hbn⟩
        have bW := bW.st hbn; have BP := BP.below hbn BP.lt
        have p0 := BP.cell 0 (v := .string nm) rfl; have p1 := BP.cell 1 (v := .string zn) rfl; have p2 := BP.cell 2 (v := .slice pA ps.length pc) rfl; have p3 := BP.cell 3 (v := .int .i64 v0) rfl; have p4 := BP.cell 4 (v := .int .i64 v1) rfl; have p5 := BP.cell 5 (v := .slice hA hs.length hc) rfl; have p6 := BP.cell 6 (v := .int .i64 mo) rfl
        obtain ⟨Y3, hY3⟩ : ∃ Y, wn.alloc (.cells #[.int .i64 v0, .int .i64 v1] 26) = Y := ⟨_, rfl⟩
        have B3 : Blk Y3 wn.heap.size #[.int .i64 v0, .int .i64 v1] 26 := by rw [← hY3]; exact Blk.new _ _ _
        have hbn : Below wn.heap.size wn Y3 := by rw [← hY3]; exact (Below.refl _ _).al _
        have bW := bW.st hbn; have BP := BP.below hbn BP.lt
        go_wp2_with fail
        refine (CH.out _ _ B3).mono ?_
        rintro e w4 ⟨rfl, hbn⟩
        have bW := bW.st hbn; have BP := BP.below hbn BP.lt
        have p0 := BP.cell 0 (v := .string nm) rfl; have p1 := BP.cell 1 (v := .string zn) rfl; have p2 := BP.cell 2 (v := .slice pA ps.length pc) rfl; have p3 := BP.cell 3 (v := .int .i64 v0) rfl; have p4 := BP.cell 4 (v := .int .i64 v1) rfl; have p5 := BP.cell 5 (v := .slice hA hs.length hc) rfl; have p6 := BP.cell 6 (v := .int .i64 mo) rfl
        go_wp2_with fail
        go_ret
        obtain rfl := R.out; exact ⟨rfl, bW⟩
      · have HNO := Lib.hid (HNO.out hz)
        have hzb : ((hs.length : Int) == 0) = false := by simp only [beq_eq_false_iff_ne, ne_eq]; omega
        clear hz H0
        go_enter Try.func7, Try.ntmps7
        go_wp2_with fail
        refine (CL.out _ bW).mono ?_
        rintro e wn ⟨rfl, hbn⟩
        have bW := bW.st hbn; have BP := BP.below hbn BP.lt
        have p0 := BP.cell 0 (v := .string nm) rfl; have p1 := BP.cell 1 (v := .string zn) rfl; have p2 := BP.cell 2 (v := .slice pA ps.length pc) rfl; have p3 := BP.cell 3 (v := .int .i64 v0) rfl; have p4 := BP.cell 4 (v := .int .i64 v1) rfl; have p5 := BP.cell 5 (v := .slice hA hs.length hc) rfl; have p6 := BP.cell 6 (v := .int .i64 mo) rfl
        obtain ⟨Y3, hY3⟩ : ∃ Y, wn.alloc (.cells #[.int .i64 v0, .int .i64 v1] 26) = Y := ⟨_, rfl⟩
        have B3 : Blk Y3 wn.heap.size #[.int .i64 v0, .int .i64 v1] 26 := by rw [← hY3]; exact Blk.new _ _ _
        have hbn : Below wn.heap.size wn Y3 := by rw [← hY3]; exact (Below.refl _ _).al _
        have bW := bW.st hbn; have BP := BP.below hbn BP.lt
        go_wp2_with fail
        refine (CH.out _ _ B3).mono ?_
        rintro e w4 ⟨rfl, hbn⟩
        have bW := bW.st hbn; have BP := BP.below hbn BP.lt
        have p0 := BP.cell 0 (v := .string nm) rfl; have p1 := BP.cell 1 (v := .string zn) rfl; have p2 := BP.cell 2 (v := .slice pA ps.length pc) rfl; have p3 := BP.cell 3 (v := .int .i64 v0) rfl; have p4 := BP.cell 4 (v := .int .i64 v1) rfl; have p5 := BP.cell 5 (v := .slice hA hs.length hc) rfl; have p6 := BP.cell 6 (v := .int .i64 mo) rfl
        go_wp2_with fail
        clear CL CH hY hY3 B3 BP p0 p1 p2 p3 p4 p5 p6
        go_loopw [28] (fun i wr => ∃ k : Nat, k ≤ hs.length ∧ i = .int .i64 k ∧ Hid (∀ x ∈ hs.take k, wAtB x t = false) ∧ Below w.heap.size w wr) (fun i _ => hs.length - (RowKit.intOf i).toNat)
        case atStart => exact ⟨0, Nat.zero_le _, rfl, (by unfold Hid; simp), bW⟩
        case round =>
          clear bW
          obtain ⟨k, hk, rfl, HN, bW⟩ := hrel
          by_cases hi : k < hs.length
          · obtain ⟨b, off, x, y, z, hA1, hb, hx, d0, d1, d2⟩ := (H.out.st bW).w3 hi
            have HK := Lib.hid hi
            have HX := Lib.hid hx
            subst hA1
            obtain ⟨Y5, hY5⟩ : ∃ Y, wr.alloc (.cells #[.int .i64 x, .int .i64 y, .int .i64 z] 42) = Y := ⟨_, rfl⟩
            have B5 : Blk Y5 wr.heap.size #[.int .i64 x, .int .i64 y, .int .i64 z] 42 := by rw [← hY5]; exact Blk.new _ _ _
            have bW5 : Below w.heap.size w Y5 := by rw [← hY5]; exact bW.al _
            have x0 := B5.cell 0 (v := .int .i64 x) rfl
            have x1 := B5.cell 1 (v := .int .i64 y) rfl
            have x2 := B5.cell 2 (v := .int .i64 z) rfl
            have CIx := Lib.hid (CI.out (x, y, z))
            have HE := Lib.hid (show wAtB (x, y, z) t = (decide (0 ≤ t ∧ t < 68719476736) && decide (wAt (x, y, z) t)) from rfl)
            simp only at CIx
            rw [← HE.out] at CIx
            clear hx hi bW HE
            cases hq : wAtB (x, y, z) t
            · have R := Lib.hid (all_succ' (p := fun x => wAtB x t) HX.out HN.out hq)
              rw [hq] at CIx
              clear hq
              go_wp2_with fail
              refine (CIx.out _).mono ?_
              rintro e w6 ⟨rfl, hbn⟩
              have bW := bW5.st hbn
              go_wp2_with fail
              go_roundw
              case rel => exact ⟨k + 1, HK.out, by go_num, R, bW⟩
              case measure => have := HK.out; simp [RowKit.intOf]; omega
            · have R := Lib.hid (HAT.out k _ HX.out hq)
              rw [hq] at CIx
              clear hq
              go_wp2_with fail
              refine (CIx.out _).mono ?_
              rintro e w6 ⟨rfl, hbn⟩
              have bW := bW5.st hbn
              go_wp2_with fail
              go_ret
              obtain rfl := R.out; exact ⟨rfl, bW⟩
          · obtain rfl : k = hs.length := by omega
            have R := Lib.hid (HNO.out HN.out)
            go_wp2
            go_ret
            obtain rfl := R.out; exact ⟨rfl, bW⟩
end Go.Proofs.Ytbeoopofckbijaa
