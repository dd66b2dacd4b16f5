/- The reference's check of a trip, walked: it hands back a number. -/
import Derived.Test.YtelchfijalkibaaGreatDoorJTarRRate
import Derived.Test.YtelchfijalkibaaGreatDoorNetSys
import Derived.Test.YtelchfijalkibaaGreatDoorJFirst
import Derived.BigQuiet
import Derived.Deep.DeepCutAuto
import Derived.Deep.RegionHeld3
set_option linter.unusedSimpArgs false
set_option linter.unusedSimpArgs false
namespace Go.Proofs.YtelchfijalkibaaGreatDoor
open Go.RowKit Go.Lib

/-- a string is returned -/
def StrR (e : Ending) : Prop := ∃ s : ByteArray, e = .returned (.string s)
set_option maxRecDepth 100000 in
set_option maxHeartbeats 4000000 in
theorem tunk_any {pA lA sA : Option Addr} (pc lc sc : Nat) {pts : List Pt} {lks : List Lk} {sys : List Sy} (s : ByteArray) {w : World} (h : TOk w pA lA sA pts lks sys) (hsc : sys.length ≤ sc) :
    Calls Tryz.prog 16 #[.agg #[.slice pA pts.length pc, .slice lA lks.length lc, .slice sA sys.length sc], .string s] w fun e w' => BoolR e ∧ Below w.heap.size w w' := by
  obtain ⟨Y1, hY1⟩ : ∃ Y, w.alloc (.cells #[.slice pA pts.length pc, .slice lA lks.length lc, .slice sA sys.length sc] 28) = Y := ⟨_, rfl⟩
  have b1 : Below w.heap.size w Y1 := by rw [← hY1]; exact (Below.refl _ w).al _
  have B1 : Blk Y1 w.heap.size #[.slice pA pts.length pc, .slice lA lks.length lc, .slice sA sys.length sc] 28 := by rw [← hY1]; exact Blk.new w _ _
  have z0 := B1.cell 0 (v := .slice pA pts.length pc) rfl
  have z1 := B1.cell 1 (v := .slice lA lks.length lc) rfl
  have z2 := B1.cell 2 (v := .slice sA sys.length sc) rfl
  have CK := Lib.hid (kind_any pc lc sc s (h.st b1) hsc)
  clear h B1
  go_enter Tryz.func16, Tryz.ntmps16
  go_wp2_with fail
  refine CK.out.mono ?_
  rintro e W2 ⟨⟨n, rfl⟩, hbn⟩
  have b2 := b1.st hbn
  go_wp2_with fail
  go_ret
  exact ⟨⟨_, rfl⟩, b2⟩

set_option maxRecDepth 100000 in
set_option maxHeartbeats 4000000 in
theorem tid_any {xA : Option Addr} (xc : Nat) (xi xv xy : ByteArray) (cl : Int) {ss : List Stp} {w : World} (hs : Rd encSp 3 w w.heap.size xA ss) (hsl : ss.length ≤ 1000000) :
    Calls Tryz.prog 20 #[.agg #[.string xi, .string xv, .string xy, .int .i64 cl, .slice xA ss.length xc]] w fun e w' => StrR e ∧ Below w.heap.size w w' := by
  obtain ⟨Y1, hY1⟩ : ∃ Y, w.alloc (.cells #[.string xi, .string xv, .string xy, .int .i64 cl, .slice xA ss.length xc] 53) = Y := ⟨_, rfl⟩
  have b1 : Below w.heap.size w Y1 := by rw [← hY1]; exact (Below.refl _ w).al _
  have B1 : Blk Y1 w.heap.size #[.string xi, .string xv, .string xy, .int .i64 cl, .slice xA ss.length xc] 53 := by rw [← hY1]; exact Blk.new w _ _
  have z0 := B1.cell 0 (v := .string xi) rfl
  have z4 := B1.cell 4 (v := .slice xA ss.length xc) rfl
  have H := Lib.hid (hs.st b1)
  clear hs B1
  go_enter Tryz.func20, Tryz.ntmps20
  go_wp2_with fail
  go_loopw [3] (fun i wr => ∃ k : Nat, k ≤ ss.length ∧ i = .int .i64 k ∧ wr = Y1) (fun i _ => ss.length - (RowKit.intOf i).toNat)
  case atStart => exact ⟨0, Nat.zero_le _, rfl, rfl⟩
  case round =>
    obtain ⟨k, hk, rfl, hw⟩ := hrel
    have hw := hw.symm
    subst hw
    have k1 : (0 : Int) ≤ (k : Int) := by omega
    by_cases hi : k < ss.length
    · have k2 : (k : Int) < (ss.length : Int) := by omega
      obtain ⟨b, off, s, hA, hb, hx, d0, d1, d2⟩ := H.out.stp hi
      subst hA
      have HI := Lib.hid hi
      clear hx hi hb
      cases he : emp s.pg
      · obtain ⟨e1, e2, e3⟩ := toList_neE he
        clear he
        go_wp2_with fail
        go_ret
        exact ⟨⟨_, rfl⟩, b1⟩
      · obtain ⟨e1, e2, e3⟩ := toList_eE he
        clear he
        go_wp2_with fail
        go_roundw
        case rel => exact ⟨k + 1, HI.out, by go_num, by first | rfl | trivial⟩
        case measure => have := HI.out; simp [RowKit.intOf]; omega
    · obtain rfl : k = ss.length := by omega
      go_wp2_with fail
      go_ret
      exact ⟨⟨_, rfl⟩, b1⟩

/-- a point in a block of its own -/
def PtC (wo : World) (s7 s8 : Value) (wx : World) : Prop :=
  ∃ (g : Nat) (p : Pt) (f : Bool), s7 = .pointer (some ⟨g, 0, none⟩) ∧ s8 = .bool f ∧ Blk wx g #[.string p.name, .int .i64 p.kind, .string p.sys] 85 ∧ Below wo.heap.size wo wx
/-- what a valid trip is, as far as it is asked for -/
def TripOk (xv : ByteArray) (cl : Int) (ss : List Stp) : Prop := emp xv = false ∧ (1 ≤ cl ∧ cl ≤ 9) ∧ 0 < ss.length ∧ ∀ s ∈ ss, 0 ≤ s.t ∧ s.t < 68719476736
set_option maxRecDepth 100000 in
set_option maxHeartbeats 32000000 in
theorem tripchk_any {pA lA sA xA : Option Addr} (pc lc sc xc : Nat) (xi xv xy : ByteArray) (cl : Int) {pts : List Pt} {lks : List Lk} {sys : List Sy} {ss : List Stp} {w : World} (h : TOk w pA lA sA pts lks sys) (hsc : sys.length ≤ sc)
    (hs : Rd encSp 3 w w.heap.size xA ss) (hsl : ss.length ≤ 1000000) :
    Calls Tryz.prog 6 #[.agg #[.slice pA pts.length pc, .slice lA lks.length lc, .slice sA sys.length sc], .agg #[.string xi, .string xv, .string xy, .int .i64 cl, .slice xA ss.length xc]] w fun e w' => ZI (TripOk xv cl ss) e ∧ Below w.heap.size w w' := by
  obtain ⟨Y1, hY1⟩ : ∃ Y, w.alloc (.cells #[.slice pA pts.length pc, .slice lA lks.length lc, .slice sA sys.length sc] 28) = Y := ⟨_, rfl⟩
  obtain ⟨Y2, hY2⟩ : ∃ Y, Y1.alloc (.cells #[.string xi, .string xv, .string xy, .int .i64 cl, .slice xA ss.length xc] 53) = Y := ⟨_, rfl⟩
  have b1 : Below w.heap.size w Y1 := by rw [← hY1]; exact (Below.refl _ w).al _
  have bW : Below w.heap.size w Y2 := by rw [← hY2]; exact b1.al _
  have B1 : Blk Y2 w.heap.size #[.slice pA pts.length pc, .slice lA lks.length lc, .slice sA sys.length sc] 28 := by rw [← hY2, ← hY1]; exact (Blk.new w _ _).alloc _
  have B2 : Blk Y2 Y1.heap.size #[.string xi, .string xv, .string xy, .int .i64 cl, .slice xA ss.length xc] 53 := by rw [← hY2]; exact Blk.new Y1 _ _
  have t0 := B2.cell 0 (v := .string xi) rfl
  have t1 := B2.cell 1 (v := .string xv) rfl
  have t3 := B2.cell 3 (v := .int .i64 cl) rfl
  have t4 := B2.cell 4 (v := .slice xA ss.length xc) rfl
  have H := Lib.hid h
  have HS := Lib.hid hs
  have CU := Lib.hid (fun (s : ByteArray) (X : World) (hX : Below w.heap.size w X) => tunk_any pc lc sc s (h.st hX) hsc)
  have CK := Lib.hid (fun (s : ByteArray) (X : World) (hX : Below w.heap.size w X) => kind_any pc lc sc s (h.st hX) hsc)
  have CY := Lib.hid (fun (s : ByteArray) (X : World) (hX : Below w.heap.size w X) => system_any pc lc sc s (h.st hX) hsc)
  have CFS := Lib.hid (fun (s : ByteArray) (X : World) (hX : Below w.heap.size w X) => rfind07_any pc lc s (h.st hX).p (h.st hX).l h.pl h.ll)
  have CI := Lib.hid (fun (X : World) (hX : Below w.heap.size w X) => tid_any xc xi xv xy cl (hs.st hX) hsl)
  have HLT : Hid (w.heap.size < Y1.heap.size ∧ Y1.heap.size < Y2.heap.size) := Lib.hid ⟨by rw [← hY1]; simp, B2.lt⟩
  clear h hs b1
  go_enter Tryz.func6, Tryz.ntmps6
  cases h1 : emp xi
  case' true =>
    obtain ⟨e1, e2, e3⟩ := toList_eE h1
    go_wp2_with fail
    go_ret
    exact ⟨ZI.no (by simp), bW⟩
  obtain ⟨e1, e2, e3⟩ := toList_neE h1
  cases h2 : emp xv
  case' true =>
    obtain ⟨f1, f2, f3⟩ := toList_eE h2
    go_wp2_with fail
    go_ret
    exact ⟨ZI.no (by simp), bW⟩
  obtain ⟨f1, f2, f3⟩ := toList_neE h2
  by_cases c1 : cl < 1
  · go_wp2_with fail
    go_ret
    exact ⟨ZI.no (by simp), bW⟩
  by_cases c2 : 9 < cl
  · go_wp2_with fail
    go_ret
    exact ⟨ZI.no (by simp), bW⟩
  by_cases h0 : ss.length = 0
  · have h0b : ((ss.length : Int) == 0) = true := by simp [h0]
    clear h0
    go_wp2_with fail
    go_ret
    exact ⟨ZI.no (by simp), bW⟩
  have h0b : ((ss.length : Int) == 0) = false := by rw [beq_eq_false_iff_ne]; omega
  have hne : ss ≠ [] := fun q => h0 (by rw [q]; rfl)
  have hpos : (0 : Int) < (ss.length : Int) := by omega
  obtain ⟨b, off, hA, hbw, -⟩ := HS.out hne
  subst hA
  have HB1 := Lib.hid B1
  have HB2 := Lib.hid B2
  have HNE := Lib.hid hne
  have HP0 : Hid (emp xv = false ∧ (1 ≤ cl ∧ cl ≤ 9)) := Lib.hid ⟨h2, by omega, by omega⟩
  have HPN : Hid (0 < ss.length) := Lib.hid (by omega)
  have HT4 := Lib.hid t4
  clear h1 h2 B1 B2 hne h0
  go_wp2_with fail
  clear t0 t1 t3 t4
  go_loopw [5] (fun i wr => ∃ k : Nat, k ≤ ss.length ∧ i = .int .i64 k ∧ Hid (∀ s ∈ ss.take k, 0 ≤ s.t ∧ s.t < 68719476736) ∧ Below Y2.heap.size Y2 wr) (fun i _ => ss.length - (RowKit.intOf i).toNat)
  case atStart => exact ⟨0, Nat.zero_le _, rfl, (by unfold Hid; simp), Below.refl _ _⟩
  case round =>
    obtain ⟨k, hk, rfl, HT, bR⟩ := hrel
    have k1 : (0 : Int) ≤ (k : Int) := by omega
    have B1 := HB1.out.below bR HB1.out.lt
    have B2 := HB2.out.below bR HB2.out.lt
    have u4 := B2.cell 4 (v := .slice (some ⟨b, off, none⟩) ss.length xc) rfl
    by_cases hi : k < ss.length
    · have k2 : (k : Int) < (ss.length : Int) := by omega
      obtain ⟨b', off', s, hA', hbb, hx, d0, d1, d2⟩ := ((HS.out.st bW).st bR).stp hi
      injection hA' with hA'
      injection hA' with q1 q2
      subst q1
      subst q2
      have HI := Lib.hid hi
      have HXK := Lib.hid hx
      obtain ⟨Y3, hY3⟩ : ∃ Y, wr.alloc (.cells #[.string s.pt, .int .i64 s.t, .string s.pg] 82) = Y := ⟨_, rfl⟩
      have B3 : Blk Y3 wr.heap.size #[.string s.pt, .int .i64 s.t, .string s.pg] 82 := by rw [← hY3]; exact Blk.new wr _ _
      have b3 : Below wr.heap.size wr Y3 := by rw [← hY3]; exact (Below.refl _ wr).al _
      have bR3 := bR.st b3
      have B1 := B1.below b3 B1.lt
      have B2 := B2.below b3 B2.lt
      have z0 := B1.cell 0 (v := .slice pA pts.length pc) rfl
      have z1 := B1.cell 1 (v := .slice lA lks.length lc) rfl
      have z2 := B1.cell 2 (v := .slice sA sys.length sc) rfl
      have s0 := B3.cell 0 (v := .string s.pt) rfl
      have CUX := Lib.hid (CU.out s.pt Y3 (bW.st bR3))
      clear hx hi hbb
      go_wp2_with fail
      refine CUX.out.mono ?_
      rintro e W4 ⟨⟨ub, rfl⟩, hbn⟩
      have bR4 := bR3.st hbn
      have B2 := B2.below hbn B2.lt
      have B3 := B3.below hbn B3.lt
      have bW4 := bW.st bR4
      clear CUX z0 z1 z2 s0 u4 d0 d1 d2
      cases ub
      case' true =>
        go_wp2_with fail
        go_ret
        exact ⟨ZI.no (by simp), bW4⟩
      have s1 := B3.cell 1 (v := .int .i64 s.t) rfl
      have u4 := B2.cell 4 (v := .slice (some ⟨b, off, none⟩) ss.length xc) rfl
      by_cases p1 : s.t < 0
      · go_wp2_with fail
        go_ret
        exact ⟨ZI.no (by simp), bW4⟩
      by_cases p2 : 68719476736 ≤ s.t
      · go_wp2_with fail
        go_ret
        exact ⟨ZI.no (by simp), bW4⟩
      have R : Hid (∀ s ∈ ss.take (k + 1), 0 ≤ s.t ∧ s.t < 68719476736) := Lib.hid (by
        intro z hz
        rw [take_snoc HXK.out] at hz
        rcases List.mem_append.1 hz with q | q
        · exact HT.out z q
        · rw [List.mem_singleton] at q; subst q; omega)
      clear hbn b3 bR3 bR
      by_cases hk0 : k = 0
      · have hn0 : ¬ (0 < k) := by omega
        have hn0d : decide (0 < k) = false := decide_eq_false hn0
        have hn0z : decide ((0 : Int) < (k : Int)) = false := decide_eq_false (by omega)
        have hn0y : decide ((k : Int) > 0) = false := decide_eq_false (by omega)
        clear hk0
        go_wp2_with fail
        go_quiet (fail)
        go_wp2_with fail
        go_roundw
        case rel => exact ⟨k + 1, HI.out, by go_num, R, below_drewN bR4 _⟩
        case measure => have := HI.out; simp [RowKit.intOf]; omega
      · obtain ⟨m, hm⟩ : ∃ m, m + 1 = k := ⟨k - 1, by omega⟩
        obtain ⟨b2, off2, x, hA2, hbb2, hx2, g0, g1, g2⟩ := ((HS.out.st bW).st bR4).stp (i := m) (by omega)
        injection hA2 with hA2
        injection hA2 with q1 q2
        subst q1
        subst q2
        have hn0 : 0 < k := by omega
        have hn0z : decide ((0 : Int) < (k : Int)) = true := decide_eq_true (by omega)
        have hn0y : decide ((k : Int) > 0) = true := decide_eq_true (by omega)
        have hwm : IntKind.i64.wrap ((k : Int) - 1) = (m : Int) := by rw [show (k : Int) - 1 = (m : Int) by omega]; exact IntWalk.i64_in _ (by omega)
        have m1 : (0 : Int) ≤ (m : Int) := by omega
        have m2 : (m : Int) < (ss.length : Int) := by omega
        clear hk0 hx2 hbb2 g0 g2 hm
        by_cases hlt : s.t < x.t
        · have hltd : decide (s.t < x.t) = true := decide_eq_true hlt
          go_wp2_with fail
          go_quiet (fail)
          go_wp2_with fail
          go_ret
          exact ⟨ZI.no (by simp), below_drewN bW4 _⟩
        · have hltd : decide (s.t < x.t) = false := decide_eq_false hlt
          go_wp2_with fail
          go_quiet (fail)
          go_wp2_with fail
          go_roundw
          case rel => exact ⟨k + 1, HI.out, by go_num, R, below_drewN bR4 _⟩
          case measure => have := HI.out; simp [RowKit.intOf]; omega
    · obtain rfl : k = ss.length := by omega
      rw [List.take_length] at HT
      have HP : Hid (TripOk xv cl ss) := Lib.hid ⟨HP0.out.1, HP0.out.2, HPN.out, HT.out⟩
      obtain ⟨W, hW⟩ : ∃ W, W = wr := ⟨_, rfl⟩
      rw [← hW] at bR B1 B2 u4 ⊢
      clear hW wr hk hi
      have bW0 := bW.st bR
      obtain ⟨b', off', s, hA', hbb, hx, d0, d1, d2⟩ := (HS.out.st bW0).stp (i := 0) (by omega)
      injection hA' with hA'
      injection hA' with q1 q2
      subst q1
      subst q2
      simp only [Nat.zero_mul, Nat.add_zero] at d0 d1 d2
      have HSP := Lib.hid (And.intro hbb (And.intro d0 d1))
      have KS : Hid (∀ X, Below W.heap.size W X → (fun w' : World => w'.cell? ⟨w.heap.size, 0, none⟩ = some (.slice pA pts.length pc) ∧ w'.cell? ⟨w.heap.size, 1, none⟩ = some (.slice lA lks.length lc) ∧ w'.cell? ⟨Y1.heap.size, 4, none⟩ = some (.slice (some ⟨b, off, none⟩) ss.length xc) ∧ w'.cell? ⟨b, off, none⟩ = some (.string s.pt)) X) := Lib.hid (fun X hX => ⟨(B1.below hX B1.lt).cell 0 rfl, (B1.below hX B1.lt).cell 1 rfl, (B2.below hX B2.lt).cell 4 rfl, (hX.cell (p := ⟨b, off, none⟩) hbb).trans d0⟩)
      have HB0 := Lib.hid bW0
      have HQ1 := Lib.hid B1
      have HQ2 := Lib.hid B2
      clear hx B1 B2 bW0 bR hbb d0 d1 d2
      go_upto_region 17 with fail
      clear u4
      have hposn : 0 < ss.length := by have := HPN.out; omega
      go_cut [7, 8] (fun s7 s8 wx => PtC W s7 s8 wx)
      case first =>
        (refine wp_region_held_drew (S := (fun w' : World => w'.cell? ⟨w.heap.size, 0, none⟩ = some (.slice pA pts.length pc) ∧ w'.cell? ⟨w.heap.size, 1, none⟩ = some (.slice lA lks.length lc) ∧ w'.cell? ⟨Y1.heap.size, 4, none⟩ = some (.slice (some ⟨b, off, none⟩) ss.length xc) ∧ w'.cell? ⟨b, off, none⟩ = some (.string s.pt))) (by kernel_rfl) ?_ (fun hHeld => ?_)); (focus exact KS.out _ (Below.refl _ _).drew); (have bR := (Below.refl (W).heap.size W).drew); (obtain ⟨V0, hV0⟩ : ∃ V, World.drew W = V := ⟨_, rfl⟩); rw [hV0] at bR hHeld ⊢; clear hV0; (have hbs := bR.size); (change wpAnyH _ _ _ _ _ 14 _ _ _)
        refine wpAnyH_take (i := 0) (v := ?_) (by simp only [List.getElem?_toArray, List.getElem?_cons_zero, List.getElem?_cons_succ]; rfl) (by kernel_rfl) (by kernel_rfl) (by kernel_rfl) (by intro _ _ _ h; exact h) (Or.inl ⟨by rfl, ?_⟩) (by assumption) ?_; rotate_left; (focus (intro w1 hSw; (try dsimp only at hSw); go_simp; (try with_reducible rfl))); (try simp only [Act.put, List.setIfInBounds_toArray, List.set_cons_zero, List.set_cons_succ, List.getElem_toArray, List.getElem_cons_zero, List.getElem_cons_succ])
        refine wpAnyH_take (i := 1) (v := ?_) (by simp only [List.getElem?_toArray, List.getElem?_cons_zero, List.getElem?_cons_succ]; rfl) (by kernel_rfl) (by kernel_rfl) (by kernel_rfl) (by intro _ _ _ h; exact h) (Or.inl ⟨by rfl, ?_⟩) (by assumption) ?_; rotate_left; (focus (intro w1 hSw; (try dsimp only at hSw); go_simp; (try with_reducible rfl))); (try simp only [Act.put, List.setIfInBounds_toArray, List.set_cons_zero, List.set_cons_succ, List.getElem_toArray, List.getElem_cons_zero, List.getElem_cons_succ])
        refine wpAnyH_take (i := 2) (v := ?_) (by simp only [List.getElem?_toArray, List.getElem?_cons_zero, List.getElem?_cons_succ]; rfl) (by kernel_rfl) (by kernel_rfl) (by kernel_rfl) (by intro _ _ _ h; exact h) (Or.inl ⟨by rfl, ?_⟩) (by assumption) ?_; rotate_left; (focus (intro w1 hSw; (try dsimp only at hSw); go_simp; (try with_reducible rfl))); (try simp only [Act.put, List.setIfInBounds_toArray, List.set_cons_zero, List.set_cons_succ, List.getElem_toArray, List.getElem_cons_zero, List.getElem_cons_succ])
        refine wpAnyH_take (i := 3) (v := ?_) (by simp only [List.getElem?_toArray, List.getElem?_cons_zero, List.getElem?_cons_succ]; rfl) (by kernel_rfl) (by kernel_rfl) (by kernel_rfl) (by intro _ _ _ h; exact h) (Or.inl ⟨by rfl, ?_⟩) (by assumption) ?_; rotate_left; (focus (intro w1 hSw; (try dsimp only at hSw); go_simp; (try with_reducible rfl))); (try simp only [Act.put, List.setIfInBounds_toArray, List.set_cons_zero, List.set_cons_succ, List.getElem_toArray, List.getElem_cons_zero, List.getElem_cons_succ])
        refine wpAnyH_take (i := 4) (v := ?_) (by simp only [List.getElem?_toArray, List.getElem?_cons_zero, List.getElem?_cons_succ]; rfl) (by kernel_rfl) (by kernel_rfl) (by kernel_rfl) (by intro _ _ _ h; exact h) (Or.inl ⟨by rfl, ?_⟩) (by assumption) ?_; rotate_left; (focus (intro w1 hSw; (try dsimp only at hSw); go_simp; (try with_reducible rfl))); (try simp only [Act.put, List.setIfInBounds_toArray, List.set_cons_zero, List.set_cons_succ, List.getElem_toArray, List.getElem_cons_zero, List.getElem_cons_succ])
        refine wpAnyH_take (i := 5) (v := ?_) (by simp only [List.getElem?_toArray, List.getElem?_cons_zero, List.getElem?_cons_succ]; rfl) (by kernel_rfl) (by kernel_rfl) (by kernel_rfl) (by intro _ _ _ h; exact h) (Or.inl ⟨by rfl, ?_⟩) (by assumption) ?_; rotate_left; (focus (intro w1 hSw; (try dsimp only at hSw); go_simp; (try with_reducible rfl))); (try simp only [Act.put, List.setIfInBounds_toArray, List.set_cons_zero, List.set_cons_succ, List.getElem_toArray, List.getElem_cons_zero, List.getElem_cons_succ])
        refine wpAnyH_take (i := 6) (v := ?_) (by simp only [List.getElem?_toArray, List.getElem?_cons_zero, List.getElem?_cons_succ]; rfl) (by kernel_rfl) (by kernel_rfl) (by kernel_rfl) (by intro _ _ _ h; exact h) (Or.inl ⟨by rfl, ?_⟩) (by assumption) ?_; rotate_left; (focus (intro w1 hSw; (try dsimp only at hSw); go_simp; (try with_reducible rfl))); (try simp only [Act.put, List.setIfInBounds_toArray, List.set_cons_zero, List.set_cons_succ, List.getElem_toArray, List.getElem_cons_zero, List.getElem_cons_succ])
        refine wpAnyH_ready (rs := [7, 11]) (by kernel_rfl) (by simp) ?_; refine AllReadyH.cons (by simp only [List.getElem?_toArray, List.getElem?_cons_zero, List.getElem?_cons_succ]; rfl) (fun K hK => ?_) (AllReadyH.cons (by simp only [List.getElem?_toArray, List.getElem?_cons_zero, List.getElem?_cons_succ]; rfl) (fun K hK => ?_) AllReadyH.nil)
        · rw [if_pos (by rfl)]; go_wp2_with fail; (refine (CFS.out s.pt _ (HB0.out.st bR)).mono ?_); (rintro e V1 ⟨⟨p, f, rfl, -⟩, hbn⟩); (simp only [PtV]); (have bR := bR.st hbn); (have hbs := bR.size); go_wp2_with fail
          refine hK.out _ _ ?_ (fun hHeld => ?_); (focus exact (KS.out _ bR)); clear hK K; (try simp only [Act.put, List.setIfInBounds_toArray, List.set_cons_zero, List.set_cons_succ, List.getElem_toArray, List.getElem_cons_zero, List.getElem_cons_succ])
          clear hbn
          refine wpAnyH_take (i := 8) (v := ?_) (by simp only [List.getElem?_toArray, List.getElem?_cons_zero, List.getElem?_cons_succ]; rfl) (by kernel_rfl) (by kernel_rfl) (by kernel_rfl) (by intro _ _ _ h; exact h) (Or.inl ⟨by rfl, ?_⟩) (by assumption) ?_; rotate_left; (focus (intro w1 hSw; (try dsimp only at hSw); go_simp; (try with_reducible rfl))); (try simp only [Act.put, List.setIfInBounds_toArray, List.set_cons_zero, List.set_cons_succ, List.getElem_toArray, List.getElem_cons_zero, List.getElem_cons_succ])
          refine wpAnyH_take (i := 9) (v := ?_) (by simp only [List.getElem?_toArray, List.getElem?_cons_zero, List.getElem?_cons_succ]; rfl) (by kernel_rfl) (by kernel_rfl) (by kernel_rfl) (by intro _ _ _ h; exact h) (Or.inl ⟨by rfl, ?_⟩) (by assumption) ?_; rotate_left; (focus (intro w1 hSw; (try dsimp only at hSw); go_simp; (try with_reducible rfl))); (try simp only [Act.put, List.setIfInBounds_toArray, List.set_cons_zero, List.set_cons_succ, List.getElem_toArray, List.getElem_cons_zero, List.getElem_cons_succ])
          refine wpAnyH_take (i := 10) (v := ?_) (by simp only [List.getElem?_toArray, List.getElem?_cons_zero, List.getElem?_cons_succ]; rfl) (by kernel_rfl) (by kernel_rfl) (by kernel_rfl) (by intro _ _ _ h; exact h) (Or.inl ⟨by rfl, ?_⟩) (by assumption) ?_; rotate_left; (focus (intro w1 hSw; (try dsimp only at hSw); go_simp; (try with_reducible rfl))); (try simp only [Act.put, List.setIfInBounds_toArray, List.set_cons_zero, List.set_cons_succ, List.getElem_toArray, List.getElem_cons_zero, List.getElem_cons_succ])
          refine wpAnyH_ready (rs := [11]) (by kernel_rfl) (by simp) ?_; refine AllReadyH.cons (by simp only [List.getElem?_toArray, List.getElem?_cons_zero, List.getElem?_cons_succ]; rfl) (fun K hK => ?_) AllReadyH.nil
          (obtain ⟨V2, hV⟩ : ∃ V, World.alloc V1 (.cells #[.string ⟨#[]⟩, .int .i64 0, .string ⟨#[]⟩] 85) = V := ⟨_, rfl⟩); (have hbn : Below (V1).heap.size V1 V2 := (by rw [← hV]; exact (Below.refl _ _).al _)); (have C5 : Blk V2 (V1).heap.size #[.string ⟨#[]⟩, .int .i64 0, .string ⟨#[]⟩] 85 := (by rw [← hV]; exact Blk.new _ _ _)); (have bR := bR.st hbn)
          have hl5 := C5.lt
          rw [if_pos (by rfl)]; go_wp2_with fail
          refine hK.out _ _ ?_ (fun hHeld => ?_); (focus exact (KS.out _ bR)); clear hK K; (try simp only [Act.put, List.setIfInBounds_toArray, List.set_cons_zero, List.set_cons_succ, List.getElem_toArray, List.getElem_cons_zero, List.getElem_cons_succ])
          clear hV hbn
          refine wpAnyH_ready (rs := [12]) (by kernel_rfl) (by simp) ?_; refine AllReadyH.cons (by simp only [List.getElem?_toArray, List.getElem?_cons_zero, List.getElem?_cons_succ]; rfl) (fun K hK => ?_) AllReadyH.nil
          rw [if_pos (by rfl)]; refine wp_boxStore rfl C5 rfl rfl (by kernel_rfl) rfl (by kernel_rfl) ?_; intro V3 C5 hoz hbz; (have bR := hbz _ _ (by omega) bR)
          refine hK.out _ _ ?_ (fun hHeld => ?_); (focus exact (KS.out _ bR)); clear hK K; (try simp only [Act.put, List.setIfInBounds_toArray, List.set_cons_zero, List.set_cons_succ, List.getElem_toArray, List.getElem_cons_zero, List.getElem_cons_succ])
          clear hoz hbz
          refine wpAnyH_take (i := 13) (v := ?_) (by simp only [List.getElem?_toArray, List.getElem?_cons_zero, List.getElem?_cons_succ]; rfl) (by kernel_rfl) (by kernel_rfl) (by kernel_rfl) (by intro _ _ _ h; exact h) (Or.inl ⟨by rfl, ?_⟩) (by assumption) ?_; rotate_left; (focus (intro w1 hSw; (try dsimp only at hSw); go_simp; (try with_reducible rfl))); (try simp only [Act.put, List.setIfInBounds_toArray, List.set_cons_zero, List.set_cons_succ, List.getElem_toArray, List.getElem_cons_zero, List.getElem_cons_succ])
          refine wpAnyH_done (by kernel_rfl) ?_ _; go_wp2_with fail; go_meet; exact ⟨_, p, f, rfl, rfl, C5, bR⟩
        · (obtain ⟨V1, hV⟩ : ∃ V, World.alloc V0 (.cells #[.string ⟨#[]⟩, .int .i64 0, .string ⟨#[]⟩] 85) = V := ⟨_, rfl⟩); (have hbn : Below (V0).heap.size V0 V1 := (by rw [← hV]; exact (Below.refl _ _).al _)); (have C5 : Blk V1 (V0).heap.size #[.string ⟨#[]⟩, .int .i64 0, .string ⟨#[]⟩] 85 := (by rw [← hV]; exact Blk.new _ _ _)); (have bR := bR.st hbn)
          have hl5 := C5.lt
          rw [if_pos (by rfl)]; go_wp2_with fail
          refine hK.out _ _ ?_ (fun hHeld => ?_); (focus exact (KS.out _ bR)); clear hK K; (try simp only [Act.put, List.setIfInBounds_toArray, List.set_cons_zero, List.set_cons_succ, List.getElem_toArray, List.getElem_cons_zero, List.getElem_cons_succ])
          clear hV hbn
          refine wpAnyH_ready (rs := [7]) (by kernel_rfl) (by simp) ?_; refine AllReadyH.cons (by simp only [List.getElem?_toArray, List.getElem?_cons_zero, List.getElem?_cons_succ]; rfl) (fun K hK => ?_) AllReadyH.nil
          rw [if_pos (by rfl)]; go_wp2_with fail; (refine (CFS.out s.pt _ (HB0.out.st bR)).mono ?_); (rintro e V2 ⟨⟨p, f, rfl, -⟩, hbn⟩); (simp only [PtV]); (have bR := bR.st hbn); (have hbs := bR.size); go_wp2_with fail
          have C5 := C5.below hbn C5.lt
          refine hK.out _ _ ?_ (fun hHeld => ?_); (focus exact (KS.out _ bR)); clear hK K; (try simp only [Act.put, List.setIfInBounds_toArray, List.set_cons_zero, List.set_cons_succ, List.getElem_toArray, List.getElem_cons_zero, List.getElem_cons_succ])
          clear hbn
          refine wpAnyH_take (i := 8) (v := ?_) (by simp only [List.getElem?_toArray, List.getElem?_cons_zero, List.getElem?_cons_succ]; rfl) (by kernel_rfl) (by kernel_rfl) (by kernel_rfl) (by intro _ _ _ h; exact h) (Or.inl ⟨by rfl, ?_⟩) (by assumption) ?_; rotate_left; (focus (intro w1 hSw; (try dsimp only at hSw); go_simp; (try with_reducible rfl))); (try simp only [Act.put, List.setIfInBounds_toArray, List.set_cons_zero, List.set_cons_succ, List.getElem_toArray, List.getElem_cons_zero, List.getElem_cons_succ])
          refine wpAnyH_take (i := 9) (v := ?_) (by simp only [List.getElem?_toArray, List.getElem?_cons_zero, List.getElem?_cons_succ]; rfl) (by kernel_rfl) (by kernel_rfl) (by kernel_rfl) (by intro _ _ _ h; exact h) (Or.inl ⟨by rfl, ?_⟩) (by assumption) ?_; rotate_left; (focus (intro w1 hSw; (try dsimp only at hSw); go_simp; (try with_reducible rfl))); (try simp only [Act.put, List.setIfInBounds_toArray, List.set_cons_zero, List.set_cons_succ, List.getElem_toArray, List.getElem_cons_zero, List.getElem_cons_succ])
          refine wpAnyH_take (i := 10) (v := ?_) (by simp only [List.getElem?_toArray, List.getElem?_cons_zero, List.getElem?_cons_succ]; rfl) (by kernel_rfl) (by kernel_rfl) (by kernel_rfl) (by intro _ _ _ h; exact h) (Or.inl ⟨by rfl, ?_⟩) (by assumption) ?_; rotate_left; (focus (intro w1 hSw; (try dsimp only at hSw); go_simp; (try with_reducible rfl))); (try simp only [Act.put, List.setIfInBounds_toArray, List.set_cons_zero, List.set_cons_succ, List.getElem_toArray, List.getElem_cons_zero, List.getElem_cons_succ])
          refine wpAnyH_ready (rs := [12]) (by kernel_rfl) (by simp) ?_; refine AllReadyH.cons (by simp only [List.getElem?_toArray, List.getElem?_cons_zero, List.getElem?_cons_succ]; rfl) (fun K hK => ?_) AllReadyH.nil
          rw [if_pos (by rfl)]; refine wp_boxStore rfl C5 rfl rfl (by kernel_rfl) rfl (by kernel_rfl) ?_; intro V3 C5 hoz hbz; (have bR := hbz _ _ (by omega) bR)
          refine hK.out _ _ ?_ (fun hHeld => ?_); (focus exact (KS.out _ bR)); clear hK K; (try simp only [Act.put, List.setIfInBounds_toArray, List.set_cons_zero, List.set_cons_succ, List.getElem_toArray, List.getElem_cons_zero, List.getElem_cons_succ])
          clear hoz hbz
          refine wpAnyH_take (i := 13) (v := ?_) (by simp only [List.getElem?_toArray, List.getElem?_cons_zero, List.getElem?_cons_succ]; rfl) (by kernel_rfl) (by kernel_rfl) (by kernel_rfl) (by intro _ _ _ h; exact h) (Or.inl ⟨by rfl, ?_⟩) (by assumption) ?_; rotate_left; (focus (intro w1 hSw; (try dsimp only at hSw); go_simp; (try with_reducible rfl))); (try simp only [Act.put, List.setIfInBounds_toArray, List.set_cons_zero, List.set_cons_succ, List.getElem_toArray, List.getElem_cons_zero, List.getElem_cons_succ])
          refine wpAnyH_done (by kernel_rfl) ?_ _; go_wp2_with fail; go_meet; exact ⟨_, p, f, rfl, rfl, C5, bR⟩
      case rest =>
        obtain ⟨g7, p, f, rfl, rfl, P1, bc⟩ := hcut
        have HP1 := Lib.hid P1
        have HBC := Lib.hid bc
        have bW1 := HB0.out.st bc
        have B1 := HQ1.out.below bc HQ1.out.lt
        have B2 := HQ2.out.below bc HQ2.out.lt
        have t2 := B2.cell 2 (v := .string xy) rfl
        have t4 := B2.cell 4 (v := .slice (some ⟨b, off, none⟩) ss.length xc) rfl
        have y2 := P1.cell 2 (v := .string p.sys) rfl
        have HQ1 := Lib.hid B1
        have HQ2 := Lib.hid B2
        clear KS B1 B2 P1
        have hq : (xy.toList == p.sys.toList) = eqS xy p.sys := rfl
        cases he : eqS xy p.sys
        case' false =>
          rw [he] at hq
          go_wp2_with fail
          go_ret
          exact ⟨ZI.yes HP.out, bW1⟩
        rw [he] at hq
        obtain ⟨m, hm⟩ : ∃ m, m + 1 = ss.length := ⟨ss.length - 1, by omega⟩
        have hwm : IntKind.i64.wrap ((ss.length : Int) - 1) = (m : Int) := by rw [show (ss.length : Int) - 1 = (m : Int) by omega]; exact IntWalk.i64_in _ (by omega)
        have m1 : (0 : Int) ≤ (m : Int) := by omega
        have m2 : (m : Int) < (ss.length : Int) := by omega
        obtain ⟨b2, off2, y, hA2, hbb2, hx2, g0, g1, g2⟩ := (HS.out.st bW1).stp (i := m) (by omega)
        injection hA2 with hA2
        injection hA2 with q1 q2
        subst q1
        subst q2
        have HG := Lib.hid (And.intro hbb2 (And.intro g0 g1))
        have KS : Hid (∀ X, Below wc.heap.size wc X → (fun w' : World => w'.cell? ⟨w.heap.size, 0, none⟩ = some (.slice pA pts.length pc) ∧ w'.cell? ⟨w.heap.size, 1, none⟩ = some (.slice lA lks.length lc) ∧ w'.cell? ⟨Y1.heap.size, 4, none⟩ = some (.slice (some ⟨b, off, none⟩) ss.length xc) ∧ w'.cell? ⟨b, off + m * 3, none⟩ = some (.string y.pt)) X) := Lib.hid (fun X hX => ⟨(HQ1.out.below hX HQ1.out.lt).cell 0 rfl, (HQ1.out.below hX HQ1.out.lt).cell 1 rfl, (HQ2.out.below hX HQ2.out.lt).cell 4 rfl, (hX.cell (p := ⟨b, off + m * 3, none⟩) hbb2).trans g0⟩)
        have HB0 := Lib.hid bW1
        have HMN := Lib.hid hm
        clear hx2 bW1 bc hbb2 g0 g1 g2 hm he
        go_upto_region 21 with fail
        clear t2 t4 y2
        go_cut [10, 11] (fun s7 s8 wx => PtC wc s7 s8 wx)
        case first =>
          (refine wp_region_held_drew (S := (fun w' : World => w'.cell? ⟨w.heap.size, 0, none⟩ = some (.slice pA pts.length pc) ∧ w'.cell? ⟨w.heap.size, 1, none⟩ = some (.slice lA lks.length lc) ∧ w'.cell? ⟨Y1.heap.size, 4, none⟩ = some (.slice (some ⟨b, off, none⟩) ss.length xc) ∧ w'.cell? ⟨b, off + m * 3, none⟩ = some (.string y.pt))) (by kernel_rfl) ?_ (fun hHeld => ?_)); (focus exact KS.out _ (Below.refl _ _).drew); (have bR := (Below.refl (wc).heap.size wc).drew); (obtain ⟨V0, hV0⟩ : ∃ V, World.drew wc = V := ⟨_, rfl⟩); rw [hV0] at bR hHeld ⊢; clear hV0; (have hbs := bR.size); (change wpAnyH _ _ _ _ _ 16 _ _ _)
          refine wpAnyH_take (i := 0) (v := ?_) (by simp only [List.getElem?_toArray, List.getElem?_cons_zero, List.getElem?_cons_succ]; rfl) (by kernel_rfl) (by kernel_rfl) (by kernel_rfl) (by intro _ _ _ h; exact h) (Or.inl ⟨by rfl, ?_⟩) (by assumption) ?_; rotate_left; (focus (intro w1 hSw; (try dsimp only at hSw); go_simp; (try with_reducible rfl))); (try simp only [Act.put, List.setIfInBounds_toArray, List.set_cons_zero, List.set_cons_succ, List.getElem_toArray, List.getElem_cons_zero, List.getElem_cons_succ])
          refine wpAnyH_take (i := 1) (v := ?_) (by simp only [List.getElem?_toArray, List.getElem?_cons_zero, List.getElem?_cons_succ]; rfl) (by kernel_rfl) (by kernel_rfl) (by kernel_rfl) (by intro _ _ _ h; exact h) (Or.inl ⟨by rfl, ?_⟩) (by assumption) ?_; rotate_left; (focus (intro w1 hSw; (try dsimp only at hSw); go_simp; (try with_reducible rfl))); (try simp only [Act.put, List.setIfInBounds_toArray, List.set_cons_zero, List.set_cons_succ, List.getElem_toArray, List.getElem_cons_zero, List.getElem_cons_succ])
          refine wpAnyH_take (i := 2) (v := ?_) (by simp only [List.getElem?_toArray, List.getElem?_cons_zero, List.getElem?_cons_succ]; rfl) (by kernel_rfl) (by kernel_rfl) (by kernel_rfl) (by intro _ _ _ h; exact h) (Or.inl ⟨by rfl, ?_⟩) (by assumption) ?_; rotate_left; (focus (intro w1 hSw; (try dsimp only at hSw); go_simp; (try with_reducible rfl))); (try simp only [Act.put, List.setIfInBounds_toArray, List.set_cons_zero, List.set_cons_succ, List.getElem_toArray, List.getElem_cons_zero, List.getElem_cons_succ])
          refine wpAnyH_take (i := 3) (v := ?_) (by simp only [List.getElem?_toArray, List.getElem?_cons_zero, List.getElem?_cons_succ]; rfl) (by kernel_rfl) (by kernel_rfl) (by kernel_rfl) (by intro _ _ _ h; exact h) (Or.inl ⟨by rfl, ?_⟩) (by assumption) ?_; rotate_left; (focus (intro w1 hSw; (try dsimp only at hSw); go_simp; (try with_reducible rfl))); (try simp only [Act.put, List.setIfInBounds_toArray, List.set_cons_zero, List.set_cons_succ, List.getElem_toArray, List.getElem_cons_zero, List.getElem_cons_succ])
          refine wpAnyH_take (i := 4) (v := ?_) (by simp only [List.getElem?_toArray, List.getElem?_cons_zero, List.getElem?_cons_succ]; rfl) (by kernel_rfl) (by kernel_rfl) (by kernel_rfl) (by intro _ _ _ h; exact h) (Or.inl ⟨by rfl, ?_⟩) (by assumption) ?_; rotate_left; (focus (intro w1 hSw; (try dsimp only at hSw); go_simp; (try with_reducible rfl))); (try simp only [Act.put, List.setIfInBounds_toArray, List.set_cons_zero, List.set_cons_succ, List.getElem_toArray, List.getElem_cons_zero, List.getElem_cons_succ])
          refine wpAnyH_take (i := 5) (v := ?_) (by simp only [List.getElem?_toArray, List.getElem?_cons_zero, List.getElem?_cons_succ]; rfl) (by kernel_rfl) (by kernel_rfl) (by kernel_rfl) (by intro _ _ _ h; exact h) (Or.inl ⟨by rfl, ?_⟩) (by assumption) ?_; rotate_left; (focus (intro w1 hSw; (try dsimp only at hSw); go_simp; (try with_reducible rfl))); (try simp only [Act.put, List.setIfInBounds_toArray, List.set_cons_zero, List.set_cons_succ, List.getElem_toArray, List.getElem_cons_zero, List.getElem_cons_succ])
          refine wpAnyH_take (i := 6) (v := ?_) (by simp only [List.getElem?_toArray, List.getElem?_cons_zero, List.getElem?_cons_succ]; rfl) (by kernel_rfl) (by kernel_rfl) (by kernel_rfl) (by intro _ _ _ h; exact h) (Or.inl ⟨by rfl, ?_⟩) (by assumption) ?_; rotate_left; (focus (intro w1 hSw; (try dsimp only at hSw); go_simp; (try with_reducible rfl))); (try simp only [Act.put, List.setIfInBounds_toArray, List.set_cons_zero, List.set_cons_succ, List.getElem_toArray, List.getElem_cons_zero, List.getElem_cons_succ])
          refine wpAnyH_take (i := 7) (v := ?_) (by simp only [List.getElem?_toArray, List.getElem?_cons_zero, List.getElem?_cons_succ]; rfl) (by kernel_rfl) (by kernel_rfl) (by kernel_rfl) (by intro _ _ _ h; exact h) (Or.inl ⟨by rfl, ?_⟩) (by assumption) ?_; rotate_left; (focus (intro w1 hSw; (try dsimp only at hSw); go_simp; (try with_reducible rfl))); (try simp only [Act.put, List.setIfInBounds_toArray, List.set_cons_zero, List.set_cons_succ, List.getElem_toArray, List.getElem_cons_zero, List.getElem_cons_succ])
          refine wpAnyH_take (i := 8) (v := ?_) (by simp only [List.getElem?_toArray, List.getElem?_cons_zero, List.getElem?_cons_succ]; rfl) (by kernel_rfl) (by kernel_rfl) (by kernel_rfl) (by intro _ _ _ h; exact h) (Or.inl ⟨by rfl, ?_⟩) (by assumption) ?_; rotate_left; (focus (intro w1 hSw; (try dsimp only at hSw); go_simp; (try with_reducible rfl))); (try simp only [Act.put, List.setIfInBounds_toArray, List.set_cons_zero, List.set_cons_succ, List.getElem_toArray, List.getElem_cons_zero, List.getElem_cons_succ])
          refine wpAnyH_ready (rs := [9, 13]) (by kernel_rfl) (by simp) ?_; refine AllReadyH.cons (by simp only [List.getElem?_toArray, List.getElem?_cons_zero, List.getElem?_cons_succ]; rfl) (fun K hK => ?_) (AllReadyH.cons (by simp only [List.getElem?_toArray, List.getElem?_cons_zero, List.getElem?_cons_succ]; rfl) (fun K hK => ?_) AllReadyH.nil)
          · rw [if_pos (by rfl)]; go_wp2_with fail; (refine (CFS.out y.pt _ (HB0.out.st bR)).mono ?_); (rintro e V1 ⟨⟨p, f, rfl, -⟩, hbn⟩); (simp only [PtV]); (have bR := bR.st hbn); (have hbs := bR.size); go_wp2_with fail
            refine hK.out _ _ ?_ (fun hHeld => ?_); (focus exact (KS.out _ bR)); clear hK K; (try simp only [Act.put, List.setIfInBounds_toArray, List.set_cons_zero, List.set_cons_succ, List.getElem_toArray, List.getElem_cons_zero, List.getElem_cons_succ])
            clear hbn
            refine wpAnyH_take (i := 10) (v := ?_) (by simp only [List.getElem?_toArray, List.getElem?_cons_zero, List.getElem?_cons_succ]; rfl) (by kernel_rfl) (by kernel_rfl) (by kernel_rfl) (by intro _ _ _ h; exact h) (Or.inl ⟨by rfl, ?_⟩) (by assumption) ?_; rotate_left; (focus (intro w1 hSw; (try dsimp only at hSw); go_simp; (try with_reducible rfl))); (try simp only [Act.put, List.setIfInBounds_toArray, List.set_cons_zero, List.set_cons_succ, List.getElem_toArray, List.getElem_cons_zero, List.getElem_cons_succ])
            refine wpAnyH_take (i := 11) (v := ?_) (by simp only [List.getElem?_toArray, List.getElem?_cons_zero, List.getElem?_cons_succ]; rfl) (by kernel_rfl) (by kernel_rfl) (by kernel_rfl) (by intro _ _ _ h; exact h) (Or.inl ⟨by rfl, ?_⟩) (by assumption) ?_; rotate_left; (focus (intro w1 hSw; (try dsimp only at hSw); go_simp; (try with_reducible rfl))); (try simp only [Act.put, List.setIfInBounds_toArray, List.set_cons_zero, List.set_cons_succ, List.getElem_toArray, List.getElem_cons_zero, List.getElem_cons_succ])
            refine wpAnyH_take (i := 12) (v := ?_) (by simp only [List.getElem?_toArray, List.getElem?_cons_zero, List.getElem?_cons_succ]; rfl) (by kernel_rfl) (by kernel_rfl) (by kernel_rfl) (by intro _ _ _ h; exact h) (Or.inl ⟨by rfl, ?_⟩) (by assumption) ?_; rotate_left; (focus (intro w1 hSw; (try dsimp only at hSw); go_simp; (try with_reducible rfl))); (try simp only [Act.put, List.setIfInBounds_toArray, List.set_cons_zero, List.set_cons_succ, List.getElem_toArray, List.getElem_cons_zero, List.getElem_cons_succ])
            refine wpAnyH_ready (rs := [13]) (by kernel_rfl) (by simp) ?_; refine AllReadyH.cons (by simp only [List.getElem?_toArray, List.getElem?_cons_zero, List.getElem?_cons_succ]; rfl) (fun K hK => ?_) AllReadyH.nil
            (obtain ⟨V2, hV⟩ : ∃ V, World.alloc V1 (.cells #[.string ⟨#[]⟩, .int .i64 0, .string ⟨#[]⟩] 85) = V := ⟨_, rfl⟩); (have hbn : Below (V1).heap.size V1 V2 := (by rw [← hV]; exact (Below.refl _ _).al _)); (have C5 : Blk V2 (V1).heap.size #[.string ⟨#[]⟩, .int .i64 0, .string ⟨#[]⟩] 85 := (by rw [← hV]; exact Blk.new _ _ _)); (have bR := bR.st hbn)
            have hl5 := C5.lt
            rw [if_pos (by rfl)]; go_wp2_with fail
            refine hK.out _ _ ?_ (fun hHeld => ?_); (focus exact (KS.out _ bR)); clear hK K; (try simp only [Act.put, List.setIfInBounds_toArray, List.set_cons_zero, List.set_cons_succ, List.getElem_toArray, List.getElem_cons_zero, List.getElem_cons_succ])
            clear hV hbn
            refine wpAnyH_ready (rs := [14]) (by kernel_rfl) (by simp) ?_; refine AllReadyH.cons (by simp only [List.getElem?_toArray, List.getElem?_cons_zero, List.getElem?_cons_succ]; rfl) (fun K hK => ?_) AllReadyH.nil
            rw [if_pos (by rfl)]; refine wp_boxStore rfl C5 rfl rfl (by kernel_rfl) rfl (by kernel_rfl) ?_; intro V3 C5 hoz hbz; (have bR := hbz _ _ (by omega) bR)
            refine hK.out _ _ ?_ (fun hHeld => ?_); (focus exact (KS.out _ bR)); clear hK K; (try simp only [Act.put, List.setIfInBounds_toArray, List.set_cons_zero, List.set_cons_succ, List.getElem_toArray, List.getElem_cons_zero, List.getElem_cons_succ])
            clear hoz hbz
            refine wpAnyH_take (i := 15) (v := ?_) (by simp only [List.getElem?_toArray, List.getElem?_cons_zero, List.getElem?_cons_succ]; rfl) (by kernel_rfl) (by kernel_rfl) (by kernel_rfl) (by intro _ _ _ h; exact h) (Or.inl ⟨by rfl, ?_⟩) (by assumption) ?_; rotate_left; (focus (intro w1 hSw; (try dsimp only at hSw); go_simp; (try with_reducible rfl))); (try simp only [Act.put, List.setIfInBounds_toArray, List.set_cons_zero, List.set_cons_succ, List.getElem_toArray, List.getElem_cons_zero, List.getElem_cons_succ])
            refine wpAnyH_done (by kernel_rfl) ?_ _; go_wp2_with fail; go_meet; exact ⟨_, p, f, rfl, rfl, C5, bR⟩
          · (obtain ⟨V1, hV⟩ : ∃ V, World.alloc V0 (.cells #[.string ⟨#[]⟩, .int .i64 0, .string ⟨#[]⟩] 85) = V := ⟨_, rfl⟩); (have hbn : Below (V0).heap.size V0 V1 := (by rw [← hV]; exact (Below.refl _ _).al _)); (have C5 : Blk V1 (V0).heap.size #[.string ⟨#[]⟩, .int .i64 0, .string ⟨#[]⟩] 85 := (by rw [← hV]; exact Blk.new _ _ _)); (have bR := bR.st hbn)
            have hl5 := C5.lt
            rw [if_pos (by rfl)]; go_wp2_with fail
            refine hK.out _ _ ?_ (fun hHeld => ?_); (focus exact (KS.out _ bR)); clear hK K; (try simp only [Act.put, List.setIfInBounds_toArray, List.set_cons_zero, List.set_cons_succ, List.getElem_toArray, List.getElem_cons_zero, List.getElem_cons_succ])
            clear hV hbn
            refine wpAnyH_ready (rs := [9]) (by kernel_rfl) (by simp) ?_; refine AllReadyH.cons (by simp only [List.getElem?_toArray, List.getElem?_cons_zero, List.getElem?_cons_succ]; rfl) (fun K hK => ?_) AllReadyH.nil
            rw [if_pos (by rfl)]; go_wp2_with fail; (refine (CFS.out y.pt _ (HB0.out.st bR)).mono ?_); (rintro e V2 ⟨⟨p, f, rfl, -⟩, hbn⟩); (simp only [PtV]); (have bR := bR.st hbn); (have hbs := bR.size); go_wp2_with fail
            have C5 := C5.below hbn C5.lt
            refine hK.out _ _ ?_ (fun hHeld => ?_); (focus exact (KS.out _ bR)); clear hK K; (try simp only [Act.put, List.setIfInBounds_toArray, List.set_cons_zero, List.set_cons_succ, List.getElem_toArray, List.getElem_cons_zero, List.getElem_cons_succ])
            clear hbn
            refine wpAnyH_take (i := 10) (v := ?_) (by simp only [List.getElem?_toArray, List.getElem?_cons_zero, List.getElem?_cons_succ]; rfl) (by kernel_rfl) (by kernel_rfl) (by kernel_rfl) (by intro _ _ _ h; exact h) (Or.inl ⟨by rfl, ?_⟩) (by assumption) ?_; rotate_left; (focus (intro w1 hSw; (try dsimp only at hSw); go_simp; (try with_reducible rfl))); (try simp only [Act.put, List.setIfInBounds_toArray, List.set_cons_zero, List.set_cons_succ, List.getElem_toArray, List.getElem_cons_zero, List.getElem_cons_succ])
            refine wpAnyH_take (i := 11) (v := ?_) (by simp only [List.getElem?_toArray, List.getElem?_cons_zero, List.getElem?_cons_succ]; rfl) (by kernel_rfl) (by kernel_rfl) (by kernel_rfl) (by intro _ _ _ h; exact h) (Or.inl ⟨by rfl, ?_⟩) (by assumption) ?_; rotate_left; (focus (intro w1 hSw; (try dsimp only at hSw); go_simp; (try with_reducible rfl))); (try simp only [Act.put, List.setIfInBounds_toArray, List.set_cons_zero, List.set_cons_succ, List.getElem_toArray, List.getElem_cons_zero, List.getElem_cons_succ])
            refine wpAnyH_take (i := 12) (v := ?_) (by simp only [List.getElem?_toArray, List.getElem?_cons_zero, List.getElem?_cons_succ]; rfl) (by kernel_rfl) (by kernel_rfl) (by kernel_rfl) (by intro _ _ _ h; exact h) (Or.inl ⟨by rfl, ?_⟩) (by assumption) ?_; rotate_left; (focus (intro w1 hSw; (try dsimp only at hSw); go_simp; (try with_reducible rfl))); (try simp only [Act.put, List.setIfInBounds_toArray, List.set_cons_zero, List.set_cons_succ, List.getElem_toArray, List.getElem_cons_zero, List.getElem_cons_succ])
            refine wpAnyH_ready (rs := [14]) (by kernel_rfl) (by simp) ?_; refine AllReadyH.cons (by simp only [List.getElem?_toArray, List.getElem?_cons_zero, List.getElem?_cons_succ]; rfl) (fun K hK => ?_) AllReadyH.nil
            rw [if_pos (by rfl)]; refine wp_boxStore rfl C5 rfl rfl (by kernel_rfl) rfl (by kernel_rfl) ?_; intro V3 C5 hoz hbz; (have bR := hbz _ _ (by omega) bR)
            refine hK.out _ _ ?_ (fun hHeld => ?_); (focus exact (KS.out _ bR)); clear hK K; (try simp only [Act.put, List.setIfInBounds_toArray, List.set_cons_zero, List.set_cons_succ, List.getElem_toArray, List.getElem_cons_zero, List.getElem_cons_succ])
            clear hoz hbz
            refine wpAnyH_take (i := 15) (v := ?_) (by simp only [List.getElem?_toArray, List.getElem?_cons_zero, List.getElem?_cons_succ]; rfl) (by kernel_rfl) (by kernel_rfl) (by kernel_rfl) (by intro _ _ _ h; exact h) (Or.inl ⟨by rfl, ?_⟩) (by assumption) ?_; rotate_left; (focus (intro w1 hSw; (try dsimp only at hSw); go_simp; (try with_reducible rfl))); (try simp only [Act.put, List.setIfInBounds_toArray, List.set_cons_zero, List.set_cons_succ, List.getElem_toArray, List.getElem_cons_zero, List.getElem_cons_succ])
            refine wpAnyH_done (by kernel_rfl) ?_ _; go_wp2_with fail; go_meet; exact ⟨_, p, f, rfl, rfl, C5, bR⟩
        case rest =>
          obtain ⟨g10, p2, f2, rfl, rfl, P2, bc⟩ := hcut
          have bW2 := HB0.out.st bc
          have B1 := HQ1.out.below bc HQ1.out.lt
          have B2 := HQ2.out.below bc HQ2.out.lt
          have Q1 := HP1.out.below bc HP1.out.lt
          have y1 := Q1.cell 1 (v := .int .i64 p.kind) rfl
          have y2 := Q1.cell 2 (v := .string p.sys) rfl
          have v1 := P2.cell 1 (v := .int .i64 p2.kind) rfl
          have v2 := P2.cell 2 (v := .string p2.sys) rfl
          clear KS
          by_cases n1 : 1 < ss.length
          · have n1z : (1 : Int) < (ss.length : Int) := by omega
            have n1y : ¬ (ss.length : Int) < 2 := by omega
            by_cases k2 : p.kind = 2
            · have k2b : (p.kind != 2) = false := by simp [k2]
              clear k2
              by_cases k3 : p2.kind = 3
              · have k3b : (p2.kind != 3) = false := by simp [k3]
                clear k3
                have hq2 : (p2.sys.toList == p.sys.toList) = eqS p2.sys p.sys := rfl
                cases he2 : eqS p2.sys p.sys
                case' false =>
                  rw [he2] at hq2
                  clear he2
                  go_wp2_with fail
                  go_ret
                  exact ⟨ZI.yes HP.out, bW2⟩
                rw [he2] at hq2
                clear he2 n1
                have t4 := B2.cell 4 (v := .slice (some ⟨b, off, none⟩) ss.length xc) rfl
                have HB1 := Lib.hid B1
                have HB2 := Lib.hid B2
                have HPQ := Lib.hid Q1
                have HW2 := Lib.hid bW2
                clear B1 B2 Q1 bW2 P2
                go_wp2_with fail
                clear y1 y2 v1 v2 t4
                obtain ⟨W2, hW2⟩ : ∃ W2, W2 = wc := ⟨_, rfl⟩
                rw [← hW2] at HB1 HB2 HPQ HW2 ⊢
                clear hW2 bc wc
                go_loopw [12] (fun i wr => ∃ k : Nat, k ≤ ss.length + 1 ∧ i = .int .i64 k ∧ Below W2.heap.size W2 wr) (fun i _ => ss.length - (RowKit.intOf i).toNat)
                case atStart => exact ⟨1, by omega, rfl, Below.refl _ _⟩
                case round =>
                  obtain ⟨k, hk, rfl, bR⟩ := hrel
                  have B1 := HB1.out.below bR HB1.out.lt
                  have B2 := HB2.out.below bR HB2.out.lt
                  have bWr := HW2.out.st bR
                  have hmn := HMN.out
                  have t4 := B2.cell 4 (v := .slice (some ⟨b, off, none⟩) ss.length xc) rfl
                  by_cases hi : k < m
                  · have hiz : (k : Int) < (m : Int) := by omega
                    have k1 : (0 : Int) ≤ (k : Int) := by omega
                    have k2 : (k : Int) < (ss.length : Int) := by omega
                    have k2n : k < ss.length := by omega
                    obtain ⟨b3, off3, z, hA3, hbb3, hx3, g0, g1, g2⟩ := (HS.out.st bWr).stp (i := k) (by omega)
                    injection hA3 with hA3
                    injection hA3 with q1 q2
                    subst q1
                    subst q2
                    have KS : Hid (∀ X, Below wr.heap.size wr X → (fun w' : World => Blk w' w.heap.size #[.slice pA pts.length pc, .slice lA lks.length lc, .slice sA sys.length sc] 28 ∧ w'.cell? ⟨Y1.heap.size, 4, none⟩ = some (.slice (some ⟨b, off, none⟩) ss.length xc) ∧ w'.cell? ⟨b, off + k * 3, none⟩ = some (.string z.pt)) X) := Lib.hid (fun X hX => ⟨B1.below hX B1.lt, (B2.below hX B2.lt).cell 4 rfl, (hX.cell (p := ⟨b, off + k * 3, none⟩) hbb3).trans g0⟩)
                    have HBR := Lib.hid bR
                    have HBW := Lib.hid bWr
                    have HI := Lib.hid hi
                    clear hx3 hbb3 g0 g1 g2 B1 B2 bR bWr hi hmn
                    go_wp2_with fail
                    (refine wp_region_held_drew (S := (fun w' : World => Blk w' w.heap.size #[.slice pA pts.length pc, .slice lA lks.length lc, .slice sA sys.length sc] 28 ∧ w'.cell? ⟨Y1.heap.size, 4, none⟩ = some (.slice (some ⟨b, off, none⟩) ss.length xc) ∧ w'.cell? ⟨b, off + k * 3, none⟩ = some (.string z.pt))) (by kernel_rfl) ?_ (fun hHeld => ?_)); (focus exact KS.out _ (Below.refl _ _).drew); (have bR := (Below.refl (wr).heap.size wr).drew); (obtain ⟨V0, hV0⟩ : ∃ V, World.drew wr = V := ⟨_, rfl⟩); rw [hV0] at bR hHeld ⊢; clear hV0; (have hbs := bR.size); (change wpAnyH _ _ _ _ _ 9 _ _ _)
                    refine wpAnyH_take (i := 0) (v := .agg #[.slice pA pts.length pc, .slice lA lks.length lc, .slice sA sys.length sc]) (by simp only [List.getElem?_toArray, List.getElem?_cons_zero, List.getElem?_cons_succ]; rfl) (by kernel_rfl) (by kernel_rfl) (by kernel_rfl) (by intro _ _ _ h; exact h) (yieldsIf_boxLoad (by rfl) rfl rfl (fun _ hw => hw.1) ⟨_, Tryz.underlying28, by kernel_rfl⟩) (by assumption) ?_; (try simp only [Act.put, List.setIfInBounds_toArray, List.set_cons_zero, List.set_cons_succ, List.getElem_toArray, List.getElem_cons_zero, List.getElem_cons_succ])
                    refine wpAnyH_take (i := 1) (v := ?_) (by simp only [List.getElem?_toArray, List.getElem?_cons_zero, List.getElem?_cons_succ]; rfl) (by kernel_rfl) (by kernel_rfl) (by kernel_rfl) (by intro _ _ _ h; exact h) (Or.inl ⟨by rfl, ?_⟩) (by assumption) ?_; rotate_left; (focus (intro w1 hSw; (try dsimp only at hSw); go_simp; (try with_reducible rfl))); (try simp only [Act.put, List.setIfInBounds_toArray, List.set_cons_zero, List.set_cons_succ, List.getElem_toArray, List.getElem_cons_zero, List.getElem_cons_succ])
                    refine wpAnyH_take (i := 2) (v := ?_) (by simp only [List.getElem?_toArray, List.getElem?_cons_zero, List.getElem?_cons_succ]; rfl) (by kernel_rfl) (by kernel_rfl) (by kernel_rfl) (by intro _ _ _ h; exact h) (Or.inl ⟨by rfl, ?_⟩) (by assumption) ?_; rotate_left; (focus (intro w1 hSw; (try dsimp only at hSw); go_simp; (try with_reducible rfl))); (try simp only [Act.put, List.setIfInBounds_toArray, List.set_cons_zero, List.set_cons_succ, List.getElem_toArray, List.getElem_cons_zero, List.getElem_cons_succ])
                    refine wpAnyH_take (i := 3) (v := ?_) (by simp only [List.getElem?_toArray, List.getElem?_cons_zero, List.getElem?_cons_succ]; rfl) (by kernel_rfl) (by kernel_rfl) (by kernel_rfl) (by intro _ _ _ h; exact h) (Or.inl ⟨by rfl, ?_⟩) (by assumption) ?_; rotate_left; (focus (intro w1 hSw; (try dsimp only at hSw); go_simp; (try with_reducible rfl))); (try simp only [Act.put, List.setIfInBounds_toArray, List.set_cons_zero, List.set_cons_succ, List.getElem_toArray, List.getElem_cons_zero, List.getElem_cons_succ])
                    refine wpAnyH_take (i := 4) (v := ?_) (by simp only [List.getElem?_toArray, List.getElem?_cons_zero, List.getElem?_cons_succ]; rfl) (by kernel_rfl) (by kernel_rfl) (by kernel_rfl) (by intro _ _ _ h; exact h) (Or.inl ⟨by rfl, ?_⟩) (by assumption) ?_; rotate_left; (focus (intro w1 hSw; (try dsimp only at hSw); go_simp; (try with_reducible rfl))); (try simp only [Act.put, List.setIfInBounds_toArray, List.set_cons_zero, List.set_cons_succ, List.getElem_toArray, List.getElem_cons_zero, List.getElem_cons_succ])
                    refine wpAnyH_take (i := 5) (v := ?_) (by simp only [List.getElem?_toArray, List.getElem?_cons_zero, List.getElem?_cons_succ]; rfl) (by kernel_rfl) (by kernel_rfl) (by kernel_rfl) (by intro _ _ _ h; exact h) (Or.inl ⟨by rfl, ?_⟩) (by assumption) ?_; rotate_left; (focus (intro w1 hSw; (try dsimp only at hSw); go_simp; (try with_reducible rfl))); (try simp only [Act.put, List.setIfInBounds_toArray, List.set_cons_zero, List.set_cons_succ, List.getElem_toArray, List.getElem_cons_zero, List.getElem_cons_succ])
                    refine wpAnyH_take (i := 6) (v := ?_) (by simp only [List.getElem?_toArray, List.getElem?_cons_zero, List.getElem?_cons_succ]; rfl) (by kernel_rfl) (by kernel_rfl) (by kernel_rfl) (by intro _ _ _ h; exact h) (Or.inl ⟨by rfl, ?_⟩) (by assumption) ?_; rotate_left; (focus (intro w1 hSw; (try dsimp only at hSw); go_simp; (try with_reducible rfl))); (try simp only [Act.put, List.setIfInBounds_toArray, List.set_cons_zero, List.set_cons_succ, List.getElem_toArray, List.getElem_cons_zero, List.getElem_cons_succ])
                    refine wpAnyH_ready (rs := [7]) (by kernel_rfl) (by simp) ?_; refine AllReadyH.cons (by simp only [List.getElem?_toArray, List.getElem?_cons_zero, List.getElem?_cons_succ]; rfl) (fun K hK => ?_) AllReadyH.nil
                    rw [if_pos (by rfl)]
                    go_wp2_with fail
                    refine (CK.out z.pt _ (HBW.out.st bR)).mono ?_
                    rintro e V1 ⟨⟨n, rfl⟩, hbn⟩
                    have bR := bR.st hbn
                    by_cases hn : n = 4
                    · have hnb : (n != 4) = false := by simp [hn]
                      clear hn
                      go_wp2_with fail
                      refine hK.out _ _ ?_ (fun hHeld => ?_); (focus exact (KS.out _ bR)); clear hK K; (try simp only [Act.put, List.setIfInBounds_toArray, List.set_cons_zero, List.set_cons_succ, List.getElem_toArray, List.getElem_cons_zero, List.getElem_cons_succ])
                      refine wpAnyH_take (i := 8) (v := ?_) (by simp only [List.getElem?_toArray, List.getElem?_cons_zero, List.getElem?_cons_succ]; rfl) (by kernel_rfl) (by kernel_rfl) (by kernel_rfl) (by intro _ _ _ h; exact h) (Or.inl ⟨by rfl, ?_⟩) (by assumption) ?_; rotate_left; (focus (intro w1 hSw; (try dsimp only at hSw); go_simp; (try with_reducible rfl))); (try simp only [Act.put, List.setIfInBounds_toArray, List.set_cons_zero, List.set_cons_succ, List.getElem_toArray, List.getElem_cons_zero, List.getElem_cons_succ])
                      refine wpAnyH_done (by kernel_rfl) ?_ _
                      have bZ := HBR.out.st bR
                      go_wp2_with fail
                      go_roundw
                      case rel => exact ⟨k + 1, by have := HI.out; have := HMN.out; omega, by go_num, bZ⟩
                      case measure => have := HI.out; have := HMN.out; simp [RowKit.intOf]; omega
                    · have hnb : (n != 4) = true := by simp [hn]
                      clear hn
                      go_wp2_with fail
                      refine hK.out _ _ ?_ (fun hHeld => ?_); (focus exact (KS.out _ bR)); clear hK K; (try simp only [Act.put, List.setIfInBounds_toArray, List.set_cons_zero, List.set_cons_succ, List.getElem_toArray, List.getElem_cons_zero, List.getElem_cons_succ])
                      refine wpAnyH_take (i := 8) (v := ?_) (by simp only [List.getElem?_toArray, List.getElem?_cons_zero, List.getElem?_cons_succ]; rfl) (by kernel_rfl) (by kernel_rfl) (by kernel_rfl) (by intro _ _ _ h; exact h) (Or.inl ⟨by rfl, ?_⟩) (by assumption) ?_; rotate_left; (focus (intro w1 hSw; (try dsimp only at hSw); go_simp; (try with_reducible rfl))); (try simp only [Act.put, List.setIfInBounds_toArray, List.set_cons_zero, List.set_cons_succ, List.getElem_toArray, List.getElem_cons_zero, List.getElem_cons_succ])
                      refine wpAnyH_done (by kernel_rfl) ?_ _
                      have bZ := HBW.out.st bR
                      go_wp2_with fail
                      go_ret
                      exact ⟨ZI.yes HP.out, bZ⟩
                  · have hiz : ¬ (k : Int) < (m : Int) := by omega
                    have B7 := HPQ.out.below bR HPQ.out.lt
                    have z0 := B1.cell 0 (v := .slice pA pts.length pc) rfl
                    have z1 := B1.cell 1 (v := .slice lA lks.length lc) rfl
                    have z2 := B1.cell 2 (v := .slice sA sys.length sc) rfl
                    have y0 := B7.cell 0 (v := .string p.name) rfl
                    have CYX := Lib.hid (CY.out p.name wr bWr)
                    clear hi hmn
                    go_wp2_with fail
                    refine CYX.out.mono ?_
                    rintro e W5 ⟨⟨x, bb, rfl⟩, hbn⟩
                    have b5 := bWr.st hbn
                    have B2 := B2.below hbn B2.lt
                    obtain ⟨W6, hW6⟩ : ∃ Y, W5.alloc (.cells #[.string x.name, .bool x.cld, .int .i64 x.most] 90) = Y := ⟨_, rfl⟩
                    have b56 : Below W5.heap.size W5 W6 := by rw [← hW6]; exact (Below.refl _ _).al _
                    have X6 : Blk W6 W5.heap.size #[.string x.name, .bool x.cld, .int .i64 x.most] 90 := by rw [← hW6]; exact Blk.new W5 _ _
                    have b6 := b5.st b56
                    have B2 := B2.below b56 B2.lt
                    have x2 := X6.cell 2 (v := .int .i64 x.most) rfl
                    obtain ⟨b3, off3, sm, hA3, hbb3, hx3, -, g1, -⟩ := (HS.out.st b6).stp (i := m) (by have := HMN.out; omega)
                    injection hA3 with hA3
                    injection hA3 with q1 q2
                    subst q1
                    subst q2
                    obtain ⟨b4, off4, s0, hA4, hbb4, hx4, -, g4, -⟩ := (HS.out.st b6).stp (i := 0) HPN.out
                    injection hA4 with hA4
                    injection hA4 with q1 q2
                    subst q1
                    subst q2
                    simp only [Nat.zero_mul, Nat.add_zero] at g4
                    obtain ⟨D, hD⟩ : ∃ D, IntKind.i64.wrap (sm.t - s0.t) = D := ⟨_, rfl⟩
                    have t4 := B2.cell 4 (v := .slice (some ⟨b, off, none⟩) ss.length xc) rfl
                    have hposn : 0 < ss.length := HPN.out
                    clear z0 z1 z2 y0 CYX hbn b56 hbb3 hbb4 hx3 hx4 B1 B7 bWr bR b5
                    by_cases hlt : x.most < D
                    · have hltd : decide (x.most < D) = true := decide_eq_true hlt
                      go_wp2_with fail
                      go_quiet (fail)
                      go_wp2_with fail
                      go_ret
                      exact ⟨ZI.yes HP.out, below_drewN b6 _⟩
                    · have hltd : decide (x.most < D) = false := decide_eq_false hlt
                      go_wp2_with fail
                      go_quiet (fail)
                      have b7 := below_drewN b6 nq
                      have B2 : Blk (W6.drewN nq) Y1.heap.size #[.string xi, .string xv, .string xy, .int .i64 cl, .slice (some ⟨b, off, none⟩) ss.length xc] 53 := B2
                      generalize W6.drewN nq = W7 at b7 B2 ⊢
                      have KS : Hid (∀ X, Below W7.heap.size W7 X → (fun w' : World => Blk w' Y1.heap.size #[.string xi, .string xv, .string xy, .int .i64 cl, .slice (some ⟨b, off, none⟩) ss.length xc] 53 ∧ w'.cell? ⟨Y1.heap.size, 0, none⟩ = some (.string xi)) X) := Lib.hid (fun X hX => ⟨B2.below hX B2.lt, (B2.below hX B2.lt).cell 0 rfl⟩)
                      have HBW := Lib.hid b7
                      clear b6 b7 B2 hltd hlt hD g1 g4 x2 t4 hW6 X6
                      go_wp2_with fail
                      (refine wp_region_held_drew (S := (fun w' : World => Blk w' Y1.heap.size #[.string xi, .string xv, .string xy, .int .i64 cl, .slice (some ⟨b, off, none⟩) ss.length xc] 53 ∧ w'.cell? ⟨Y1.heap.size, 0, none⟩ = some (.string xi))) (by kernel_rfl) ?_ (fun hHeld => ?_)); (focus exact KS.out _ (Below.refl _ _).drew); (have bR := (Below.refl (W7).heap.size W7).drew); (obtain ⟨V0, hV0⟩ : ∃ V, World.drew W7 = V := ⟨_, rfl⟩); rw [hV0] at bR hHeld ⊢; clear hV0; (have hbs := bR.size); (change wpAnyH _ _ _ _ _ 5 _ _ _)
                      refine wpAnyH_take (i := 0) (v := ?_) (by simp only [List.getElem?_toArray, List.getElem?_cons_zero, List.getElem?_cons_succ]; rfl) (by kernel_rfl) (by kernel_rfl) (by kernel_rfl) (by intro _ _ _ h; exact h) (Or.inl ⟨by rfl, ?_⟩) (by assumption) ?_; rotate_left; (focus (intro w1 hSw; (try dsimp only at hSw); go_simp; (try with_reducible rfl))); (try simp only [Act.put, List.setIfInBounds_toArray, List.set_cons_zero, List.set_cons_succ, List.getElem_toArray, List.getElem_cons_zero, List.getElem_cons_succ])
                      refine wpAnyH_take (i := 1) (v := ?_) (by simp only [List.getElem?_toArray, List.getElem?_cons_zero, List.getElem?_cons_succ]; rfl) (by kernel_rfl) (by kernel_rfl) (by kernel_rfl) (by intro _ _ _ h; exact h) (Or.inl ⟨by rfl, ?_⟩) (by assumption) ?_; rotate_left; (focus (intro w1 hSw; (try dsimp only at hSw); go_simp; (try with_reducible rfl))); (try simp only [Act.put, List.setIfInBounds_toArray, List.set_cons_zero, List.set_cons_succ, List.getElem_toArray, List.getElem_cons_zero, List.getElem_cons_succ])
                      refine wpAnyH_take (i := 2) (v := .agg #[.string xi, .string xv, .string xy, .int .i64 cl, .slice (some ⟨b, off, none⟩) ss.length xc]) (by simp only [List.getElem?_toArray, List.getElem?_cons_zero, List.getElem?_cons_succ]; rfl) (by kernel_rfl) (by kernel_rfl) (by kernel_rfl) (by intro _ _ _ h; exact h) (yieldsIf_boxLoad (by rfl) rfl rfl (fun _ hw => hw.1) ⟨_, Tryz.underlying53, by kernel_rfl⟩) (by assumption) ?_; (try simp only [Act.put, List.setIfInBounds_toArray, List.set_cons_zero, List.set_cons_succ, List.getElem_toArray, List.getElem_cons_zero, List.getElem_cons_succ])
                      refine wpAnyH_ready (rs := [3]) (by kernel_rfl) (by simp) ?_; refine AllReadyH.cons (by simp only [List.getElem?_toArray, List.getElem?_cons_zero, List.getElem?_cons_succ]; rfl) (fun K hK => ?_) AllReadyH.nil
                      rw [if_pos (by rfl)]
                      go_wp2_with fail
                      refine (CI.out _ (HBW.out.st bR)).mono ?_
                      rintro e V1 ⟨⟨q, rfl⟩, hbn⟩
                      have bR := bR.st hbn
                      have bZ := HBW.out.st bR
                      have hq : (xi.toList == q.toList) = eqS xi q := rfl
                      cases he : eqS xi q
                      all_goals
                        rw [he] at hq
                        clear he
                        go_wp2_with fail
                        refine hK.out _ _ ?_ (fun hHeld => ?_); (focus exact (KS.out _ bR)); clear hK K; (try simp only [Act.put, List.setIfInBounds_toArray, List.set_cons_zero, List.set_cons_succ, List.getElem_toArray, List.getElem_cons_zero, List.getElem_cons_succ])
                        refine wpAnyH_take (i := 4) (v := ?_) (by simp only [List.getElem?_toArray, List.getElem?_cons_zero, List.getElem?_cons_succ]; rfl) (by kernel_rfl) (by kernel_rfl) (by kernel_rfl) (by intro _ _ _ h; exact h) (Or.inl ⟨by rfl, ?_⟩) (by assumption) ?_; rotate_left; (focus (intro w1 hSw; (try dsimp only at hSw); go_simp; (try with_reducible rfl))); (try simp only [Act.put, List.setIfInBounds_toArray, List.set_cons_zero, List.set_cons_succ, List.getElem_toArray, List.getElem_cons_zero, List.getElem_cons_succ])
                        refine wpAnyH_done (by kernel_rfl) ?_ _
                        go_wp2_with fail
                        go_ret
                        exact ⟨ZI.yes HP.out, bZ⟩
              · have k3b : (p2.kind != 3) = true := by simp [k3]
                clear k3
                go_wp2_with fail
                go_ret
                exact ⟨ZI.yes HP.out, bW2⟩
            · have k2b : (p.kind != 2) = true := by simp [k2]
              clear k2
              go_wp2_with fail
              go_ret
              exact ⟨ZI.yes HP.out, bW2⟩
          · have n1z : ¬ (1 : Int) < (ss.length : Int) := by omega
            have n1y : (ss.length : Int) < 2 := by omega
            by_cases k1 : p.kind = 1
            · have k1b : (p.kind != 1) = false := by simp [k1]
              clear k1 n1
              go_wp2_with fail
              have KS : Hid (∀ X, Below wc.heap.size wc X → (fun w' : World => Blk w' Y1.heap.size #[.string xi, .string xv, .string xy, .int .i64 cl, .slice (some ⟨b, off, none⟩) ss.length xc] 53 ∧ w'.cell? ⟨Y1.heap.size, 0, none⟩ = some (.string xi)) X) := Lib.hid (fun X hX => ⟨B2.below hX B2.lt, (B2.below hX B2.lt).cell 0 rfl⟩)
              have HBW := Lib.hid bW2
              clear bW2 B1 B2 Q1 y1 y2 v1 v2 P2
              (refine wp_region_held_drew (S := (fun w' : World => Blk w' Y1.heap.size #[.string xi, .string xv, .string xy, .int .i64 cl, .slice (some ⟨b, off, none⟩) ss.length xc] 53 ∧ w'.cell? ⟨Y1.heap.size, 0, none⟩ = some (.string xi))) (by kernel_rfl) ?_ (fun hHeld => ?_)); (focus exact KS.out _ (Below.refl _ _).drew); (have bR := (Below.refl (wc).heap.size wc).drew); (obtain ⟨V0, hV0⟩ : ∃ V, World.drew wc = V := ⟨_, rfl⟩); rw [hV0] at bR hHeld ⊢; clear hV0; (have hbs := bR.size); (change wpAnyH _ _ _ _ _ 5 _ _ _)
              refine wpAnyH_take (i := 0) (v := ?_) (by simp only [List.getElem?_toArray, List.getElem?_cons_zero, List.getElem?_cons_succ]; rfl) (by kernel_rfl) (by kernel_rfl) (by kernel_rfl) (by intro _ _ _ h; exact h) (Or.inl ⟨by rfl, ?_⟩) (by assumption) ?_; rotate_left; (focus (intro w1 hSw; (try dsimp only at hSw); go_simp; (try with_reducible rfl))); (try simp only [Act.put, List.setIfInBounds_toArray, List.set_cons_zero, List.set_cons_succ, List.getElem_toArray, List.getElem_cons_zero, List.getElem_cons_succ])
              refine wpAnyH_take (i := 1) (v := ?_) (by simp only [List.getElem?_toArray, List.getElem?_cons_zero, List.getElem?_cons_succ]; rfl) (by kernel_rfl) (by kernel_rfl) (by kernel_rfl) (by intro _ _ _ h; exact h) (Or.inl ⟨by rfl, ?_⟩) (by assumption) ?_; rotate_left; (focus (intro w1 hSw; (try dsimp only at hSw); go_simp; (try with_reducible rfl))); (try simp only [Act.put, List.setIfInBounds_toArray, List.set_cons_zero, List.set_cons_succ, List.getElem_toArray, List.getElem_cons_zero, List.getElem_cons_succ])
              refine wpAnyH_take (i := 2) (v := .agg #[.string xi, .string xv, .string xy, .int .i64 cl, .slice (some ⟨b, off, none⟩) ss.length xc]) (by simp only [List.getElem?_toArray, List.getElem?_cons_zero, List.getElem?_cons_succ]; rfl) (by kernel_rfl) (by kernel_rfl) (by kernel_rfl) (by intro _ _ _ h; exact h) (yieldsIf_boxLoad (by rfl) rfl rfl (fun _ hw => hw.1) ⟨_, Tryz.underlying53, by kernel_rfl⟩) (by assumption) ?_; (try simp only [Act.put, List.setIfInBounds_toArray, List.set_cons_zero, List.set_cons_succ, List.getElem_toArray, List.getElem_cons_zero, List.getElem_cons_succ])
              refine wpAnyH_ready (rs := [3]) (by kernel_rfl) (by simp) ?_; refine AllReadyH.cons (by simp only [List.getElem?_toArray, List.getElem?_cons_zero, List.getElem?_cons_succ]; rfl) (fun K hK => ?_) AllReadyH.nil
              rw [if_pos (by rfl)]
              go_wp2_with fail
              refine (CI.out _ (HBW.out.st bR)).mono ?_
              rintro e V1 ⟨⟨q, rfl⟩, hbn⟩
              have bR := bR.st hbn
              have bZ := HBW.out.st bR
              have hq : (xi.toList == q.toList) = eqS xi q := rfl
              cases he : eqS xi q
              all_goals
                rw [he] at hq
                clear he
                go_wp2_with fail
                refine hK.out _ _ ?_ (fun hHeld => ?_); (focus exact (KS.out _ bR)); clear hK K; (try simp only [Act.put, List.setIfInBounds_toArray, List.set_cons_zero, List.set_cons_succ, List.getElem_toArray, List.getElem_cons_zero, List.getElem_cons_succ])
                refine wpAnyH_take (i := 4) (v := ?_) (by simp only [List.getElem?_toArray, List.getElem?_cons_zero, List.getElem?_cons_succ]; rfl) (by kernel_rfl) (by kernel_rfl) (by kernel_rfl) (by intro _ _ _ h; exact h) (Or.inl ⟨by rfl, ?_⟩) (by assumption) ?_; rotate_left; (focus (intro w1 hSw; (try dsimp only at hSw); go_simp; (try with_reducible rfl))); (try simp only [Act.put, List.setIfInBounds_toArray, List.set_cons_zero, List.set_cons_succ, List.getElem_toArray, List.getElem_cons_zero, List.getElem_cons_succ])
                refine wpAnyH_done (by kernel_rfl) ?_ _
                go_wp2_with fail
                go_ret
                exact ⟨ZI.yes HP.out, bZ⟩
            · have k1b : (p.kind != 1) = true := by simp [k1]
              clear k1
              go_wp2_with fail
              go_ret
              exact ⟨ZI.yes HP.out, bW2⟩
end Go.Proofs.YtelchfijalkibaaGreatDoor
