/- Joined texts: TarRRate, TarBase, DisPChk. -/
import Derived.Test.YtelchfijalkibaaGreatDoorJTarRAt
import Derived.Test.YtelchfijalkibaaGreatDoorJTrip
import Derived.Test.YtelchfijalkibaaGreatDoorJZoneLeaf
/- The reference's price of a class, walked. -/
set_option linter.unusedSimpArgs false
set_option linter.unusedSimpArgs false
namespace Go.Proofs.YtelchfijalkibaaGreatDoor
open Go.RowKit Go.Lib

def ofV (o : Option Int) : Value := match o with
  | some n => .tuple #[.int .i64 n, .bool true]
  | none => .tuple #[.int .i64 0, .bool false]
end Go.Proofs.YtelchfijalkibaaGreatDoor
/- The price of a trip by the tariff: price.Base and the reference's, walked. -/
set_option linter.unusedSimpArgs false
namespace Go.Proofs.YtelchfijalkibaaGreatDoor
open Go.RowKit Go.Lib

theorem Rd.stp {w : World} {B : Nat} {A : Option Addr} {l : List Stp} (h : Rd encSp 3 w B A l) {i : Nat} (hi : i < l.length) :
    ∃ b off s, A = some ⟨b, off, none⟩ ∧ b < B ∧ l[i]? = some s ∧ w.cell? ⟨b, off + i * 3, none⟩ = some (.string s.pt) ∧ w.cell? ⟨b, off + i * 3 + 1, none⟩ = some (.int .i64 s.t) ∧ w.cell? ⟨b, off + i * 3 + 2, none⟩ = some (.string s.pg) := by
  obtain ⟨b, off, x, hA, hb, hx, hc⟩ := h.at_ hi
  exact ⟨b, off, x, hA, hb, hx, hc 0 _ rfl, hc 1 _ rfl, hc 2 _ rfl⟩
/-- the point where a trip ends, if that is another stop -/
def toM (ss : List Stp) : ByteArray := if 1 < ss.length then ((ss[ss.length - 1]?).getD default).pt else ⟨#[]⟩
/-- the price of a trip by the tariff -/
def baseM (ts : List Ta) (cl : Int) (ss : List Stp) : Int × Int := match ss[0]? with
  | none => (0, 1)
  | some s => match findM s.t ts with
    | none => (0, 22)
    | some y => rateM s.t s.pt (toM ss) cl y.bs y.rs
theorem baseM_nil {ts : List Ta} {cl : Int} {ss : List Stp} (h : ss.length = 0) : baseM ts cl ss = (0, 1) := by unfold baseM; rw [List.getElem?_eq_none (by omega)]
theorem baseM_none {ts : List Ta} {cl : Int} {ss : List Stp} {s : Stp} (h : ss[0]? = some s) (hf : findM s.t ts = none) : baseM ts cl ss = (0, 22) := by unfold baseM; rw [h]; simp only; rw [hf]
theorem baseM_some {ts : List Ta} {cl : Int} {ss : List Stp} {s : Stp} {y : Ta} (h : ss[0]? = some s) (hf : findM s.t ts = some y) : baseM ts cl ss = rateM s.t s.pt (toM ss) cl y.bs y.rs := by unfold baseM; rw [h]; simp only; rw [hf]
theorem toM_one {ss : List Stp} (h : ¬ 1 < ss.length) : toM ss = ⟨#[]⟩ := if_neg h
theorem toM_more {ss : List Stp} {m : Nat} {s : Stp} (h : m + 1 = ss.length) (h1 : 1 < ss.length) (hs : ss[m]? = some s) : toM ss = s.pt := by
  unfold toM
  rw [if_pos h1, show ss.length - 1 = m by omega, hs]; rfl

set_option maxRecDepth 100000 in
set_option maxHeartbeats 8000000 in
theorem pbase_any {tA xA : Option Addr} (tc xc : Nat) (o0 o1 o2 o3 o4 o5 o6 o7 o9 o10 o11 o12 o13 o14 o15 o16 o17 o18 o19 o20 o21 o22 o23 o24 : Value) (xi xv xy : ByteArray) (cl : Int) {ts : List Ta} {ss : List Stp} {w : World}
    (h : Rd encTa 4 w w.heap.size tA ts) (hok : ∀ y ∈ ts, TaOk w y ∧ TaSm y) (hl : ts.length ≤ 1000000) (hs : Rd encSp 3 w w.heap.size xA ss) (hsl : ss.length ≤ 9223372036854775807) :
    Calls Tryz.prog 21 #[.agg #[o0, o1, o2, o3, o4, o5, o6, o7, .slice tA ts.length tc, o9, o10, o11, o12, o13, o14, o15, o16, o17, o18, o19, o20, o21, o22, o23, o24], .agg #[.string xi, .string xv, .string xy, .int .i64 cl, .slice xA ss.length xc]] w fun e w' => e = .returned (.tuple #[.int .i64 (baseM ts cl ss).1, .int .i64 (baseM ts cl ss).2]) ∧ Below w.heap.size w w' := by
  obtain ⟨Y1, hY1⟩ : ∃ Y, w.alloc (.cells #[o0, o1, o2, o3, o4, o5, o6, o7, .slice tA ts.length tc, o9, o10, o11, o12, o13, o14, o15, o16, o17, o18, o19, o20, o21, o22, o23, o24] 46) = Y := ⟨_, rfl⟩
  obtain ⟨Y2, hY2⟩ : ∃ Y, Y1.alloc (.cells #[.string xi, .string xv, .string xy, .int .i64 cl, .slice xA ss.length xc] 53) = Y := ⟨_, rfl⟩
  have b1 : Below w.heap.size w Y1 := by rw [← hY1]; exact (Below.refl _ w).al _
  have b2 : Below w.heap.size w Y2 := by rw [← hY2]; exact b1.al _
  have B2 : Blk Y2 Y1.heap.size #[.string xi, .string xv, .string xy, .int .i64 cl, .slice xA ss.length xc] 53 := by rw [← hY2]; exact Blk.new Y1 _ _
  have B1 : Blk Y2 w.heap.size #[o0, o1, o2, o3, o4, o5, o6, o7, .slice tA ts.length tc, o9, o10, o11, o12, o13, o14, o15, o16, o17, o18, o19, o20, o21, o22, o23, o24] 46 := by rw [← hY2, ← hY1]; exact (Blk.new w _ _).alloc _
  have t4 := B2.cell 4 (v := .slice xA ss.length xc) rfl
  have HTR := Lib.hid (fun (y : Ta) (hy : y ∈ ts) => (hok y hy).2)
  by_cases h0 : ss.length = 0
  · have R := Lib.hid (baseM_nil (ts := ts) (cl := cl) h0)
    have h0b : ((ss.length : Int) == 0) = true := by simp [h0]
    clear h0 h hs hok
    go_enter Tryz.func21, Tryz.ntmps21
    go_wp2_with fail
    go_ret2
    rw [R.out]
    exact ⟨rfl, b2⟩
  obtain ⟨b, off, s, rfl, hb, hx, d0, d1, d2⟩ := (hs.st b2).stp (i := 0) (by omega)
  simp only [Nat.zero_mul, Nat.add_zero] at d0 d1 d2
  have h0b : ((ss.length : Int) == 0) = false := by rw [beq_eq_false_iff_ne]; omega
  have hpos : (0 : Int) < (ss.length : Int) := by omega
  obtain ⟨Y3, hY3⟩ : ∃ Y, Y2.alloc (.cells #[.string s.pt, .int .i64 s.t, .string s.pg] 82) = Y := ⟨_, rfl⟩
  have b3 : Below w.heap.size w Y3 := by rw [← hY3]; exact b2.al _
  have B3 : Blk Y3 Y2.heap.size #[.string s.pt, .int .i64 s.t, .string s.pg] 82 := by rw [← hY3]; exact Blk.new Y2 _ _
  have B2 := (show Blk Y3 Y1.heap.size _ _ by rw [← hY3]; exact B2.alloc _)
  have B1 : Blk Y3 w.heap.size #[o0, o1, o2, o3, o4, o5, o6, o7, .slice tA ts.length tc, o9, o10, o11, o12, o13, o14, o15, o16, o17, o18, o19, o20, o21, o22, o23, o24] 46 := by rw [← hY3]; exact B1.alloc _
  have u4 := B2.cell 4 (v := .slice (some ⟨b, off, none⟩) ss.length xc) rfl
  have c8 := B1.cell 8 (v := .slice tA ts.length tc) rfl
  have s1 := B3.cell 1 (v := .int .i64 s.t) rfl
  have CA := Lib.hid (tat_any tc s.t (h.st b3) (fun y hy => ⟨(hok y hy).1.st b3, (hok y hy).2⟩) hl)
  have HX := Lib.hid hx
  have HB1 := Lib.hid b1
  clear h hok b1 b2 B1 hb
  by_cases h1 : 1 < ss.length
  · obtain ⟨m, hm⟩ : ∃ m, m + 1 = ss.length := ⟨ss.length - 1, by omega⟩
    obtain ⟨b', off', s', hA', hb', hx', g0, g1, g2⟩ := (hs.st b3).stp (i := m) (by omega)
    injection hA' with hA'
    injection hA' with q1 q2
    subst q1
    subst q2
    have HTO := Lib.hid (toM_more hm h1 hx')
    have h1z : (1 : Int) < (ss.length : Int) := by omega
    have hwm : IntKind.i64.wrap ((ss.length : Int) - 1) = (m : Int) := by rw [show (ss.length : Int) - 1 = (m : Int) by omega]; exact IntWalk.i64_in _ (by omega)
    have m1 : (0 : Int) ≤ (m : Int) := by omega
    have m2 : (m : Int) < (ss.length : Int) := by omega
    clear hs hx hx' hb' g1 g2 h1 hm h0
    go_enter Tryz.func21, Tryz.ntmps21
    go_wp2_with fail
    refine CA.out.mono ?_
    rintro e W4 ⟨hR, hbn⟩
    have b4 := b3.st hbn
    have B2 := B2.below hbn B2.lt
    have B3 := B3.below hbn B3.lt
    clear t4 u4 c8 s1 d0 d1 d2 g0 CA hY1 hY2 hY3
    cases hf : findM s.t ts with
    | none =>
      rw [hf] at hR
      have hR : e = .returned (.tuple #[.agg #[.int .i64 0, .int .i64 0, .slice none 0 0, .slice none 0 0], .int .i64 22]) := hR
      subst hR
      have R := Lib.hid (baseM_none (cl := cl) HX.out hf)
      clear hf
      go_wp2_with fail
      go_ret2
      rw [R.out]
      exact ⟨rfl, b4.al _⟩
    | some y =>
      rw [hf] at hR
      obtain ⟨A8, c8, A9, c9, rfl, r8, r9⟩ := hR
      have R := Lib.hid (baseM_some (cl := cl) HX.out hf)
      have hsm := HTR.out y (findM_mem hf)
      obtain ⟨W5, hW5⟩ : ∃ Y, W4.alloc (.cells #[.int .i64 y.f, .int .i64 y.t, .slice A8 y.bs.length c8, .slice A9 y.rs.length c9] 77) = Y := ⟨_, rfl⟩
      have b45 : Below W4.heap.size W4 W5 := by rw [← hW5]; exact (Below.refl _ _).al _
      have b5 := b4.st b45
      have B2 := B2.below b45 B2.lt
      have B3 := B3.below b45 B3.lt
      have B5 : Blk W5 W4.heap.size #[.int .i64 y.f, .int .i64 y.t, .slice A8 y.bs.length c8, .slice A9 y.rs.length c9] 77 := by rw [← hW5]; exact Blk.new W4 _ _
      have CR := Lib.hid (trate_any y.f y.t s.t cl s.pt s'.pt c8 c9 (r8.st b45) (r9.st b45) hsm.1 hsm.2)
      have v0 := B5.cell 0 (v := .int .i64 y.f) rfl
      have v1 := B5.cell 1 (v := .int .i64 y.t) rfl
      have v2 := B5.cell 2 (v := .slice A8 y.bs.length c8) rfl
      have v3 := B5.cell 3 (v := .slice A9 y.rs.length c9) rfl
      have z0 := B3.cell 0 (v := .string s.pt) rfl
      have z1 := B3.cell 1 (v := .int .i64 s.t) rfl
      have z3 := B2.cell 3 (v := .int .i64 cl) rfl
      rw [HTO.out] at R
      clear hf r8 r9 hsm hbn b45 b4
      go_wp2_with fail
      refine CR.out.mono ?_
      rintro e W6 ⟨rfl, hbn⟩
      have b6 := b5.st hbn
      go_wp2_with fail
      go_ret2
      rw [R.out]
      exact ⟨rfl, b6⟩
  · have HTO := Lib.hid (toM_one h1)
    have h1z : ¬ (1 : Int) < (ss.length : Int) := by omega
    clear hs hx h1 h0
    go_enter Tryz.func21, Tryz.ntmps21
    go_wp2_with fail
    refine CA.out.mono ?_
    rintro e W4 ⟨hR, hbn⟩
    have b4 := b3.st hbn
    have B2 := B2.below hbn B2.lt
    have B3 := B3.below hbn B3.lt
    clear t4 u4 c8 s1 d0 d1 d2 CA hY1 hY2 hY3
    cases hf : findM s.t ts with
    | none =>
      rw [hf] at hR
      have hR : e = .returned (.tuple #[.agg #[.int .i64 0, .int .i64 0, .slice none 0 0, .slice none 0 0], .int .i64 22]) := hR
      subst hR
      have R := Lib.hid (baseM_none (cl := cl) HX.out hf)
      clear hf
      go_wp2_with fail
      go_ret2
      rw [R.out]
      exact ⟨rfl, b4.al _⟩
    | some y =>
      rw [hf] at hR
      obtain ⟨A8, c8, A9, c9, rfl, r8, r9⟩ := hR
      have R := Lib.hid (baseM_some (cl := cl) HX.out hf)
      have hsm := HTR.out y (findM_mem hf)
      obtain ⟨W5, hW5⟩ : ∃ Y, W4.alloc (.cells #[.int .i64 y.f, .int .i64 y.t, .slice A8 y.bs.length c8, .slice A9 y.rs.length c9] 77) = Y := ⟨_, rfl⟩
      have b45 : Below W4.heap.size W4 W5 := by rw [← hW5]; exact (Below.refl _ _).al _
      have b5 := b4.st b45
      have B2 := B2.below b45 B2.lt
      have B3 := B3.below b45 B3.lt
      have B5 : Blk W5 W4.heap.size #[.int .i64 y.f, .int .i64 y.t, .slice A8 y.bs.length c8, .slice A9 y.rs.length c9] 77 := by rw [← hW5]; exact Blk.new W4 _ _
      have CR := Lib.hid (trate_any y.f y.t s.t cl s.pt ⟨#[]⟩ c8 c9 (r8.st b45) (r9.st b45) hsm.1 hsm.2)
      have v0 := B5.cell 0 (v := .int .i64 y.f) rfl
      have v1 := B5.cell 1 (v := .int .i64 y.t) rfl
      have v2 := B5.cell 2 (v := .slice A8 y.bs.length c8) rfl
      have v3 := B5.cell 3 (v := .slice A9 y.rs.length c9) rfl
      have z0 := B3.cell 0 (v := .string s.pt) rfl
      have z1 := B3.cell 1 (v := .int .i64 s.t) rfl
      have z3 := B2.cell 3 (v := .int .i64 cl) rfl
      rw [HTO.out] at R
      clear hf r8 r9 hsm hbn b45 b4
      go_wp2_with fail
      refine CR.out.mono ?_
      rintro e W6 ⟨rfl, hbn⟩
      have b6 := b5.st hbn
      go_wp2_with fail
      go_ret2
      rw [R.out]
      exact ⟨rfl, b6⟩
end Go.Proofs.YtelchfijalkibaaGreatDoor
/- A discount that is valid: the program's Check accepts it; walked. -/
set_option linter.unusedSimpArgs false
namespace Go.Proofs.YtelchfijalkibaaGreatDoor
open Go.RowKit Go.Lib

/-- the greatest Amount of a kind -/
def mostV (kd : Int) : Int := if kd = 1 then 1000 else if kd = 2 then 1125899906842624 else 0
theorem amB_most {kd am : Int} (h : amB kd am = true) : 0 ≤ am ∧ am ≤ mostV kd := by
  unfold amB at h
  unfold mostV
  split at h
  · rename_i q; rw [if_pos q]; simp at h; exact h
  · rename_i q; rw [if_neg q]
    split at h
    · rename_i q2; rw [if_pos q2]; simp at h; exact h
    · rename_i q2; rw [if_neg q2]; simp at h; omega
set_option maxRecDepth 100000 in
theorem most_any (kd : Int) (w : World) : Calls Tryz.prog 76 #[.int .i64 kd] w fun e w' => e = .returned (.int .i64 (mostV kd)) ∧ w' = w := by
  unfold mostV
  by_cases q1 : kd = 1
  · rw [if_pos q1]
    have q2 : (kd == 1) = true := by simp [q1]
    clear q1
    go_enter Tryz.func76, Tryz.ntmps76
    go_wp2
    go_ret
    exact ⟨rfl, rfl⟩
  · rw [if_neg q1]
    have q2 : (kd == 1) = false := by simp [q1]
    by_cases q3 : kd = 2
    · rw [if_pos q3]
      have q4 : (kd == 2) = true := by simp [q3]
      clear q1 q3
      go_enter Tryz.func76, Tryz.ntmps76
      go_wp2
      go_ret
      exact ⟨rfl, rfl⟩
    · rw [if_neg q3]
      have q4 : (kd == 2) = false := by simp [q3]
      clear q1 q3
      go_enter Tryz.func76, Tryz.ntmps76
      go_wp2
      go_ret
      exact ⟨rfl, rfl⟩
set_option maxRecDepth 100000 in
set_option maxHeartbeats 4000000 in
theorem dwindow_any {wd wf wt : Int} (h : (wd = 0 ∧ wf = 0 ∧ wt = 0) ∨ (wd ≠ 0 ∧ vw (wd, wf, wt) = true)) (w : World) :
    Calls Tryz.prog 77 #[.agg #[.int .i64 wd, .int .i64 wf, .int .i64 wt]] w fun e w' => e = .returned (.bool true) ∧ Below w.heap.size w w' := by
  obtain ⟨Y, hY⟩ : ∃ Y, w.alloc (.cells #[.int .i64 wd, .int .i64 wf, .int .i64 wt] 97) = Y := ⟨_, rfl⟩
  have bW : Below w.heap.size w Y := by rw [← hY]; exact (Below.refl _ w).al _
  have B1 : Blk Y w.heap.size #[.int .i64 wd, .int .i64 wf, .int .i64 wt] 97 := by rw [← hY]; exact Blk.new w _ _
  have c0 := B1.cell 0 (v := .int .i64 wd) rfl
  have c1 := B1.cell 1 (v := .int .i64 wf) rfl
  have c2 := B1.cell 2 (v := .int .i64 wt) rfl
  clear B1
  rcases h with ⟨rfl, rfl, rfl⟩ | ⟨h0, hv⟩
  · go_enter Tryz.func77, Tryz.ntmps77
    go_wp2_with fail
    go_ret
    exact ⟨rfl, bW⟩
  · have hv := (vw_iff _).1 hv
    simp only at hv
    have h1 : 0 < wd := by omega
    have h1b : (wd == 0) = false := by simp; omega
    have h2 : wd ≤ 127 := by omega
    have h3 : 0 ≤ wf := by omega
    have h4 : wf < wt := by omega
    have h5 : wt ≤ 1440 := by omega
    clear h0 hv
    go_enter Tryz.func77, Tryz.ntmps77
    go_wp2_with fail
    go_ret
    exact ⟨rfl, bW⟩

set_option maxRecDepth 100000 in
set_option maxHeartbeats 16000000 in
theorem pcheck_any {x : Dc} (h : DcOk x) (w : World) :
    Calls Tryz.prog 49 #[.agg #[.string x.nm, .int .i64 x.kd, .int .i64 x.am, .string x.gr, .string x.sy, .int .i64 x.cl, .int .i64 x.wd, .int .i64 x.wf, .int .i64 x.wt, .int .i64 x.le]] w fun e w' => e = .returned (.int .i64 0) ∧ Below w.heap.size w w' := by
  obtain ⟨nm, kd, am, gr, sy, cl, wd, wf, wt, le⟩ := x
  obtain ⟨k1, k2, k3, k4, k5, k6, k7, k8⟩ := h
  simp only at k1 k2 k3 k4 k5 k6 k7 k8 ⊢
  obtain ⟨Y, hY⟩ : ∃ Y, w.alloc (.cells #[.string nm, .int .i64 kd, .int .i64 am, .string gr, .string sy, .int .i64 cl, .int .i64 wd, .int .i64 wf, .int .i64 wt, .int .i64 le] 99) = Y := ⟨_, rfl⟩
  have bW : Below w.heap.size w Y := by rw [← hY]; exact (Below.refl _ w).al _
  have B1 : Blk Y w.heap.size #[.string nm, .int .i64 kd, .int .i64 am, .string gr, .string sy, .int .i64 cl, .int .i64 wd, .int .i64 wf, .int .i64 wt, .int .i64 le] 99 := by rw [← hY]; exact Blk.new w _ _
  have CN : Hid (∀ (s : ByteArray) (X : World), nameB s = true → Calls Tryz.prog 59 #[.string s] X fun e w' => e = .returned (.bool true) ∧ Below X.heap.size X w') := Lib.hid (fun s X hs => by rw [← hs]; exact name_any s X)
  have CM := Lib.hid (fun (X : World) => (most_any kd X).mono (R' := fun e w' => e = .returned (.int .i64 (mostV kd)) ∧ ∃ k, w' = X.drewN k) (fun e w' h => ⟨h.1, 0, h.2⟩))
  have CW := Lib.hid (fun (X : World) => dwindow_any k7 X)
  obtain ⟨m1, m2⟩ := amB_most k3
  generalize mostV kd = mo at *
  have H1 := Lib.hid k1
  have HG := Lib.hid k4
  have HS := Lib.hid k5
  obtain ⟨b1, b2⟩ := k2
  obtain ⟨b3, b4⟩ := k6
  obtain ⟨b5, b6⟩ := k8
  have b1' : ¬ kd < 1 := by omega
  have b2' : ¬ 3 < kd := by omega
  have d1 : decide (am < 0) = false := decide_eq_false (by omega)
  have d2 : decide (mo < am) = false := decide_eq_false (by omega)
  have b3' : ¬ cl < 0 := by omega
  have b4' : ¬ 9 < cl := by omega
  have b5' : ¬ le < 0 := by omega
  have b6' : ¬ 2147483648 < le := by omega
  clear k1 k3 k4 k5 k7
  have z0 := B1.cell 0 (v := .string nm) rfl; have z1 := B1.cell 1 (v := .int .i64 kd) rfl; have z2 := B1.cell 2 (v := .int .i64 am) rfl; have z3 := B1.cell 3 (v := .string gr) rfl; have z4 := B1.cell 4 (v := .string sy) rfl; have z5 := B1.cell 5 (v := .int .i64 cl) rfl; have z6 := B1.cell 6 (v := .int .i64 wd) rfl; have z7 := B1.cell 7 (v := .int .i64 wf) rfl; have z8 := B1.cell 8 (v := .int .i64 wt) rfl; have z9 := B1.cell 9 (v := .int .i64 le) rfl
  go_enter Tryz.func49, Tryz.ntmps49
  go_wp2_with fail
  refine (CN.out _ _ H1.out).mono ?_
  rintro e W2 ⟨rfl, hbn⟩
  have bW := bW.st hbn; have B1 := B1.below hbn B1.lt; clear hbn z0 z1 z2 z3 z4 z5 z6 z7 z8 z9
  clear hY
  have z0 := B1.cell 0 (v := .string nm) rfl; have z1 := B1.cell 1 (v := .int .i64 kd) rfl; have z2 := B1.cell 2 (v := .int .i64 am) rfl; have z3 := B1.cell 3 (v := .string gr) rfl; have z4 := B1.cell 4 (v := .string sy) rfl; have z5 := B1.cell 5 (v := .int .i64 cl) rfl; have z6 := B1.cell 6 (v := .int .i64 wd) rfl; have z7 := B1.cell 7 (v := .int .i64 wf) rfl; have z8 := B1.cell 8 (v := .int .i64 wt) rfl; have z9 := B1.cell 9 (v := .int .i64 le) rfl
  go_wp2_with fail
  go_quiet ((go_at_call 76; with_reducible refine Calls.quiet_of (CM.out _)))
  cases he : emp gr
  · obtain ⟨e1, e2, e3⟩ := toList_neE he
    have HN := Lib.hid (show nameB gr = true by have h := HG.out; unfold optB at h; rw [he] at h; exact h)
    clear he
    go_wp2_with fail
    refine (CN.out _ _ HN.out).mono ?_
    rintro e W3 ⟨rfl, hbn⟩
    have bW := (below_drewN bW _).st hbn
    have B1 : Blk W3 w.heap.size #[.string nm, .int .i64 kd, .int .i64 am, .string gr, .string sy, .int .i64 cl, .int .i64 wd, .int .i64 wf, .int .i64 wt, .int .i64 le] 99 := Blk.below (W := World.drewN W2 _) B1 hbn B1.lt
    clear hbn z0 z1 z2 z3 z4 z5 z6 z7 z8 z9 e1 e2 e3
    have z0 := B1.cell 0 (v := .string nm) rfl; have z1 := B1.cell 1 (v := .int .i64 kd) rfl; have z2 := B1.cell 2 (v := .int .i64 am) rfl; have z3 := B1.cell 3 (v := .string gr) rfl; have z4 := B1.cell 4 (v := .string sy) rfl; have z5 := B1.cell 5 (v := .int .i64 cl) rfl; have z6 := B1.cell 6 (v := .int .i64 wd) rfl; have z7 := B1.cell 7 (v := .int .i64 wf) rfl; have z8 := B1.cell 8 (v := .int .i64 wt) rfl; have z9 := B1.cell 9 (v := .int .i64 le) rfl
    (cases he : emp sy); (case' false => ((obtain ⟨e1, e2, e3⟩ := toList_neE he); (have HN := Lib.hid (show nameB sy = true by have h := HS.out; unfold optB at h; rw [he] at h; exact h)); (clear he); (go_wp2_with fail); (refine (CN.out _ _ HN.out).mono ?_); (rintro e W4 ⟨rfl, hbn⟩); (have bW := Below.st (by first | exact bW | exact below_drewN bW _) hbn); (have B1 : Blk W4 w.heap.size #[.string nm, .int .i64 kd, .int .i64 am, .string gr, .string sy, .int .i64 cl, .int .i64 wd, .int .i64 wf, .int .i64 wt, .int .i64 le] 99 := Blk.below (by first | exact B1 | exact (show Blk (World.drewN _ _) _ _ _ from B1)) hbn B1.lt); (clear hbn z0 z1 z2 z3 z4 z5 z6 z7 z8 z9 e1 e2 e3); (have z0 := B1.cell 0 (v := .string nm) rfl; have z1 := B1.cell 1 (v := .int .i64 kd) rfl; have z2 := B1.cell 2 (v := .int .i64 am) rfl; have z3 := B1.cell 3 (v := .string gr) rfl; have z4 := B1.cell 4 (v := .string sy) rfl; have z5 := B1.cell 5 (v := .int .i64 cl) rfl; have z6 := B1.cell 6 (v := .int .i64 wd) rfl; have z7 := B1.cell 7 (v := .int .i64 wf) rfl; have z8 := B1.cell 8 (v := .int .i64 wt) rfl; have z9 := B1.cell 9 (v := .int .i64 le) rfl); (go_wp2_with fail))); (case' true => ((obtain ⟨e1, e2, e3⟩ := toList_eE he); (clear he); (go_wp2_with fail))); (all_goals ((refine (CW.out _).mono ?_); (rintro e W5 ⟨rfl, hbn⟩); (have bW := Below.st (by first | exact bW | exact below_drewN bW _) hbn); (have B1 : Blk W5 w.heap.size #[.string nm, .int .i64 kd, .int .i64 am, .string gr, .string sy, .int .i64 cl, .int .i64 wd, .int .i64 wf, .int .i64 wt, .int .i64 le] 99 := Blk.below (by first | exact B1 | exact (show Blk (World.drewN _ _) _ _ _ from B1)) hbn B1.lt); (clear hbn z0 z1 z2 z3 z4 z5 z6 z7 z8 z9); (have z0 := B1.cell 0 (v := .string nm) rfl; have z1 := B1.cell 1 (v := .int .i64 kd) rfl; have z2 := B1.cell 2 (v := .int .i64 am) rfl; have z3 := B1.cell 3 (v := .string gr) rfl; have z4 := B1.cell 4 (v := .string sy) rfl; have z5 := B1.cell 5 (v := .int .i64 cl) rfl; have z6 := B1.cell 6 (v := .int .i64 wd) rfl; have z7 := B1.cell 7 (v := .int .i64 wf) rfl; have z8 := B1.cell 8 (v := .int .i64 wt) rfl; have z9 := B1.cell 9 (v := .int .i64 le) rfl); (go_wp2_with fail); (go_ret); (exact ⟨rfl, bW⟩)))
  · obtain ⟨e1, e2, e3⟩ := toList_eE he
    clear he
    (cases he : emp sy); (case' false => ((obtain ⟨e1, e2, e3⟩ := toList_neE he); (have HN := Lib.hid (show nameB sy = true by have h := HS.out; unfold optB at h; rw [he] at h; exact h)); (clear he); (go_wp2_with fail); (refine (CN.out _ _ HN.out).mono ?_); (rintro e W4 ⟨rfl, hbn⟩); (have bW := Below.st (by first | exact bW | exact below_drewN bW _) hbn); (have B1 : Blk W4 w.heap.size #[.string nm, .int .i64 kd, .int .i64 am, .string gr, .string sy, .int .i64 cl, .int .i64 wd, .int .i64 wf, .int .i64 wt, .int .i64 le] 99 := Blk.below (by first | exact B1 | exact (show Blk (World.drewN _ _) _ _ _ from B1)) hbn B1.lt); (clear hbn z0 z1 z2 z3 z4 z5 z6 z7 z8 z9 e1 e2 e3); (have z0 := B1.cell 0 (v := .string nm) rfl; have z1 := B1.cell 1 (v := .int .i64 kd) rfl; have z2 := B1.cell 2 (v := .int .i64 am) rfl; have z3 := B1.cell 3 (v := .string gr) rfl; have z4 := B1.cell 4 (v := .string sy) rfl; have z5 := B1.cell 5 (v := .int .i64 cl) rfl; have z6 := B1.cell 6 (v := .int .i64 wd) rfl; have z7 := B1.cell 7 (v := .int .i64 wf) rfl; have z8 := B1.cell 8 (v := .int .i64 wt) rfl; have z9 := B1.cell 9 (v := .int .i64 le) rfl); (go_wp2_with fail))); (case' true => ((obtain ⟨e1, e2, e3⟩ := toList_eE he); (clear he); (go_wp2_with fail))); (all_goals ((refine (CW.out _).mono ?_); (rintro e W5 ⟨rfl, hbn⟩); (have bW := Below.st (by first | exact bW | exact below_drewN bW _) hbn); (have B1 : Blk W5 w.heap.size #[.string nm, .int .i64 kd, .int .i64 am, .string gr, .string sy, .int .i64 cl, .int .i64 wd, .int .i64 wf, .int .i64 wt, .int .i64 le] 99 := Blk.below (by first | exact B1 | exact (show Blk (World.drewN _ _) _ _ _ from B1)) hbn B1.lt); (clear hbn z0 z1 z2 z3 z4 z5 z6 z7 z8 z9); (have z0 := B1.cell 0 (v := .string nm) rfl; have z1 := B1.cell 1 (v := .int .i64 kd) rfl; have z2 := B1.cell 2 (v := .int .i64 am) rfl; have z3 := B1.cell 3 (v := .string gr) rfl; have z4 := B1.cell 4 (v := .string sy) rfl; have z5 := B1.cell 5 (v := .int .i64 cl) rfl; have z6 := B1.cell 6 (v := .int .i64 wd) rfl; have z7 := B1.cell 7 (v := .int .i64 wf) rfl; have z8 := B1.cell 8 (v := .int .i64 wt) rfl; have z9 := B1.cell 9 (v := .int .i64 le) rfl); (go_wp2_with fail); (go_ret); (exact ⟨rfl, bW⟩)))
end Go.Proofs.YtelchfijalkibaaGreatDoor
