/- permit.Allowed, walked. -/
import Derived.Test.YtbeoopofckbijaaPerList
import Derived.Test.YtbeoopofckbijaaZoneSpans
import Derived.Test.YtbeoopofckbijaaMeet
import Derived.Test.YtbeoopofckbijaaUnion
import Derived.Deep.DeepCutAuto
namespace Go.Proofs.Ytbeoopofckbijaa
open Go.RowKit Go.Lib

theorem Rd.one {X : World} {g : Nat} {a b : Int} (hX : Blk X g #[.int .i64 a, .int .i64 b] 26) : Rd encIv 2 X X.heap.size (some ⟨g, 0, none⟩) [((a, b) : Iv)] :=
  fun _ => ⟨g, 0, rfl, hX.lt, fun i y hi j u hu => by
    match i, j with
    | 0, 0 => simp at hi; subst hi; simp [encIv] at hu; subst hu; exact hX.cell 0 rfl
    | 0, 1 => simp at hi; subst hi; simp [encIv] at hu; subst hu; exact hX.cell 1 rfl
    | 0, j + 2 => simp [encIv] at hu
    | i + 1, _ => simp at hi⟩

/-- two results: a list in normal form that reads as the set S, and OK -/
def AllR (S : Int → Prop) (w w' : World) (e : Ending) : Prop :=
  ∃ A c n, e = .returned (.tuple #[.slice A n.length c, .int .i64 0]) ∧ NF n ∧ (∀ t, Mem n t ↔ S t) ∧ Rd encIv 2 w' w'.heap.size A n ∧ Below w.heap.size w w'
theorem AllR.congr {S T : Int → Prop} (h : ∀ t, S t ↔ T t) {w w' : World} {e : Ending} (q : AllR S w w' e) : AllR T w w' e := by
  obtain ⟨A, c, n, h1, h2, h3, h4⟩ := q
  exact ⟨A, c, n, h1, h2, fun t => (h3 t).trans (h t), h4⟩

/-- the times of an interval at which a permit is valid -/
def Pa (p : Pm) (s : ByteArray) (i : Iv) (t : Int) : Prop := i.1 ≤ t ∧ t < i.2 ∧ validP p s t = true

theorem mem_one {f u t : Int} (h : vld (f, u)) : Mem [((f, u) : Iv)] t ↔ f ≤ t ∧ t < u := by
  rw [Mem.cons]; simp [Mem.nil, h]
theorem pa_no {p : Pm} {s : ByteArray} {i : Iv} (h : listB p.ps s = false) (t : Int) : Mem [] t ↔ Pa p s i t := by
  simp only [Mem.nil, Pa, validP, h, Bool.false_and, false_iff]; simp
theorem pa_all {p : Pm} {s : ByteArray} {f u : Int} (hi : vld (f, u)) (h : listB p.ps s = true) (hz : p.hs.length = 0) (t : Int) : Mem [((f, u) : Iv)] t ∧ Mem [((p.v0, p.v1) : Iv)] t ↔ Pa p s (f, u) t := by
  simp only [Pa, validP, h, hrs_0 hz, Bool.true_and, Bool.and_true]
  rw [mem_one hi, ← hasB_mem]
  constructor
  · rintro ⟨⟨a, b⟩, c⟩; exact ⟨a, b, c⟩
  · rintro ⟨a, b, c⟩; exact ⟨⟨a, b⟩, c⟩
theorem pa_hrs {p : Pm} {s : ByteArray} {f u : Int} (hi : vld (f, u)) (h : listB p.ps s = true) (hz : ¬ p.hs.length = 0) (t : Int) : (Mem [((f, u) : Iv)] t ∧ Mem [((p.v0, p.v1) : Iv)] t) ∧ (∃ x ∈ p.hs.take p.hs.length, Sw x (f, u) t) ↔ Pa p s (f, u) t := by
  rw [List.take_length]
  simp only [Pa, validP, h, Bool.true_and, Bool.and_eq_true]
  rw [mem_one hi, hasB_mem]
  have hv : 0 ≤ f ∧ f < u ∧ u ≤ 68719476736 := hi
  have : hrsB p.hs t = true ↔ ∃ x ∈ p.hs, wAtB x t = true := by
    unfold hrsB; rw [decide_eq_false hz, Bool.false_or, List.any_eq_true]
  rw [this]
  constructor
  · rintro ⟨⟨⟨a, b⟩, c⟩, x, hx, _, _, hs⟩
    exact ⟨a, b, c, x, hx, by unfold wAtB; simp only [Bool.and_eq_true, decide_eq_true_eq]; exact ⟨by omega, hs⟩⟩
  · rintro ⟨a, b, c, x, hx, hs⟩
    unfold wAtB at hs; simp only [Bool.and_eq_true, decide_eq_true_eq] at hs
    exact ⟨⟨⟨a, b⟩, c⟩, x, hx, a, b, hs.2⟩
theorem sw_succ {hs : List Wn} {k : Nat} {x : Wn} {i : Iv} (hx : hs[k]? = some x) (t : Int) : ((∃ y ∈ hs.take k, Sw y i t) ∨ Sw x i t) ↔ ∃ y ∈ hs.take (k + 1), Sw y i t := by
  rw [take_snoc hx]
  simp only [List.mem_append, List.mem_singleton]
  constructor
  · rintro (⟨y, h1, h2⟩ | h2)
    · exact ⟨y, .inl h1, h2⟩
    · exact ⟨x, .inr rfl, h2⟩
  · rintro ⟨y, h1 | rfl, h2⟩
    · exact .inl ⟨y, h1, h2⟩
    · exact .inr h2

set_option maxRecDepth 100000 in
set_option maxHeartbeats 8000000 in
theorem allowed_any (p : Pm) (s : ByteArray) (f u : Int) (hs0 : s.size ≤ 1000000) {w : World} (h : POk w p) (hl : p.ps.length ≤ 100000)
    (h0 : 0 ≤ f) (h1 : f < u) (h2 : u ≤ 68719476736) (h3 : (u - 1) / 86400 - f / 86400 + 1 ≤ 366) :
    Calls Try.prog 6 #[PmV p, .string s, .agg #[.int .i64 f, .int .i64 u]] w fun e w' => AllR (Pa p s (f, u)) w w' e := by
  have CL := Lib.hid (fun (X : World) (hX : Below w.heap.size w X) => listed_any p s hs0 (h.st hX) hl)
  have CS := Lib.hid (fun (x y z : Int) (X : World) => spans_any x y z f u (w := X) h0 h1 h2 h3)
  have hvi : vld (f, u) := ⟨h0, h1, h2⟩
  have CM := Lib.hid (fun (g1 g2 : Nat) (X : World) (hX1 : Blk X g1 #[.int .i64 f, .int .i64 u] 26) (hX2 : Blk X g2 #[.int .i64 p.v0, .int .i64 p.v1] 26) => show Calls Try.prog 17 #[.slice (some ⟨g1, 0, none⟩) 1 1, .slice (some ⟨g2, 0, none⟩) 1 1] X _ from meet_any (a := [((f, u) : Iv)]) (b := [((p.v0, p.v1) : Iv)]) 1 1 (Rd.one hX1) (Rd.one hX2) (by simp) (by simp))
  have CU := Lib.hid (fun (A B : Option Addr) (c d : Nat) (a b : List Iv) (X : World) (ha : Rd encIv 2 X X.heap.size A a) (hb : Rd encIv 2 X X.heap.size B b) (na : NF a) (nb : NF b) => union_any c d ha hb (by have := na.length_max; omega) (by have := nb.length_max; omega))
  have CMM := Lib.hid (fun (A B : Option Addr) (c d : Nat) (a b : List Iv) (X : World) (ha : Rd encIv 2 X X.heap.size A a) (hb : Rd encIv 2 X X.heap.size B b) (na : NF a) (nb : NF b) => meet_any c d ha hb (by have := na.length_max; omega) (by have := nb.length_max; omega))
  have H := Lib.hid h.2.1
  have hh := h.2.2.2
  have RNO := Lib.hid (fun q => pa_no (p := p) (s := s) (i := (f, u)) q)
  have RALL := Lib.hid (fun q q1 => pa_all (p := p) (s := s) hvi q q1)
  have RHRS := Lib.hid (fun q q1 => pa_hrs (p := p) (s := s) hvi q q1)
  have RSU := Lib.hid (fun (k : Nat) (x : Wn) (q : p.hs[k]? = some x) (t : Int) => sw_succ (i := (f, u)) q t)
  have HP := Lib.hid (show Pa p s (f, u) = Pa p s (f, u) from rfl)
  generalize hPa : Pa p s (f, u) = S at RNO RALL RHRS ⊢
  clear HP hPa
  obtain ⟨nm, zn, pA, pc, ps, v0, v1, hA, hc, hs2, mo⟩ := p
  simp only [PmV] at *
  clear h h0 h1 h2 h3 hvi
  obtain ⟨hs, rfl⟩ : ∃ hs, hs = hs2 := ⟨_, rfl⟩
  obtain ⟨Y1, hY1⟩ : ∃ Y, w.alloc (.cells #[.string nm, .string zn, .slice pA ps.length pc, .int .i64 v0, .int .i64 v1, .slice hA hs.length hc, .int .i64 mo] 31) = Y := ⟨_, rfl⟩
  have B1 : Blk Y1 w.heap.size #[.string nm, .string zn, .slice pA ps.length pc, .int .i64 v0, .int .i64 v1, .slice hA hs.length hc, .int .i64 mo] 31 := by rw [← hY1]; exact Blk.new w _ _
  have s1 : Y1.heap.size = w.heap.size + 1 := by rw [← hY1]; simp
  obtain ⟨Y, hY⟩ : ∃ Y, Y1.alloc (.cells #[.int .i64 f, .int .i64 u] 26) = Y := ⟨_, rfl⟩
  have BP : Blk Y w.heap.size #[.string nm, .string zn, .slice pA ps.length pc, .int .i64 v0, .int .i64 v1, .slice hA hs.length hc, .int .i64 mo] 31 := by rw [← hY]; exact B1.alloc _
  have BI : Blk Y (w.heap.size + 1) #[.int .i64 f, .int .i64 u] 26 := by rw [← hY, ← s1]; exact Blk.new Y1 _ _
  have bW : Below w.heap.size w Y := by rw [← hY, ← hY1]; exact ((Below.refl _ w).al _).al _
  clear B1
  have p0 := BP.cell 0 (v := .string nm) rfl; have p1 := BP.cell 1 (v := .string zn) rfl; have p2 := BP.cell 2 (v := .slice pA ps.length pc) rfl; have p3 := BP.cell 3 (v := .int .i64 v0) rfl; have p4 := BP.cell 4 (v := .int .i64 v1) rfl; have p5 := BP.cell 5 (v := .slice hA hs.length hc) rfl; have p6 := BP.cell 6 (v := .int .i64 mo) rfl
  have i0 := BI.cell 0 (v := .int .i64 f) rfl; have i1 := BI.cell 1 (v := .int .i64 u) rfl
  cases hlb : listB ps s
  · have R := Lib.hid (RNO.out hlb)
    rw [hlb] at CL
    clear hlb RALL RHRS RNO
    go_enter Try.func6, Try.ntmps6
    go_wp2_with fail
    refine (CS.out _ _ _ _).mono ?_
    rintro e wn ⟨A0, c0, n0, rfl, -, -, -, -, hbn⟩
    have bW := bW.st hbn; have BP := BP.below hbn BP.lt
    have BI := BI.below hbn BI.lt
    have p0 := BP.cell 0 (v := .string nm) rfl; have p1 := BP.cell 1 (v := .string zn) rfl; have p2 := BP.cell 2 (v := .slice pA ps.length pc) rfl; have p3 := BP.cell 3 (v := .int .i64 v0) rfl; have p4 := BP.cell 4 (v := .int .i64 v1) rfl; have p5 := BP.cell 5 (v := .slice hA hs.length hc) rfl; have p6 := BP.cell 6 (v := .int .i64 mo) rfl
    have i0 := BI.cell 0 (v := .int .i64 f) rfl; have i1 := BI.cell 1 (v := .int .i64 u) rfl
    go_wp2_with fail
    refine (CL.out _ bW).mono ?_
    rintro e wm ⟨rfl, hbn⟩
    have bW := bW.st hbn; have BP := BP.below hbn BP.lt
    go_wp2_with fail
    go_ret2
    exact ⟨none, 0, [], rfl, NF.nil, R.out, Rd.nil, bW⟩
  · rw [hlb] at CL
    have RALL := Lib.hid (RALL.out hlb)
    have RHRS := Lib.hid (RHRS.out hlb)
    clear hlb RNO
    by_cases hz : hs.length = 0
    · have R := Lib.hid (RALL.out hz)
      have hzb : ((hs.length : Int) == 0) = true := by simp [hz]
      clear hz RALL RHRS
      go_enter Try.func6, Try.ntmps6
      go_wp2_with fail
      refine (CS.out _ _ _ _).mono ?_
      rintro e wn ⟨A0, c0, n0, rfl, -, -, -, -, hbn⟩
      have bW := bW.st hbn; have BP := BP.below hbn BP.lt
      have BI := BI.below hbn BI.lt
      have p0 := BP.cell 0 (v := .string nm) rfl; have p1 := BP.cell 1 (v := .string zn) rfl; have p2 := BP.cell 2 (v := .slice pA ps.length pc) rfl; have p3 := BP.cell 3 (v := .int .i64 v0) rfl; have p4 := BP.cell 4 (v := .int .i64 v1) rfl; have p5 := BP.cell 5 (v := .slice hA hs.length hc) rfl; have p6 := BP.cell 6 (v := .int .i64 mo) rfl
      have i0 := BI.cell 0 (v := .int .i64 f) rfl; have i1 := BI.cell 1 (v := .int .i64 u) rfl
      go_wp2_with fail
      refine (CL.out _ bW).mono ?_
      rintro e wm ⟨rfl, hbn⟩
      have bW := bW.st hbn; have BP := BP.below hbn BP.lt
      have BI := BI.below hbn BI.lt
      have p0 := BP.cell 0 (v := .string nm) rfl; have p1 := BP.cell 1 (v := .string zn) rfl; have p2 := BP.cell 2 (v := .slice pA ps.length pc) rfl; have p3 := BP.cell 3 (v := .int .i64 v0) rfl; have p4 := BP.cell 4 (v := .int .i64 v1) rfl; have p5 := BP.cell 5 (v := .slice hA hs.length hc) rfl; have p6 := BP.cell 6 (v := .int .i64 mo) rfl
      have i0 := BI.cell 0 (v := .int .i64 f) rfl; have i1 := BI.cell 1 (v := .int .i64 u) rfl
      obtain ⟨Z1, hZ1⟩ : ∃ Y, wm.alloc (.cells #[.int .i64 f, .int .i64 u] 26) = Y := ⟨_, rfl⟩
      have z1 : Z1.heap.size = wm.heap.size + 1 := by rw [← hZ1]; simp
      obtain ⟨Z2, hZ2⟩ : ∃ Y, Z1.alloc (.cells #[.int .i64 v0, .int .i64 v1] 26) = Y := ⟨_, rfl⟩
      have C1 : Blk Z2 wm.heap.size #[.int .i64 f, .int .i64 u] 26 := by rw [← hZ2, ← hZ1]; exact (Blk.new _ _ _).alloc _
      have C2 : Blk Z2 (wm.heap.size + 1) #[.int .i64 v0, .int .i64 v1] 26 := by rw [← hZ2, ← z1]; exact Blk.new _ _ _
      have hbn : Below wm.heap.size wm Z2 := by rw [← hZ2, ← hZ1]; exact ((Below.refl _ _).al _).al _
      have B1 : Blk Z1 w.heap.size #[.string nm, .string zn, .slice pA ps.length pc, .int .i64 v0, .int .i64 v1, .slice hA hs.length hc, .int .i64 mo] 31 := by rw [← hZ1]; exact BP.alloc _
      have g3 := B1.cell 3 (v := .int .i64 v0) rfl
      have g4 := B1.cell 4 (v := .int .i64 v1) rfl
      clear B1
      have bW := bW.st hbn; have BP := BP.below hbn BP.lt
      have p0 := BP.cell 0 (v := .string nm) rfl; have p1 := BP.cell 1 (v := .string zn) rfl; have p2 := BP.cell 2 (v := .slice pA ps.length pc) rfl; have p3 := BP.cell 3 (v := .int .i64 v0) rfl; have p4 := BP.cell 4 (v := .int .i64 v1) rfl; have p5 := BP.cell 5 (v := .slice hA hs.length hc) rfl; have p6 := BP.cell 6 (v := .int .i64 mo) rfl
      go_wp2_with fail
      refine (CM.out _ _ _ C1 C2).mono ?_
      rintro e w4 ⟨A4, c4, n4, rfl, nf4, hm4, ho4, hbn⟩
      have HN4 := Lib.hid nf4
      have HM4 := Lib.hid hm4
      clear nf4 hm4
      have bW := bW.st hbn; have BP := BP.below hbn BP.lt
      have p0 := BP.cell 0 (v := .string nm) rfl; have p1 := BP.cell 1 (v := .string zn) rfl; have p2 := BP.cell 2 (v := .slice pA ps.length pc) rfl; have p3 := BP.cell 3 (v := .int .i64 v0) rfl; have p4 := BP.cell 4 (v := .int .i64 v1) rfl; have p5 := BP.cell 5 (v := .slice hA hs.length hc) rfl; have p6 := BP.cell 6 (v := .int .i64 mo) rfl
      go_wp2_with fail
      go_ret2
      exact ⟨A4, c4, n4, rfl, HN4.out, fun t => (HM4.out t).trans (R.out t), ho4.rd encIv_ok, bW⟩
    · have R := Lib.hid (RHRS.out hz)
      have hzb : ((hs.length : Int) == 0) = false := by simp only [beq_eq_false_iff_ne, ne_eq]; omega
      clear hz RALL RHRS
      go_enter Try.func6, Try.ntmps6
      go_wp2_with fail
      refine (CS.out _ _ _ _).mono ?_
      rintro e wn ⟨A0, c0, n0, rfl, -, -, -, -, hbn⟩
      have bW := bW.st hbn; have BP := BP.below hbn BP.lt
      have BI := BI.below hbn BI.lt
      have p0 := BP.cell 0 (v := .string nm) rfl; have p1 := BP.cell 1 (v := .string zn) rfl; have p2 := BP.cell 2 (v := .slice pA ps.length pc) rfl; have p3 := BP.cell 3 (v := .int .i64 v0) rfl; have p4 := BP.cell 4 (v := .int .i64 v1) rfl; have p5 := BP.cell 5 (v := .slice hA hs.length hc) rfl; have p6 := BP.cell 6 (v := .int .i64 mo) rfl
      have i0 := BI.cell 0 (v := .int .i64 f) rfl; have i1 := BI.cell 1 (v := .int .i64 u) rfl
      go_wp2_with fail
      refine (CL.out _ bW).mono ?_
      rintro e wm ⟨rfl, hbn⟩
      have bW := bW.st hbn; have BP := BP.below hbn BP.lt
      have BI := BI.below hbn BI.lt
      have p0 := BP.cell 0 (v := .string nm) rfl; have p1 := BP.cell 1 (v := .string zn) rfl; have p2 := BP.cell 2 (v := .slice pA ps.length pc) rfl; have p3 := BP.cell 3 (v := .int .i64 v0) rfl; have p4 := BP.cell 4 (v := .int .i64 v1) rfl; have p5 := BP.cell 5 (v := .slice hA hs.length hc) rfl; have p6 := BP.cell 6 (v := .int .i64 mo) rfl
      have i0 := BI.cell 0 (v := .int .i64 f) rfl; have i1 := BI.cell 1 (v := .int .i64 u) rfl
      obtain ⟨Z1, hZ1⟩ : ∃ Y, wm.alloc (.cells #[.int .i64 f, .int .i64 u] 26) = Y := ⟨_, rfl⟩
      have z1 : Z1.heap.size = wm.heap.size + 1 := by rw [← hZ1]; simp
      obtain ⟨Z2, hZ2⟩ : ∃ Y, Z1.alloc (.cells #[.int .i64 v0, .int .i64 v1] 26) = Y := ⟨_, rfl⟩
      have C1 : Blk Z2 wm.heap.size #[.int .i64 f, .int .i64 u] 26 := by rw [← hZ2, ← hZ1]; exact (Blk.new _ _ _).alloc _
      have C2 : Blk Z2 (wm.heap.size + 1) #[.int .i64 v0, .int .i64 v1] 26 := by rw [← hZ2, ← z1]; exact Blk.new _ _ _
      have hbn : Below wm.heap.size wm Z2 := by rw [← hZ2, ← hZ1]; exact ((Below.refl _ _).al _).al _
      have B1 : Blk Z1 w.heap.size #[.string nm, .string zn, .slice pA ps.length pc, .int .i64 v0, .int .i64 v1, .slice hA hs.length hc, .int .i64 mo] 31 := by rw [← hZ1]; exact BP.alloc _
      have g3 := B1.cell 3 (v := .int .i64 v0) rfl
      have g4 := B1.cell 4 (v := .int .i64 v1) rfl
      clear B1
      have bW := bW.st hbn; have BP := BP.below hbn BP.lt
      have BI := BI.below hbn BI.lt
      have p0 := BP.cell 0 (v := .string nm) rfl; have p1 := BP.cell 1 (v := .string zn) rfl; have p2 := BP.cell 2 (v := .slice pA ps.length pc) rfl; have p3 := BP.cell 3 (v := .int .i64 v0) rfl; have p4 := BP.cell 4 (v := .int .i64 v1) rfl; have p5 := BP.cell 5 (v := .slice hA hs.length hc) rfl; have p6 := BP.cell 6 (v := .int .i64 mo) rfl
      have i0 := BI.cell 0 (v := .int .i64 f) rfl; have i1 := BI.cell 1 (v := .int .i64 u) rfl
      go_wp2_with fail
      refine (CM.out _ _ _ C1 C2).mono ?_
      rintro e w4 ⟨A4, c4, n4, rfl, nf4, hm4, ho4, hbn⟩
      have HN4 := Lib.hid nf4
      have HM4 := Lib.hid hm4
      have HO4 := Lib.hid (ho4.rd encIv_ok)
      have b4 := Lib.hid (Below.refl w4.heap.size w4)
      have bW := bW.st hbn; have BP := BP.below hbn BP.lt
      have BI := BI.below hbn BI.lt
      have p0 := BP.cell 0 (v := .string nm) rfl; have p1 := BP.cell 1 (v := .string zn) rfl; have p2 := BP.cell 2 (v := .slice pA ps.length pc) rfl; have p3 := BP.cell 3 (v := .int .i64 v0) rfl; have p4 := BP.cell 4 (v := .int .i64 v1) rfl; have p5 := BP.cell 5 (v := .slice hA hs.length hc) rfl; have p6 := BP.cell 6 (v := .int .i64 mo) rfl
      have i0 := BI.cell 0 (v := .int .i64 f) rfl; have i1 := BI.cell 1 (v := .int .i64 u) rfl
      have BI4 := Lib.hid BI
      clear nf4 hm4 ho4
      go_wp2_with fail
      clear CL CM C1 C2 z1 hZ1 hZ2 hY hY1 s1 p0 p1 p2 p3 p4 p5 p6 g3 g4 i0 i1 BI BP
      go_loopw [11, 43] (fun o i wr => ∃ (k : Nat) (A : Option Addr) (c : Nat) (n : List Iv), k ≤ hs.length ∧ o = .slice A n.length c ∧ i = .int .i64 k ∧ Hid (NF n) ∧ Hid (∀ t, Mem n t ↔ ∃ x ∈ hs.take k, Sw x (f, u) t) ∧ Rd encIv 2 wr wr.heap.size A n ∧ Below w4.heap.size w4 wr) (fun _ i _ => hs.length - (RowKit.intOf i).toNat)
      case atStart => exact ⟨0, none, 0, [], Nat.zero_le _, rfl, rfl, Lib.hid NF.nil, (by unfold Hid; simp [Mem.nil]), Rd.nil, b4.out⟩
      case round =>
        obtain ⟨k, A5, c5, n5, hk, rfl, rfl, HN5, HM5, HR5, hb5⟩ := hrel
        by_cases hi : k < hs.length
        · obtain ⟨b, off, x, y, z, hA1, hb, hx, d0, d1, d2⟩ := (H.out.st (bW.st hb5)).w3 hi
          have HK := Lib.hid hi
          have RS := Lib.hid (RSU.out k _ hx)
          subst hA1
          have BI := BI4.out.below hb5 BI4.out.lt
          obtain ⟨Y5, hY5⟩ : ∃ Y, wr.alloc (.cells #[.int .i64 x, .int .i64 y, .int .i64 z] 42) = Y := ⟨_, rfl⟩
          have B5 : Blk Y5 wr.heap.size #[.int .i64 x, .int .i64 y, .int .i64 z] 42 := by rw [← hY5]; exact Blk.new _ _ _
          have hbn : Below wr.heap.size wr Y5 := by rw [← hY5]; exact (Below.refl _ _).al _
          have BI := BI.below hbn BI.lt
          have HR5 := HR5.st hbn
          have bW5 := hb5.st hbn
          have x0 := B5.cell 0 (v := .int .i64 x) rfl
          have x1 := B5.cell 1 (v := .int .i64 y) rfl
          have x2 := B5.cell 2 (v := .int .i64 z) rfl
          have i0 := BI.cell 0 (v := .int .i64 f) rfl; have i1 := BI.cell 1 (v := .int .i64 u) rfl
          clear hx hi hbn hb5
          go_wp2_with fail
          refine (CS.out _ _ _ _).mono ?_
          rintro e w6 ⟨A6, c6, n6, rfl, nf6, hm6, -, ho6, hbn⟩
          have HN6 := Lib.hid nf6
          have HM6 := Lib.hid hm6
          have HR5 := HR5.st hbn
          have HR6 := ho6.rd encIv_ok
          have bW6 := bW5.st hbn
          clear nf6 hm6 ho6 bW5 hbn
          go_wp2_with fail
          refine (CU.out _ _ c5 c6 _ _ _ HR5 HR6 HN5.out HN6.out).mono ?_
          rintro e w7 ⟨A7, c7, n7, rfl, nf7, hm7, ho7, hbn⟩
          have HN7 := Lib.hid nf7
          have HM7 := Lib.hid hm7
          have HR7 := ho7.rd encIv_ok
          have bW7 := bW6.st hbn
          clear nf7 hm7 ho7 bW6 hbn
          go_wp2_with fail
          go_roundw
          case rel => exact ⟨k + 1, A7, c7, n7, HK.out, rfl, by go_num, HN7, Lib.hid (fun t => (HM7.out t).trans (Iff.trans (or_congr (HM5.out t) (HM6.out t)) (RS.out t))), HR7, bW7⟩
          case measure => have := HK.out; simp [RowKit.intOf]; omega
        · obtain rfl : k = hs.length := by omega
          have HR4 := HO4.out.st hb5
          go_wp2_with fail
          refine (CMM.out _ _ c4 c5 _ _ _ HR4 HR5 HN4.out HN5.out).mono ?_
          rintro e w7 ⟨A7, c7, n7, rfl, nf7, hm7, ho7, hbn⟩
          have HN7 := Lib.hid nf7
          have HM7 := Lib.hid hm7
          have HR7 := ho7.rd encIv_ok
          have bW7 := (bW.st hb5).st hbn
          clear nf7 hm7 ho7 hbn
          go_wp2_with fail
          go_ret2
          exact ⟨A7, c7, n7, rfl, HN7.out, fun t => (HM7.out t).trans ((and_congr (HM4.out t) (HM5.out t)).trans (R.out t)), HR7, bW7⟩
end Go.Proofs.Ytbeoopofckbijaa
