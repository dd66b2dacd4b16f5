/- The laws SpanAlgebra, SpanCovers of chapter 05, walked. -/
import Derived.Test.YtkipbmcahkacmaaSpanLaw1
namespace Go.Proofs.Ytkipbmcahkacmaa
open Go.RowKit Go.Lib

theorem lenF_secs (M : Nat) (hM : (M : Int) = 68719476736) (l : List Iv) : lenF l = secs M l := by
  unfold lenF
  have hc := combL_holds l [] 1
  rw [len_secs M hM hc.1]
  exact secs_congr M fun t => by rw [hc.2]; simp [In, Mem.nil]
theorem lenF_bounds (l : List Iv) : 0 ≤ lenF l ∧ lenF l ≤ 68719476736 := len_bounds (combL_holds l [] 1).1
theorem lenF_add {a b u m : List Iv} (hu : ∀ t, Mem u t ↔ Mem a t ∨ Mem b t) (hm : ∀ t, Mem m t ↔ Mem a t ∧ Mem b t) : lenF a + lenF b = lenF u + lenF m := by
  obtain ⟨M, hM⟩ : ∃ M : Nat, (M : Int) = 68719476736 := ⟨68719476736, rfl⟩
  simp only [lenF_secs M hM]
  exact secs_add M hu hm
theorem lenF_split {a m d : List Iv} {b : List Iv} (hm : ∀ t, Mem m t ↔ Mem a t ∧ Mem b t) (hd : ∀ t, Mem d t ↔ Mem a t ∧ ¬ Mem b t) : lenF d + lenF m = lenF a := by
  obtain ⟨M, hM⟩ : ∃ M : Nat, (M : Int) = 68719476736 := ⟨68719476736, rfl⟩
  simp only [lenF_secs M hM]
  have h1 := secs_add M (a := d) (b := m) (u := a) (m := []) (fun t => by
    rw [hd, hm]
    constructor
    · intro h
      rcases Classical.em (Mem b t) with k | k
      · exact .inr ⟨h, k⟩
      · exact .inl ⟨h, k⟩
    · rintro (h | h) <;> exact h.1) (fun t => by
    rw [hd, hm]
    simp only [Mem.nil, false_iff]
    rintro ⟨h1, h2⟩
    exact h1.2 h2.2)
  rw [secs_empty M Mem.nil] at h1
  omega

set_option maxHeartbeats 4000000 in
theorem spanAlgebra_walk {A B : Option Addr} (c d : Nat) {a b : List Iv} {w : World} (ha : Rd encIv 2 w w.heap.size A a) (hb : Rd encIv 2 w w.heap.size B b) (hbiga : a.length ≤ 9223372036854775807) (hbigb : b.length ≤ 9223372036854775807) :
    Calls Try.prog 7 #[.slice A a.length c, .slice B b.length d] w fun e w' => e = .returned (.bool true) ∧ Below w.heap.size w w' := by
  by_cases hla : a.length ≤ 60
  · by_cases hlb : b.length ≤ 60
    · go_enter Try.func7, Try.ntmps7
      go_wp2_with fail
      refine (union_any c d ha hb (by omega) (by omega)).mono ?_
      rintro e w1 ⟨A1, c1, u, rfl, hnu, hmu, ho1, hb1⟩
      replace ha := ha.st hb1
      replace hb := hb.st hb1
      have ru := ho1.rd encIv_ok
      go_wp2_with fail
      refine (meet_any c d ha hb (by omega) (by omega)).mono ?_
      rintro e w2 ⟨A2, c2, m, rfl, hnm, hmm, ho2, hb2⟩
      have b2 := Below.st hb1 hb2
      replace ha := ha.st hb2
      replace hb := hb.st hb2
      replace ru := ru.st hb2
      have rm := ho2.rd encIv_ok
      clear ho1 ho2 hb1 hb2
      go_wp2_with fail
      refine (minus_any c d ha hb (by omega) (by omega)).mono ?_
      rintro e w3 ⟨A3, c3, df, rfl, hnd, hmd, ho3, hb3⟩
      have b3 := Below.st b2 hb3
      replace ha := ha.st hb3
      replace hb := hb.st hb3
      replace ru := ru.st hb3
      replace rm := rm.st hb3
      have rd := ho3.rd encIv_ok
      have hlu := hnu.length_max
      have hlm := hnm.length_max
      have hld := hnd.length_max
      have HU := Lib.hid hmu
      have HM := Lib.hid hmm
      have HD := Lib.hid hmd
      have HNU := Lib.hid hnu
      have HNM := Lib.hid hnm
      have HND := Lib.hid hnd
      clear ho3 hb3 b2 hmu hmm hmd hnu hnm hnd
      have bda := lenF_bounds a
      have bdb := lenF_bounds b
      have bdu := lenF_bounds u
      have bdm := lenF_bounds m
      have bdd := lenF_bounds df
      obtain ⟨bda1, bda2⟩ := bda
      obtain ⟨bdb1, bdb2⟩ := bdb
      obtain ⟨bdu1, bdu2⟩ := bdu
      obtain ⟨bdm1, bdm2⟩ := bdm
      obtain ⟨bdd1, bdd2⟩ := bdd
      have s1 := lenF_add HU.out HM.out
      have s2 := lenF_split HM.out HD.out
      generalize hLa : lenF a = La at *
      generalize hLb : lenF b = Lb at *
      generalize hLu : lenF u = Lu at *
      generalize hLm : lenF m = Lm at *
      generalize hLd : lenF df = Ld at *
      have t1 : ((La + Lb : Int) != Lu + Lm) = false := by simp; omega
      have t2 : ((Ld + Lm : Int) != La) = false := by simp; omega
      have HLa := Lib.hid hLa
      have HLb := Lib.hid hLb
      have HLu := Lib.hid hLu
      have HLm := Lib.hid hLm
      have HLd := Lib.hid hLd
      clear s1 s2 hLa hLb hLu hLm hLd
      go_wp2_with fail
      refine (length_fn c ha (by omega)).mono ?_
      rw [HLa.out]
      rintro e w4 ⟨rfl, hb4⟩
      have b4 := Below.st b3 hb4
      replace ha := ha.st hb4
      replace hb := hb.st hb4
      replace ru := ru.st hb4
      replace rm := rm.st hb4
      replace rd := rd.st hb4
      clear hb4
      go_wp2_with fail
      refine (length_fn d hb (by omega)).mono ?_
      rw [HLb.out]
      rintro e w5 ⟨rfl, hb5⟩
      have b5 := Below.st b4 hb5
      replace ha := ha.st hb5
      replace hb := hb.st hb5
      replace ru := ru.st hb5
      replace rm := rm.st hb5
      replace rd := rd.st hb5
      clear hb5
      go_wp2_with fail
      refine (length_fn c1 ru (by omega)).mono ?_
      rw [HLu.out]
      rintro e w6 ⟨rfl, hb6⟩
      have b6 := Below.st b5 hb6
      replace ha := ha.st hb6
      replace hb := hb.st hb6
      replace ru := ru.st hb6
      replace rm := rm.st hb6
      replace rd := rd.st hb6
      clear hb6
      go_wp2_with fail
      refine (length_fn c2 rm (by omega)).mono ?_
      rw [HLm.out]
      rintro e w7 ⟨rfl, hb7⟩
      have b7 := Below.st b6 hb7
      replace ha := ha.st hb7
      replace hb := hb.st hb7
      replace ru := ru.st hb7
      replace rm := rm.st hb7
      replace rd := rd.st hb7
      clear hb7
      go_wp2_with fail
      refine (length_fn c3 rd (by omega)).mono ?_
      rw [HLd.out]
      rintro e w8 ⟨rfl, hb8⟩
      have b8 := Below.st b7 hb8
      replace ha := ha.st hb8
      replace hb := hb.st hb8
      replace ru := ru.st hb8
      replace rm := rm.st hb8
      replace rd := rd.st hb8
      clear hb8
      go_wp2_with fail
      refine (length_fn c2 rm (by omega)).mono ?_
      rw [HLm.out]
      rintro e w9 ⟨rfl, hb9⟩
      have b9 := Below.st b8 hb9
      replace ha := ha.st hb9
      replace hb := hb.st hb9
      replace ru := ru.st hb9
      replace rm := rm.st hb9
      replace rd := rd.st hb9
      clear hb9
      go_wp2_with fail
      refine (length_fn c ha (by omega)).mono ?_
      rw [HLa.out]
      rintro e w10 ⟨rfl, hb10⟩
      have b10 := Below.st b9 hb10
      replace ha := ha.st hb10
      replace hb := hb.st hb10
      replace ru := ru.st hb10
      replace rm := rm.st hb10
      replace rd := rd.st hb10
      clear hb10
      go_wp2_with fail
      refine (meet_any c3 c2 rd rm (by omega) (by omega)).mono ?_
      rintro e w11 ⟨A11, c11, n, rfl, hn, hm, ho11, hb11⟩
      have b11 := Below.st b10 hb11
      replace ha := ha.st hb11
      replace hb := hb.st hb11
      replace ru := ru.st hb11
      replace rm := rm.st hb11
      replace rd := rd.st hb11
      obtain rfl : n = [] := hn.empty_iff.2 fun t ht => by have h9 := (hm t).1 ht; have h8 := h9.1; have h7 := h9.2; rw [HD.out] at h8; rw [HM.out] at h7; exact h8.2 h7.2
      clear hm hn ho11 hb11
      go_wp2_with fail
      refine (meet_any c3 d rd hb (by omega) (by omega)).mono ?_
      rintro e w12 ⟨A12, c12, n, rfl, hn, hm, ho12, hb12⟩
      have b12 := Below.st b11 hb12
      replace ha := ha.st hb12
      replace hb := hb.st hb12
      replace ru := ru.st hb12
      replace rm := rm.st hb12
      replace rd := rd.st hb12
      obtain rfl : n = [] := hn.empty_iff.2 fun t ht => by have h9 := (hm t).1 ht; have h8 := h9.1; have h7 := h9.2; rw [HD.out] at h8; exact h8.2 h7
      clear hm hn ho12 hb12
      go_wp2_with fail
      refine (union_any c3 c2 rd rm (by omega) (by omega)).mono ?_
      rintro e w13 ⟨A13, c13, n, rfl, hn, hm, ho13, hb13⟩
      have b13 := Below.st b12 hb13
      replace ha := ha.st hb13
      replace hb := hb.st hb13
      replace ru := ru.st hb13
      replace rm := rm.st hb13
      replace rd := rd.st hb13
      have rn := ho13.rd encIv_ok
      clear ho13 hb13
      have HNN := Lib.hid hn
      have HMN := Lib.hid hm
      have hln := hn.length_max
      clear hn hm
      go_wp2_with fail
      refine (normal_any c ha (by omega)).mono ?_
      rintro e w14 ⟨A14, c14, n2, rfl, hn, hm, ho14, hb14⟩
      have b14 := Below.st b13 hb14
      replace ha := ha.st hb14
      replace hb := hb.st hb14
      replace ru := ru.st hb14
      replace rm := rm.st hb14
      replace rd := rd.st hb14
      replace rn := rn.st hb14
      obtain rfl : n = n2 := HNN.out.unique hn fun t => by
        rw [HMN.out, hm, HD.out, HM.out]
        rcases Classical.em (Mem b t) with k | k <;> simp [k]
      have rq := ho14.rd encIv_ok
      clear hn hm ho14 hb14
      go_wp2_with fail
      refine (same_true c13 c14 rn rq (by omega) rfl).mono ?_
      rintro e w15 ⟨rfl, hb15⟩
      have b15 := Below.st b14 hb15
      replace ha := ha.st hb15
      replace hb := hb.st hb15
      replace ru := ru.st hb15
      replace rm := rm.st hb15
      replace rd := rd.st hb15
      replace rn := rn.st hb15
      replace rq := rq.st hb15
      clear hb15
      clear rn rq HNN HMN hln
      go_wp2_with fail
      refine (union_any d c hb ha (by omega) (by omega)).mono ?_
      rintro e w16 ⟨A16, c16, n, rfl, hn, hm, ho16, hb16⟩
      have b16 := Below.st b15 hb16
      replace ha := ha.st hb16
      replace hb := hb.st hb16
      replace ru := ru.st hb16
      replace rm := rm.st hb16
      replace rd := rd.st hb16
      obtain rfl : u = n := (hn.unique HNU.out fun t => by rw [hm, HU.out, Or.comm]).symm
      have rn := ho16.rd encIv_ok
      clear hm hn ho16 hb16
      go_wp2_with fail
      refine (same_true c16 c1 rn ru (by omega) rfl).mono ?_
      rintro e w17 ⟨rfl, hb17⟩
      have b17 := Below.st b16 hb17
      replace ha := ha.st hb17
      replace hb := hb.st hb17
      replace ru := ru.st hb17
      replace rm := rm.st hb17
      replace rd := rd.st hb17
      replace rn := rn.st hb17
      clear hb17
      clear rn
      go_wp2_with fail
      refine (meet_any d c hb ha (by omega) (by omega)).mono ?_
      rintro e w18 ⟨A18, c18, n, rfl, hn, hm, ho18, hb18⟩
      have b18 := Below.st b17 hb18
      replace ha := ha.st hb18
      replace hb := hb.st hb18
      replace ru := ru.st hb18
      replace rm := rm.st hb18
      replace rd := rd.st hb18
      obtain rfl : m = n := (hn.unique HNM.out fun t => by rw [hm, HM.out, And.comm]).symm
      have rn := ho18.rd encIv_ok
      clear hm hn ho18 hb18
      go_wp2_with fail
      refine (same_true c18 c2 rn rm (by omega) rfl).mono ?_
      rintro e w19 ⟨rfl, hb19⟩
      have b19 := Below.st b18 hb19
      replace ha := ha.st hb19
      replace hb := hb.st hb19
      replace ru := ru.st hb19
      replace rm := rm.st hb19
      replace rd := rd.st hb19
      replace rn := rn.st hb19
      clear hb19
      clear rn
      go_wp2_with fail
      refine (union_any c3 d rd hb (by omega) (by omega)).mono ?_
      rintro e w20 ⟨A20, c20, n, rfl, hn, hm, ho20, hb20⟩
      have b20 := Below.st b19 hb20
      replace ha := ha.st hb20
      replace hb := hb.st hb20
      replace ru := ru.st hb20
      replace rm := rm.st hb20
      replace rd := rd.st hb20
      obtain rfl : u = n := (hn.unique HNU.out fun t => by rw [hm, HU.out]; simp only [HD.out]; rcases Classical.em (Mem b t) with k | k <;> simp [k]).symm
      have rn := ho20.rd encIv_ok
      clear hm hn ho20 hb20
      go_wp2_with fail
      refine (same_true c20 c1 rn ru (by omega) rfl).mono ?_
      rintro e w21 ⟨rfl, hb21⟩
      have b21 := Below.st b20 hb21
      replace ha := ha.st hb21
      replace hb := hb.st hb21
      replace ru := ru.st hb21
      replace rm := rm.st hb21
      replace rd := rd.st hb21
      replace rn := rn.st hb21
      clear hb21
      clear rn
      go_wp2_with fail
      refine (alive_any w21).mono ?_
      rintro e w22 ⟨rfl, hb22⟩
      have b22 := Below.st b21 hb22
      go_wp2_with fail
      go_ret
      exact ⟨rfl, b22⟩
    · clear ha hb
      go_enter Try.func7, Try.ntmps7
      go_wp2
      go_ret
      exact ⟨rfl, Below.refl _ _⟩
  · clear ha hb
    go_enter Try.func7, Try.ntmps7
    go_wp2
    go_ret
    exact ⟨rfl, Below.refl _ _⟩

/-- a boxed interval, still there -/
def BoxIv (w : World) (b : Nat) (f u : Int) : Prop := b < w.heap.size ∧ w.cell? ⟨b, 0, none⟩ = some (.int .i64 f) ∧ w.cell? ⟨b, 1, none⟩ = some (.int .i64 u)
theorem BoxIv.st {w w' : World} {b : Nat} {f u : Int} (h : BoxIv w b f u) (hb : Below w.heap.size w w') : BoxIv w' b f u :=
  ⟨Nat.lt_of_lt_of_le h.1 hb.size, (hb.cell (p := ⟨b, 0, none⟩) h.1).trans h.2.1, (hb.cell (p := ⟨b, 1, none⟩) h.1).trans h.2.2⟩
theorem covF_iff (l : List Iv) (i : Iv) : covF l i = true ↔ vld i ∧ ∀ t, i.1 ≤ t → t < i.2 → Mem l t := by simp [covF]
theorem covF_no {l : List Iv} {f u : Int} (h : validB f u = false) : covF l (f, u) = false := by
  have : ¬ vld (f, u) := fun k => by rw [(validB_iff f u).2 k] at h; cases h
  unfold covF
  simp [this]
theorem covF_minus {l n : List Iv} {f u : Int} (hv : vld (f, u)) (hn : NF n) (hm : ∀ t, Mem n t ↔ Mem [((f, u) : Iv)] t ∧ ¬ Mem l t) : (covF l (f, u) = true ↔ n = []) := by
  rw [covF_iff, hn.empty_iff]
  constructor
  · rintro ⟨_, h2⟩ t h3
    have h4 := (hm t).1 h3
    rw [Mem.cons] at h4
    rcases h4.1 with ⟨_, a, b⟩ | k
    · exact h4.2 (h2 t a b)
    · exact Mem.nil t k
  · intro h1
    refine ⟨hv, fun t a b => ?_⟩
    rcases Classical.em (Mem l t) with k | k
    · exact k
    · exact absurd ((hm t).2 ⟨(Mem.cons _ _ _).2 (.inl ⟨hv, a, b⟩), k⟩) (h1 t)
theorem covF_has {l : List Iv} {f u : Int} (h : covF l (f, u) = true) {t : Int} (h1 : f ≤ t) (h2 : t < u) : hasB l t = true := by
  rw [covF_iff] at h
  exact (hasB_iff l t).2 (h.2 t h1 h2)

set_option maxHeartbeats 4000000 in
theorem spanCovers_walk {A : Option Addr} (c : Nat) {l : List Iv} (i : Iv) (a : Int) {w : World} (h : Rd encIv 2 w w.heap.size A l) (hbig : l.length ≤ 9223372036854775807) (ha1 : 0 ≤ a) (ha2 : a ≤ 65535) :
    Calls Try.prog 8 #[.slice A l.length c, .agg #[.int .i64 i.1, .int .i64 i.2], .int .u16 a] w fun e w' => e = .returned (.bool true) ∧ Below w.heap.size w w' := by
  obtain ⟨f, u⟩ := i
  simp only
  have b0 := (Below.refl w.heap.size w).al (.cells #[.int .i64 f, .int .i64 u] 25)
  have bx0 : BoxIv (w.alloc (.cells #[.int .i64 f, .int .i64 u] 25)) w.heap.size f u := ⟨by simp, by simp, by simp⟩
  by_cases hl : l.length ≤ 60
  · have r0 := h.st b0
    clear h
    go_enter Try.func8, Try.ntmps8
    go_wp2_with fail
    refine (covers_fn c f u r0 (by omega)).mono ?_
    rintro e w1 ⟨rfl, hb1⟩
    have b1 := Below.st b0 hb1
    replace r0 := r0.st hb1
    have bx1 := bx0.st hb1
    clear b0 bx0 hb1
    obtain ⟨z1, q1, q2⟩ := bx1
    cases hv : validB f u
    · have hc := covF_no (l := l) hv
      rw [hc]
      clear r0 hc
      go_wp2_with fail
      refine (rvalid_any f u w1).mono ?_
      rintro e w2 ⟨rfl, rfl⟩
      have b2 := b1.al (.cells #[.int .i64 f, .int .i64 u] 25)
      go_wp2_with fail
      refine (valid_any f u _).mono ?_
      rintro e w2 ⟨rfl, rfl⟩
      have b3 := b2.al (.cells #[.int .i64 f, .int .i64 u] 25)
      go_wp2_with fail
      refine (alive_any _).mono ?_
      rintro e w4 ⟨rfl, hb4⟩
      go_wp2_with fail
      go_ret
      exact ⟨rfl, b3.trans (hb4.mono b3.size)⟩
    · have hvl : vld (f, u) := (validB_iff f u).1 hv
      have HV := Lib.hid hvl
      unfold vld at hvl
      simp only at hvl
      obtain ⟨hv1, hv2, hv3⟩ := hvl
      have b2 := b1.al (.cells #[.int .i64 f, .int .i64 u] 25)
      have hz2 : (w1.alloc (.cells #[.int .i64 f, .int .i64 u] 25)).heap.size = w1.heap.size + 1 := by simp
      have b3 := b2.al (.cells #[.int .i64 f, .int .i64 u] 25)
      have hone := (Own.lit (e := 25) (w1.alloc (.cells #[.int .i64 f, .int .i64 u] 25)) 0 (cs := #[.int .i64 f, .int .i64 u]) [((f, u) : Iv)] encIv_ok rfl hz2 (Nat.zero_le _) (by simp)).rd encIv_ok
      have hst := ((Below.refl w1.heap.size w1).al (.cells #[.int .i64 f, .int .i64 u] 25)).al (.cells #[.int .i64 f, .int .i64 u] 25)
      have r3 := r0.st hst
      have bx3 := BoxIv.st ⟨z1, q1, q2⟩ hst
      have C := Lib.hid (minus_any 1 c hone r3 (by simp) (by omega))
      have R3 := Lib.hid r3
      have BX3 := Lib.hid bx3
      clear hone r3 r0 bx3 hst hz2
      generalize hcv : covF l (f, u) = cv
      have HCV := Lib.hid hcv
      clear hcv
      go_wp2_with fail
      refine (rvalid_any f u w1).mono ?_
      rintro e w2 ⟨rfl, rfl⟩
      go_wp2_with fail
      refine C.out.mono ?_
      rintro e w4 ⟨A4, c4, n, rfl, hn, hm, ho4, hb4⟩
      have b4 := Below.st b3 hb4
      have r4 := R3.out.st hb4
      obtain ⟨z4, p1, p2⟩ := BX3.out.st hb4
      have hcn := covF_minus HV.out hn hm
      rw [HCV.out] at hcn
      clear C R3 BX3 b1 b2 b3 hb4 ho4 hm z1 q1 q2
      have hpos : (0 : Int) < u - f := by omega
      have hm1 := Int.emod_nonneg a (show u - f ≠ 0 by omega)
      have hm2 := Int.emod_lt_of_pos a hpos
      cases cv
      · have hne : n ≠ [] := fun e => by have := hcn.2 e; cases this
        have hl0 : ((n.length : Int) == 0) = false := by
          cases n with
          | nil => exact absurd rfl hne
          | cons x n => simp; omega
        have e0 : a.tmod (u - f) = a % (u - f) := Int.tmod_eq_emod_of_nonneg ha1
        have e1 : IntKind.i64.wrap (u - f) = u - f := IntWalk.i64_in _ (by omega)
        have e2 : IntKind.i64.wrap a = a := IntWalk.i64_in _ (by omega)
        have e3 : IntKind.i64.wrap (a % (u - f)) = a % (u - f) := IntWalk.i64_in _ (by omega)
        have e4 : IntKind.i64.wrap (f + a % (u - f)) = f + a % (u - f) := IntWalk.i64_in _ (by omega)
        have e5 : ((u - f : Int) == 0) = false := by simp; omega
        have e6 : ¬ (u - f : Int) = 0 := by omega
        clear hcn hne hn
        go_wp2_with fail
        go_quiet (fail)
        clear e0 e1 e2 e3 e4 e5
        go_wp2_with fail
        refine (alive_any _).mono ?_
        rintro e w5 ⟨rfl, hb5⟩
        go_wp2_with fail
        go_ret
        exact ⟨rfl, (below_drewN b4 nq).trans (hb5.mono b4.size)⟩
      · have hne : n = [] := hcn.1 rfl
        subst hne
        have T1 := Lib.hid (covF_has HCV.out (t := f + a % (u - f)) (by omega) (by omega))
        have T2 := Lib.hid (covF_has HCV.out (t := f) (by omega) (by omega))
        have T3 := Lib.hid (covF_has HCV.out (t := u - 1) (by omega) (by omega))
        have e0 : a.tmod (u - f) = a % (u - f) := Int.tmod_eq_emod_of_nonneg ha1
        have e1 : IntKind.i64.wrap (u - f) = u - f := IntWalk.i64_in _ (by omega)
        have e2 : IntKind.i64.wrap a = a := IntWalk.i64_in _ (by omega)
        have e3 : IntKind.i64.wrap (a % (u - f)) = a % (u - f) := IntWalk.i64_in _ (by omega)
        have e4 : IntKind.i64.wrap (f + a % (u - f)) = f + a % (u - f) := IntWalk.i64_in _ (by omega)
        have e5 : ((u - f : Int) == 0) = false := by simp; omega
        have e6 : ¬ (u - f : Int) = 0 := by omega
        clear hcn hn
        go_wp2_with fail
        go_quiet (fail)
        clear e0 e1 e2 e3 e4 e5
        have r5 : Rd encIv 2 (w4.drewN nq) (w4.drewN nq).heap.size A l := r4
        have bx5 : BoxIv (w4.drewN nq) w.heap.size f u := ⟨z4, p1, p2⟩
        have b5 := below_drewN b4 nq
        clear r4 z4 p1 p2 b4
        go_wp2_with fail
        refine (has_true c (f + a % (u - f)) true r5 (by omega) T1.out).mono ?_
        rintro e w5 ⟨rfl, hb5⟩
        have r6 := r5.st hb5
        obtain ⟨z6, p6, q6⟩ := bx5.st hb5
        have b6 := Below.st b5 hb5
        clear b5 r5 bx5
        go_wp2_with fail
        refine (has_true c f true r6 (by omega) T2.out).mono ?_
        rintro e w6 ⟨rfl, hb6⟩
        have r7 := r6.st hb6
        obtain ⟨z7, p7, q7⟩ := BoxIv.st ⟨z6, p6, q6⟩ hb6
        have b7 := Below.st b6 hb6
        clear b6 r6 z6 p6 q6 hb5
        go_wp2_with fail
        refine (has_true c (u - 1) true r7 (by omega) T3.out).mono ?_
        rintro e w7 ⟨rfl, hb7⟩
        have b8 := Below.st b7 hb7
        go_wp2_with fail
        refine (alive_any _).mono ?_
        rintro e w8 ⟨rfl, hb8⟩
        go_wp2_with fail
        go_ret
        exact ⟨rfl, Below.st b8 hb8⟩
  · clear h
    go_enter Try.func8, Try.ntmps8
    go_wp2
    go_ret
    exact ⟨rfl, b0⟩
end Go.Proofs.Ytkipbmcahkacmaa
