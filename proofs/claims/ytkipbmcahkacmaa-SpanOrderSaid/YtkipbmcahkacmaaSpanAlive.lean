/- The examples of chapter 05 (alive), walked. -/
import Derived.Test.YtkipbmcahkacmaaSpanRef4
namespace Go.Proofs.Ytkipbmcahkacmaa
open Go.RowKit Go.Lib

theorem Own.st {α : Type} {e : Nat} {enc : α → List Value} {k : Nat} {w w' : World} {base : Nat} {A : Option Addr} {c : Nat} {l : List α} (h : Own e enc k w base A c l) (hb : Below w.heap.size w w') : Own e enc k w' base A c l := h.keep hb (Nat.le_refl _)
theorem Below.st {a b c : World} (h : Below a.heap.size a b) (k : Below b.heap.size b c) : Below a.heap.size a c := h.trans (k.mono h.size)

theorem mem_cons' (f u : Int) (l : List Iv) (t : Int) : Mem ((f, u) :: l) t ↔ ((0 ≤ f ∧ f < u ∧ u ≤ 68719476736) ∧ f ≤ t ∧ t < u) ∨ Mem l t := Mem.cons _ _ _
theorem mem_nil' (t : Int) : Mem [] t ↔ False := ⟨Mem.nil t, False.elim⟩
theorem same_true {A B : Option Addr} (c d : Nat) {a b : List Iv} {w : World} (ha : Rd encIv 2 w w.heap.size A a) (hb : Rd encIv 2 w w.heap.size B b) (hla : a.length ≤ 100000000000) (h : a = b) :
    Calls Try.prog 12 #[.slice A a.length c, .slice B b.length d] w fun e w' => e = .returned (.bool true) ∧ Below w.heap.size w w' := by
  have := rsame_any c d ha hb hla
  rwa [decide_eq_true h] at this
theorem has_true {A : Option Addr} (c : Nat) {l : List Iv} (t : Int) (r : Bool) {w : World} (h : Rd encIv 2 w w.heap.size A l) (hl : l.length ≤ 100000000000) (hr : hasB l t = r) :
    Calls Try.prog 24 #[.slice A l.length c, .int .i64 t] w fun e w' => e = .returned (.bool r) ∧ Below w.heap.size w w' := by
  have := has_any c t h hl
  rwa [hr] at this
theorem covers_is {A : Option Addr} (c : Nat) {l : List Iv} (i : Iv) (r : Bool) {w : World} (h : Rd encIv 2 w w.heap.size A l) (hl : l.length ≤ 100000000000) (hr : (vld i ∧ ∀ t, i.1 ≤ t → t < i.2 → Mem l t) ↔ r = true) :
    Calls Try.prog 26 #[.slice A l.length c, .agg #[.int .i64 i.1, .int .i64 i.2]] w fun e w' => e = .returned (.bool r) ∧ Below w.heap.size w w' := by
  refine (covers_any c i h hl).mono ?_
  rintro e w' ⟨b, rfl, hb, hbel⟩
  exact ⟨ret_bool (by rw [Bool.eq_iff_iff, hb, hr]), hbel⟩
theorem length_is {A : Option Addr} (c : Nat) {l m : List Iv} {w : World} (h : Rd encIv 2 w w.heap.size A l) (hl : l.length ≤ 100000000000) (hm : NF m) (hlm : ∀ t, Mem l t ↔ Mem m t) :
    Calls Try.prog 22 #[.slice A l.length c] w fun e w' => e = .returned (.int .i64 (len m)) ∧ Below w.heap.size w w' := by
  refine (length_any c h hl).mono ?_
  rintro e w' ⟨n, rfl, hn, hnl, hbel⟩
  rw [hn.unique hm fun t => (hnl t).trans (hlm t)]
  exact ⟨rfl, hbel⟩

theorem one_any (f u : Int) (w : World) :
    Calls Try.prog 28 #[.int .i64 f, .int .i64 u] w fun e w' => ∃ A c, e = .returned (.slice A 1 c) ∧ Own 25 encIv 2 w' w.heap.size A c [((f, u) : Iv)] ∧ Below w.heap.size w w' := by
  have h1 := Own.lit (e := 25) w w.heap.size (cs := #[.int .i64 f, .int .i64 u]) [((f, u) : Iv)] encIv_ok rfl rfl (Nat.le_refl _) (by simp)
  have h2 := (Below.refl w.heap.size w).al (.cells #[.int .i64 f, .int .i64 u] 25)
  go_enter Try.func28, Try.ntmps28
  go_wp2
  go_ret
  exact ⟨_, _, rfl, h1, h2⟩
theorem two_any (a b c d : Int) (w : World) :
    Calls Try.prog 32 #[.int .i64 a, .int .i64 b, .int .i64 c, .int .i64 d] w fun e w' => ∃ A c', e = .returned (.slice A 2 c') ∧ Own 25 encIv 2 w' w.heap.size A c' [((a, b) : Iv), ((c, d) : Iv)] ∧ Below w.heap.size w w' := by
  go_enter Try.func32, Try.ntmps32
  go_wp2_with fail
  refine (one_any a b w).mono ?_
  rintro e w1 ⟨A1, c1, rfl, ho1, hb1⟩
  go_wp2_with fail
  refine (one_any c d w1).mono ?_
  rintro e w2 ⟨A2, c2, rfl, ho2, hb2⟩
  have ho3 := ho1.st hb2
  have hb3 := Below.st hb1 hb2
  go_wp2_with (at_builtin; refine wpList_appS rfl (.tmp 11) (.tmp 14) tyIv encIv_ok rfl _ rfl (by first | rfl | simp) ho3 [((c, d) : Iv)] rfl (by first | rfl | simp) (ho2.rd encIv_ok) (by first | omega | (simp; done) | (simp; omega)) (by first | omega | (simp; done) | (simp; omega)) hb3.size ?_; intro A4 c4 w4 hown4 hb4 hs4 hf4)
  go_ret
  exact ⟨A4, c4, rfl, hown4, hb3.trans hb4⟩

set_option maxHeartbeats 4000000 in
theorem alive_any (w : World) : Calls Try.prog 15 #[] w fun e w' => e = .returned (.bool true) ∧ Below w.heap.size w w' := by
  go_enter Try.func15, Try.ntmps15
  go_wp2_with fail
  refine (two_any 5 9 1 3 w).mono ?_
  rintro e w1 ⟨A1, c1, rfl, ho1, hb1⟩
  go_wp2_with fail
  refine (two_any 3 5 7 7 w1).mono ?_
  rintro e w2 ⟨A2, c2, rfl, ho2, hb2⟩
  have ho3 := ho1.st hb2
  have hb3 := Below.st hb1 hb2
  go_wp2_with (at_builtin; refine wpList_appS rfl (.tmp 2) (.tmp 3) tyIv encIv_ok rfl _ rfl (by first | rfl | simp) ho3 [((3, 5) : Iv), ((7, 7) : Iv)] rfl (by first | rfl | simp) (ho2.rd encIv_ok) (by first | omega | (simp; done) | (simp; omega)) (by first | omega | (simp; done) | (simp; omega)) hb3.size ?_; intro A4 c4 w4 hown4 hb4 hs4 hf4)
  have b4 := hb3.trans hb4
  have r4 := hown4.rd encIv_ok
  clear hb1 hb2 hb3 hb4 ho1 ho2 ho3 hown4
  refine (normal_any c4 r4 (by simp)).mono ?_
  rintro e w5 ⟨A5, c5, n, rfl, hn, hm, ho5, hb5⟩
  obtain rfl : n = [((1, 9) : Iv)] := hn.unique (by refine ⟨?_, ?_⟩ <;> simp [vld]) fun t => by rw [hm]; simp [mem_cons', mem_nil']; omega
  have b5 := Below.st b4 hb5
  clear hm hn r4
  go_wp2_with fail
  refine (one_any 1 9 w5).mono ?_
  rintro e w6 ⟨A6, c6, rfl, ho6, hb6⟩
  go_wp2_with fail
  refine (same_true c5 c6 ((ho5.rd encIv_ok).st hb6) (ho6.rd encIv_ok) (by simp) rfl).mono ?_
  rintro e w7 ⟨rfl, hb7⟩
  have b7 := Below.st (Below.st b5 hb6) hb7
  clear hb5 hb6 hb7 ho5 ho6 b4 b5
  go_wp2_with fail
  refine (one_any 1 3 w7).mono ?_
  rintro e w8 ⟨A8, c8, rfl, ho8, hb8⟩
  have b8 := Below.st b7 hb8
  have ra := ho8.rd encIv_ok
  clear ho8
  go_wp2_with fail
  refine (one_any 4 5 w8).mono ?_
  rintro e w9 ⟨A9, c9, rfl, ho9, hb9⟩
  have b9 := Below.st b8 hb9
  replace ra := ra.st hb9
  have rb := ho9.rd encIv_ok
  clear ho9
  go_wp2_with fail
  refine (union_any c8 c9 ra rb (by simp) (by simp)).mono ?_
  rintro e w10 ⟨A10, c10, n, rfl, hn, hm, ho10, hb10⟩
  have b10 := Below.st b9 hb10
  replace ra := ra.st hb10
  replace rb := rb.st hb10
  obtain rfl : n = [((1, 3) : Iv), ((4, 5) : Iv)] := hn.unique (by refine ⟨?_, ?_⟩ <;> simp [vld]) fun t => by rw [hm]; first | (simp [mem_cons', mem_nil']; done) | (simp [mem_cons', mem_nil']; omega)
  have ru := ho10.rd encIv_ok
  clear hm hn ho10
  clear ra rb
  go_wp2_with fail
  refine (two_any 1 3 4 5 w10).mono ?_
  rintro e w11 ⟨A11, c11, rfl, ho11, hb11⟩
  have b11 := Below.st b10 hb11
  replace ru := ru.st hb11
  have rt := ho11.rd encIv_ok
  clear ho11
  go_wp2_with fail
  refine (same_true c10 c11 ru rt (by simp) rfl).mono ?_
  rintro e w12 ⟨rfl, hb12⟩
  have b12 := Below.st b11 hb12
  clear ru rt
  go_wp2_with fail
  refine (one_any 1 5 w12).mono ?_
  rintro e w13 ⟨A13, c13, rfl, ho13, hb13⟩
  have b13 := Below.st b12 hb13
  have ra := ho13.rd encIv_ok
  clear ho13
  go_wp2_with fail
  refine (one_any 4 9 w13).mono ?_
  rintro e w14 ⟨A14, c14, rfl, ho14, hb14⟩
  have b14 := Below.st b13 hb14
  replace ra := ra.st hb14
  have rb := ho14.rd encIv_ok
  clear ho14
  go_wp2_with fail
  refine (meet_any c13 c14 ra rb (by simp) (by simp)).mono ?_
  rintro e w15 ⟨A15, c15, n, rfl, hn, hm, ho15, hb15⟩
  have b15 := Below.st b14 hb15
  replace ra := ra.st hb15
  replace rb := rb.st hb15
  obtain rfl : n = [((4, 5) : Iv)] := hn.unique (by refine ⟨?_, ?_⟩ <;> simp [vld]) fun t => by rw [hm]; first | (simp [mem_cons', mem_nil']; done) | (simp [mem_cons', mem_nil']; omega)
  have ru := ho15.rd encIv_ok
  clear hm hn ho15
  clear ra rb
  go_wp2_with fail
  refine (one_any 4 5 w15).mono ?_
  rintro e w16 ⟨A16, c16, rfl, ho16, hb16⟩
  have b16 := Below.st b15 hb16
  replace ru := ru.st hb16
  have rt := ho16.rd encIv_ok
  clear ho16
  go_wp2_with fail
  refine (same_true c15 c16 ru rt (by simp) rfl).mono ?_
  rintro e w17 ⟨rfl, hb17⟩
  have b17 := Below.st b16 hb17
  clear ru rt
  go_wp2_with fail
  refine (one_any 1 9 w17).mono ?_
  rintro e w18 ⟨A18, c18, rfl, ho18, hb18⟩
  have b18 := Below.st b17 hb18
  have ra := ho18.rd encIv_ok
  clear ho18
  go_wp2_with fail
  refine (one_any 3 4 w18).mono ?_
  rintro e w19 ⟨A19, c19, rfl, ho19, hb19⟩
  have b19 := Below.st b18 hb19
  replace ra := ra.st hb19
  have rb := ho19.rd encIv_ok
  clear ho19
  go_wp2_with fail
  refine (minus_any c18 c19 ra rb (by simp) (by simp)).mono ?_
  rintro e w20 ⟨A20, c20, n, rfl, hn, hm, ho20, hb20⟩
  have b20 := Below.st b19 hb20
  replace ra := ra.st hb20
  replace rb := rb.st hb20
  obtain rfl : n = [((1, 3) : Iv), ((4, 9) : Iv)] := hn.unique (by refine ⟨?_, ?_⟩ <;> simp [vld]) fun t => by rw [hm]; first | (simp [mem_cons', mem_nil']; done) | (simp [mem_cons', mem_nil']; omega)
  have ru := ho20.rd encIv_ok
  clear hm hn ho20
  clear ra rb
  go_wp2_with fail
  refine (two_any 1 3 4 9 w20).mono ?_
  rintro e w21 ⟨A21, c21, rfl, ho21, hb21⟩
  have b21 := Below.st b20 hb21
  replace ru := ru.st hb21
  have rt := ho21.rd encIv_ok
  clear ho21
  go_wp2_with fail
  refine (same_true c20 c21 ru rt (by simp) rfl).mono ?_
  rintro e w22 ⟨rfl, hb22⟩
  have b22 := Below.st b21 hb22
  clear ru rt
  go_wp2_with fail
  refine (two_any 1 3 2 5 w22).mono ?_
  rintro e w23 ⟨A23, c23, rfl, ho23, hb23⟩
  have b23 := Below.st b22 hb23
  have ra := ho23.rd encIv_ok
  clear ho23
  go_wp2_with fail
  refine (length_is c23 (m := [((1, 5) : Iv)]) ra (by simp) (by refine ⟨?_, ?_⟩ <;> simp [vld]) (fun t => by simp [mem_cons', mem_nil']; omega)).mono ?_
  rintro e w24 ⟨rfl, hb24⟩
  have b24 := Below.st b23 hb24
  clear ra
  go_wp2_with fail
  refine (one_any 1 3 w24).mono ?_
  rintro e w25 ⟨A25, c25, rfl, ho25, hb25⟩
  have b25 := Below.st b24 hb25
  have ra := ho25.rd encIv_ok
  clear ho25
  go_wp2_with fail
  refine (has_true c25 2 true ra (by simp) (by simp [hasB, validB])).mono ?_
  rintro e w26 ⟨rfl, hb26⟩
  have b26 := Below.st b25 hb26
  clear ra
  go_wp2_with fail
  refine (one_any 1 3 w26).mono ?_
  rintro e w27 ⟨A27, c27, rfl, ho27, hb27⟩
  have b27 := Below.st b26 hb27
  have ra := ho27.rd encIv_ok
  clear ho27
  go_wp2_with fail
  refine (has_true c27 3 false ra (by simp) (by simp [hasB, validB])).mono ?_
  rintro e w28 ⟨rfl, hb28⟩
  have b28 := Below.st b27 hb28
  clear ra
  go_wp2_with fail
  refine (two_any 1 3 3 6 w28).mono ?_
  rintro e w29 ⟨A29, c29, rfl, ho29, hb29⟩
  have b29 := Below.st b28 hb29
  have ra := ho29.rd encIv_ok
  clear ho29
  go_wp2_with fail
  refine (covers_is c29 ((2, 5) : Iv) true ra (by simp) ⟨fun _ => rfl, fun _ => ⟨by simp [vld], fun t h1 h2 => by simp [mem_cons', mem_nil'] at *; omega⟩⟩).mono ?_
  rintro e w30 ⟨rfl, hb30⟩
  have b30 := Below.st b29 hb30
  clear ra
  go_wp2_with fail
  refine (one_any 1 3 w30).mono ?_
  rintro e w31 ⟨A31, c31, rfl, ho31, hb31⟩
  have b31 := Below.st b30 hb31
  have ra := ho31.rd encIv_ok
  clear ho31
  go_wp2_with fail
  refine (covers_is c31 ((2, 2) : Iv) false ra (by simp) ⟨fun h => by have := h.1; simp [vld] at this, fun h => by cases h⟩).mono ?_
  rintro e w32 ⟨rfl, hb32⟩
  have b32 := Below.st b31 hb32
  clear ra
  go_wp2_with fail
  go_ret
  exact ⟨rfl, b32⟩
end Go.Proofs.Ytkipbmcahkacmaa
