/- The law SpanOwn of chapter 05, walked. -/
import Derived.Test.YtkipbmcahkacmaaSpanLaw1
namespace Go.Proofs.Ytkipbmcahkacmaa
open Go.RowKit Go.Lib

theorem Own.cap {α : Type} {e : Nat} {enc : α → List Value} {k : Nat} {w : World} {base : Nat} {A : Option Addr} {c : Nat} {l : List α} (h : Own e enc k w base A c l) : l.length ≤ c := by
  rcases h.2 with ⟨h1, h2⟩ | ⟨g, cap, cur, hv, _, _, hn, _⟩
  · rw [h2]; exact Nat.zero_le _
  · injection hv with p q r
    rw [r]; exact hn

set_option maxHeartbeats 1000000 in
theorem wipe_any {A : Option Addr} {c : Nat} {l : List Iv} {w : World} {base : Nat} (h : Own 25 encIv 2 w base A c l) (hl : l.length ≤ 100000000000) :
    Calls Try.prog 29 #[.slice A l.length c] w fun e w' => e = .returned (.tuple #[]) ∧ Below base w w' := by
  go_enter Try.func29, Try.ntmps29
  go_wp2_with fail
  go_loopw [2] (fun i wr => ∃ (k : Nat) (l' : List Iv), k ≤ l.length ∧ i = .int .i64 k ∧ Hid (l'.length = l.length) ∧ Own 25 encIv 2 wr base A c l' ∧ Below base w wr) (fun i _ => l.length - (intOf i).toNat)
  case atStart => exact ⟨0, l, Nat.zero_le _, rfl, rfl, h, Below.refl _ _⟩
  case round =>
    obtain ⟨k, l', hk, rfl, HL, hown, hbr⟩ := hrel
    by_cases hlt : k < l.length
    · have hk' : k < l'.length := by rw [HL.out]; exact hlt
      obtain ⟨x, hx⟩ : ∃ x, l'[k]? = some x := ⟨_, List.getElem?_eq_getElem hk'⟩
      obtain ⟨hA, h0, _⟩ | ⟨g, rfl, hg1, hg2⟩ := hown.form
      · subst h0; simp at hk'
      · have q0 := hown.cells encIv_ok rfl hx (j := 0) (u := .int .i64 x.1) rfl
        have q1 := hown.cells encIv_ok rfl hx (j := 1) (u := .int .i64 x.2) rfl
        rw [Nat.add_zero] at q0
        have f0 := hown.frozen rfl (k * 2)
        have f1 := hown.frozen rfl (k * 2 + 1)
        have o1 := hown.stored encIv_ok (x := x) (y := (-1, x.2)) (u := .int .i64 (-1)) rfl hx (j := 0) (by omega) rfl
        have hx2 : (l'.set k (-1, x.2))[k]? = some ((-1, x.2) : Iv) := by rw [List.getElem?_set_self hk']
        have o2 := o1.stored encIv_ok (x := ((-1, x.2) : Iv)) (y := (-1, -1)) (u := .int .i64 (-1)) rfl hx2 (j := 1) (by omega) rfl
        rw [Nat.add_zero] at o2
        have b2 := (hbr.setCell (p := ⟨g, k * 2, none⟩) hg1 (.int .i64 (-1))).setCell (p := ⟨g, k * 2 + 1, none⟩) hg1 (.int .i64 (-1))
        have R := Lib.hid (show ((l'.set k (-1, x.2)).set k (-1, -1)).length = l.length by rw [List.length_set, List.length_set]; exact HL.out)
        clear h hown hbr o1 hx hx2
        go_wp2
        go_roundw
        case rel => exact ⟨k + 1, _, by omega, by go_num, R, o2, b2⟩
        case measure => simp [intOf]; omega
    · clear h
      go_wp2
      go_end0
      exact ⟨rfl, hbr⟩

set_option maxHeartbeats 4000000 in
theorem spanOwn_walk {A B : Option Addr} (c d : Nat) {a b : List Iv} {w : World} (ha : Rd encIv 2 w w.heap.size A a) (hb : Rd encIv 2 w w.heap.size B b) (hbiga : a.length ≤ 9223372036854775807) (hbigb : b.length ≤ 9223372036854775807) :
    Calls Try.prog 9 #[.slice A a.length c, .slice B b.length d] w fun e w' => e = .returned (.bool true) ∧ Below w.heap.size w w' := by
  by_cases hla : a.length ≤ 60
  · by_cases hlb : b.length ≤ 60
    · have ox := Own.lit (e := 25) w w.heap.size (cs := #[]) ([] : List Iv) encIv_ok rfl rfl (Nat.le_refl _) (by simp)
      have b0 := (Below.refl w.heap.size w).al (.cells #[] 25)
      have ra := ha.st b0
      have HA := Lib.hid ha
      have HB := Lib.hid hb
      clear ha hb
      go_enter Try.func9, Try.ntmps9
      go_wp2_with (at_builtin; refine wpList_appS rfl (.tmp 17) (.tmp 18) tyIv encIv_ok rfl _ rfl (by first | rfl | simp) ox a rfl (by first | rfl | simp) ra (by first | omega | (simp; done) | (simp; omega)) (by first | omega | (simp; done) | (simp; omega)) b0.size ?_; intro A1 c1 w1 hown1 hb1 hs1 hf1)
      have b1 := b0.trans hb1
      clear ox ra hb1 hs1 hf1 b0
      refine (one_any (-7) (-7) w1).mono ?_
      rintro e w2 ⟨A2, c2, rfl, ho2, hb2⟩
      have o2 := hown1.st hb2
      have b2 := Below.st b1 hb2
      clear hown1 hb2 b1
      go_wp2_with (first | ((at_builtin; refine wpList_appS rfl (.tmp 19) (.tmp 20) tyIv encIv_ok rfl _ rfl (by first | rfl | simp) o2 [((-7, -7) : Iv)] rfl (by first | rfl | simp) (ho2.rd encIv_ok) (by first | omega | (simp; done) | (simp; omega)) (by first | omega | (simp; done) | (simp; omega)) b2.size ?_; intro A3 c3 w3 hown3 hb3 hs3 hf3); have b3 := b2.trans hb3; have oy := Own.lit (e := 25) w3 w3.heap.size (cs := #[]) ([] : List Iv) encIv_ok rfl rfl (Nat.le_refl _) (by simp); have k3 := (Below.refl w3.heap.size w3).al (.cells #[] 25); have rb := ((HB.out.keep b3).more b3.size).st k3) | (at_builtin; refine wpList_appS rfl (.tmp 22) (.tmp 23) tyIv encIv_ok rfl _ rfl (by first | rfl | simp) oy b rfl (by first | rfl | simp) rb (by first | omega | (simp; done) | (simp; omega)) (by first | omega | (simp; done) | (simp; omega)) k3.size ?_; intro A4 c4 w4 hown4 hb4 hs4 hf4))
      have k4 := k3.trans hb4
      clear oy rb hb4 hs4 hf4 k3 o2 ho2 hb3 hs3 hf3 b2
      refine (one_any (-8) (-8) w4).mono ?_
      rintro e w5 ⟨A5, c5, rfl, ho5, hb5⟩
      have o5 := hown4.st hb5
      have k5 := Below.st k4 hb5
      clear hown4 hb5 k4
      go_wp2_with (at_builtin; refine wpList_appS rfl (.tmp 24) (.tmp 25) tyIv encIv_ok rfl _ rfl (by first | rfl | simp) o5 [((-8, -8) : Iv)] rfl (by first | rfl | simp) (ho5.rd encIv_ok) (by first | omega | (simp; done) | (simp; omega)) (by first | omega | (simp; done) | (simp; omega)) k5.size ?_; intro A6 c6 w6 hown6 hb6 hs6 hf6)
      have k6 := k5.trans hb6
      have b6 := b3.trans (k6.mono b3.size)
      have x6 := hown3.keep k6 (Nat.le_refl _)
      clear o5 ho5 hb6 hs6 hf6 k5 hown3 b3
      have hcx := x6.cap
      have hcy := hown6.cap
      have rx := x6.rd encIv_ok
      have ry := hown6.rd encIv_ok
      simp only [List.nil_append, List.length_append, List.length_cons, List.length_nil] at hcx hcy
      have hp := rx.take a.length
      have hq := ry.take b.length
      simp only [List.nil_append, List.take_left] at hp hq
      have hcx1 : (a.length : Int) ≤ (c3 : Int) := by omega
      have hcy1 : (b.length : Int) ≤ (c6 : Int) := by omega
      obtain ⟨hA, h0, _⟩ | ⟨g, hA, hg1, hg2⟩ := x6.form
      · simp at h0
      subst hA
      obtain ⟨hA, h0, _⟩ | ⟨g', hA, hg1', hg2'⟩ := hown6.form
      · simp at h0
      subst hA
      have qx := x6.cells encIv_ok rfl (i := a.length) (x := ((-7, -7) : Iv)) (by simp) (j := 0) (u := .int .i64 (-7)) rfl
      have qy := hown6.cells encIv_ok rfl (i := b.length) (x := ((-8, -8) : Iv)) (by simp) (j := 0) (u := .int .i64 (-8)) rfl
      rw [Nat.add_zero] at qx qy
      clear rx ry x6 hown6 hcx hcy k6
      have n1 : (0 : Int) ≤ (a.length : Int) := by omega
      have n2 : (0 : Int) ≤ (b.length : Int) := by omega
      go_wp2_with fail
      go_quiet (fail)
      go_wp2_with fail
      obtain ⟨w7, hw7⟩ : ∃ w7, w7 = w6.drewN nq := ⟨_, rfl⟩
      have b7 : Below w.heap.size w w7 := by rw [hw7]; exact below_drewN b6 nq
      replace hp : Rd encIv 2 w7 w7.heap.size (some ⟨g, 0, none⟩) a := by rw [hw7]; exact hp
      replace hq : Rd encIv 2 w7 w7.heap.size (some ⟨g', 0, none⟩) b := by rw [hw7]; exact hq
      replace qx : w7.cell? ⟨g, a.length * 2, none⟩ = some (.int .i64 (-7)) := by rw [hw7]; exact qx
      replace qy : w7.cell? ⟨g', b.length * 2, none⟩ = some (.int .i64 (-8)) := by rw [hw7]; exact qy
      replace hg2 : g < w7.heap.size := by rw [hw7]; exact hg2
      replace hg2' : g' < w7.heap.size := by rw [hw7]; exact hg2'
      rw [← hw7]
      clear hw7 b6
      refine (normal_any c3 hp (by omega)).mono ?_
      rintro e w8 ⟨A8, C8, n, rfl, hn, _, ho8, hb8⟩
      have hln := hn.length_max
      clear hn
      go_wp2_with fail
      refine (wipe_any ho8 (by omega)).mono ?_
      rintro e w9 ⟨rfl, hc9⟩
      have hb9 := hb8.trans hc9
      clear ho8 hb8 hc9 hln
      replace hp := hp.st hb9
      replace hq := hq.st hb9
      replace qx := (hb9.cell (p := ⟨g, a.length * 2, none⟩) hg2).trans qx
      replace qy := (hb9.cell (p := ⟨g', b.length * 2, none⟩) hg2').trans qy
      replace hg2 := Nat.lt_of_lt_of_le hg2 hb9.size
      replace hg2' := Nat.lt_of_lt_of_le hg2' hb9.size
      have b9 := Below.st b7 hb9
      clear b7
      clear hb9
      go_wp2_with fail
      refine (union_any c3 c6 hp hq (by omega) (by omega)).mono ?_
      rintro e w10 ⟨A10, C10, n, rfl, hn, _, ho10, hb10⟩
      have hln := hn.length_max
      clear hn
      go_wp2_with fail
      refine (wipe_any ho10 (by omega)).mono ?_
      rintro e w11 ⟨rfl, hc11⟩
      have hb11 := hb10.trans hc11
      clear ho10 hb10 hc11 hln
      replace hp := hp.st hb11
      replace hq := hq.st hb11
      replace qx := (hb11.cell (p := ⟨g, a.length * 2, none⟩) hg2).trans qx
      replace qy := (hb11.cell (p := ⟨g', b.length * 2, none⟩) hg2').trans qy
      replace hg2 := Nat.lt_of_lt_of_le hg2 hb11.size
      replace hg2' := Nat.lt_of_lt_of_le hg2' hb11.size
      have b11 := Below.st b9 hb11
      clear b9
      clear hb11
      go_wp2_with fail
      refine (meet_any c3 c6 hp hq (by omega) (by omega)).mono ?_
      rintro e w12 ⟨A12, C12, n, rfl, hn, _, ho12, hb12⟩
      have hln := hn.length_max
      clear hn
      go_wp2_with fail
      refine (wipe_any ho12 (by omega)).mono ?_
      rintro e w13 ⟨rfl, hc13⟩
      have hb13 := hb12.trans hc13
      clear ho12 hb12 hc13 hln
      replace hp := hp.st hb13
      replace hq := hq.st hb13
      replace qx := (hb13.cell (p := ⟨g, a.length * 2, none⟩) hg2).trans qx
      replace qy := (hb13.cell (p := ⟨g', b.length * 2, none⟩) hg2').trans qy
      replace hg2 := Nat.lt_of_lt_of_le hg2 hb13.size
      replace hg2' := Nat.lt_of_lt_of_le hg2' hb13.size
      have b13 := Below.st b11 hb13
      clear b11
      clear hb13
      go_wp2_with fail
      refine (minus_any c3 c6 hp hq (by omega) (by omega)).mono ?_
      rintro e w14 ⟨A14, C14, n, rfl, hn, _, ho14, hb14⟩
      have hln := hn.length_max
      clear hn
      go_wp2_with fail
      refine (wipe_any ho14 (by omega)).mono ?_
      rintro e w15 ⟨rfl, hc15⟩
      have hb15 := hb14.trans hc15
      clear ho14 hb14 hc15 hln
      replace hp := hp.st hb15
      replace hq := hq.st hb15
      replace qx := (hb15.cell (p := ⟨g, a.length * 2, none⟩) hg2).trans qx
      replace qy := (hb15.cell (p := ⟨g', b.length * 2, none⟩) hg2').trans qy
      replace hg2 := Nat.lt_of_lt_of_le hg2 hb15.size
      replace hg2' := Nat.lt_of_lt_of_le hg2' hb15.size
      have b15 := Below.st b13 hb15
      clear b13
      clear hb15
      go_wp2_with fail
      refine (same_true c3 c hp ((HA.out.keep b15).more b15.size) (by omega) rfl).mono ?_
      rintro e w16 ⟨rfl, hb16⟩
      replace hp := hp.st hb16
      replace hq := hq.st hb16
      replace qx := (hb16.cell (p := ⟨g, a.length * 2, none⟩) hg2).trans qx
      replace qy := (hb16.cell (p := ⟨g', b.length * 2, none⟩) hg2').trans qy
      replace hg2 := Nat.lt_of_lt_of_le hg2 hb16.size
      replace hg2' := Nat.lt_of_lt_of_le hg2' hb16.size
      have b16 := Below.st b15 hb16
      clear b15
      clear hb16
      go_wp2_with fail
      refine (same_true c6 d hq ((HB.out.keep b16).more b16.size) (by omega) rfl).mono ?_
      rintro e w17 ⟨rfl, hb17⟩
      replace hp := hp.st hb17
      replace hq := hq.st hb17
      replace qx := (hb17.cell (p := ⟨g, a.length * 2, none⟩) hg2).trans qx
      replace qy := (hb17.cell (p := ⟨g', b.length * 2, none⟩) hg2').trans qy
      replace hg2 := Nat.lt_of_lt_of_le hg2 hb17.size
      replace hg2' := Nat.lt_of_lt_of_le hg2' hb17.size
      have b17 := Below.st b16 hb17
      clear b16
      clear hb17 hp hq
      have n3 : (a.length : Int) < (a.length : Int) + 1 := by omega
      have n4 : (b.length : Int) < (b.length : Int) + 1 := by omega
      go_wp2_with fail
      refine (alive_any _).mono ?_
      rintro e w18 ⟨rfl, hb18⟩
      go_wp2_with fail
      go_ret
      exact ⟨rfl, Below.st b17 hb18⟩
    · clear ha hb
      go_enter Try.func9, Try.ntmps9
      go_wp2
      go_ret
      exact ⟨rfl, Below.refl _ _⟩
  · clear ha hb
    go_enter Try.func9, Try.ntmps9
    go_wp2
    go_ret
    exact ⟨rfl, Below.refl _ _⟩
end Go.Proofs.Ytkipbmcahkacmaa
