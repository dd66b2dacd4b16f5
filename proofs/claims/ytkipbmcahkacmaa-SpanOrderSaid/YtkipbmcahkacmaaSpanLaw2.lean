/- The laws SpanOrder, SpanAlgebra, SpanCovers of chapter 05, walked. -/
import Derived.Test.YtkipbmcahkacmaaSpanLaw1
namespace Go.Proofs.Ytkipbmcahkacmaa
open Go.RowKit Go.Lib

theorem drop_rev {l : List Iv} {m : Nat} {x : Iv} (h : l[m]? = some x) : (l.drop m).reverse = (l.drop (m + 1)).reverse ++ [x] := by
  rw [drop_get h, List.reverse_cons]
theorem nf_pair {l : List Iv} (h : NF l) {k : Nat} {x y : Iv} (hx : l[k]? = some x) (hy : l[k + 1]? = some y) : x.2 < y.1 := by
  have h1 := (List.getElem?_eq_some_iff.1 hx)
  have h2 := (List.getElem?_eq_some_iff.1 hy)
  obtain ⟨hk, e1⟩ := h1
  obtain ⟨hk2, e2⟩ := h2
  have := List.pairwise_iff_getElem.1 h.2 k (k + 1) hk hk2 (by omega)
  rw [e1, e2] at this
  exact this

set_option maxHeartbeats 2000000 in
theorem spanOrder_walk {A : Option Addr} (c : Nat) {l : List Iv} {w : World} (h : Rd encIv 2 w w.heap.size A l) (hbig : l.length ≤ 9223372036854775807) :
    Calls Try.prog 6 #[.slice A l.length c] w fun e w' => e = .returned (.bool true) ∧ Below w.heap.size w w' := by
  by_cases hl : l.length ≤ 60
  · go_enter Try.func6, Try.ntmps6
    go_wp2_with fail
    go_loopw [3, 4] (fun v i wr => ∃ (A' : Option Addr) (c' : Nat) (o : List Iv), ((∃ m : Nat, m < l.length ∧ i = .int .i64 m ∧ Hid ((l.drop (m + 1)).reverse = o)) ∨ (i = .int .i64 (-1) ∧ Hid (l.reverse = o))) ∧ v = .slice A' o.length c' ∧ Own 25 encIv 2 wr w.heap.size A' c' o ∧ Below w.heap.size w wr) (fun _ i _ => (intOf i + 1).toNat)
    case atStart =>
      refine ⟨none, 0, [], ?_, rfl, Own.nil _ _, Below.refl _ _⟩
      rcases Nat.eq_zero_or_pos l.length with h0 | h0
      · right
        have : l = [] := List.eq_nil_of_length_eq_zero h0
        subst this
        exact ⟨rfl, rfl⟩
      · left
        refine ⟨l.length - 1, by omega, ?_, ?_⟩
        · rw [show ((l.length - 1 : Nat) : Int) = (l.length : Int) - 1 by omega]
        · unfold Hid
          rw [show l.length - 1 + 1 = l.length by omega, List.drop_length]
          rfl
    case round =>
      obtain ⟨A', c', o, hi, rfl, hown, hbel⟩ := hrel
      rcases hi with ⟨m, hm, rfl, HO⟩ | ⟨rfl, HO⟩
      · have hol : o.length ≤ 60 := by rw [← HO.out]; simp; omega
        obtain ⟨g, off, f, u, rfl, hg, hx, hc0, hc1⟩ := (h.keep hbel).iv hm
        have R := Lib.hid (show (l.drop m).reverse = o ++ [(f, u)] by rw [drop_rev hx, HO.out])
        clear h hx HO
        rcases m with _ | m
        · have R2 := Lib.hid (show l.reverse = o ++ [(f, u)] by have := R.out; rwa [List.drop_zero] at this)
          simp only [Nat.zero_mul, Nat.add_zero] at hc0 hc1
          go_wp2_with (at_builtin; refine wpList_app1 rfl (.tmp 17) (.tmp 22) tyIv encIv_ok rfl ((f, u) : Iv) rfl _ rfl (by simp) hown rfl (by first | rfl | simp) (by first | omega | (simp; omega)) (by first | omega | (simp; omega)) hbel.size ?_; intro A3 c3 w3 hown3 hb3 hs3 hf3; have hbel3 := hbel.trans hb3)
          go_roundw
          case rel => exact ⟨A3, c3, _, .inr ⟨by first | rfl | go_num, R2⟩, by simp, hown3, hbel3⟩
          case measure => simp [intOf]
        · go_wp2_with (at_builtin; refine wpList_app1 rfl (.tmp 17) (.tmp 22) tyIv encIv_ok rfl ((f, u) : Iv) rfl _ rfl (by simp) hown rfl (by first | rfl | simp) (by first | omega | (simp; omega)) (by first | omega | (simp; omega)) hbel.size ?_; intro A3 c3 w3 hown3 hb3 hs3 hf3; have hbel3 := hbel.trans hb3)
          go_roundw
          case rel => exact ⟨A3, c3, _, .inl ⟨m, by omega, by first | rfl | go_num, R⟩, by simp, hown3, hbel3⟩
          case measure => simp [intOf]; omega
      · have hol : o.length ≤ 60 := by rw [← HO.out]; simp; omega
        have hoe := HO.out
        subst hoe
        simp only [List.length_reverse] at hol ⊢
        have r0 := h.st hbel
        have C1 := Lib.hid (normal_any c r0 (by omega))
        clear h HO
        go_wp2_with fail
        refine C1.out.mono ?_
        rintro e w1 ⟨A1, c1, n, rfl, hn, hm, ho1, hb1⟩
        have b1 := Below.st hbel hb1
        have r1 := r0.st hb1
        have ot := hown.st hb1
        have rn := ho1.rd encIv_ok
        have hln := hn.length_max
        have hne := Lib.hid (fun (b off : Nat) (hA : A1 = some ⟨b, off, none⟩) => show (∀ g, A' = some ⟨g, 0, none⟩ → b ≠ g) from by
          rcases ho1.form with ⟨h0, _⟩ | ⟨g1, h1, h2, _⟩
          · rw [h0] at hA; cases hA
          · rw [h1] at hA
            injection hA with hA
            injection hA with hA
            exact hown.ne (by omega))
        clear C1 hown hbel r0
        go_wp2_with (at_builtin; refine wpList_appS rfl (.tmp 26) (.tmp 27) tyIv encIv_ok rfl _ rfl (by first | rfl | simp) ot l rfl (by first | rfl | simp) r1 (by first | omega | (simp; done) | (simp; omega)) (by first | omega | (simp; done) | (simp; omega)) b1.size ?_; intro A4 c4 w4 hown4 hb4 hs4 hf4)
        have b4 := b1.trans hb4
        have r4 := hown4.rd encIv_ok
        have rn4 := (rn.keepIf (w' := w4) fun b off hA hb o => hf4 ⟨b, o, none⟩ hb (hne.out b off hA)).more hs4
        clear hf4 hne rn hown4 ot r1 b1 hb1
        have ht : l.length + l.length = (l.reverse ++ l).length := by simp
        rw [ht]
        refine (normal_any c4 r4 (by simp; omega)).mono ?_
        rintro e w5 ⟨A5, c5, n5, rfl, hn5, hm5, ho5, hb5⟩
        obtain rfl : n = n5 := hn.unique hn5 fun t => by rw [hm, hm5, Mem.append, Mem.perm (List.reverse_perm l)]; simp
        have b5 := Below.st b4 hb5
        have rn5 := rn4.st hb5
        have r5 := ho5.rd encIv_ok
        clear hb4 r4 b4 hm5 hn5 ho5 hb5 rn4 ht
        go_wp2_with fail
        refine (same_true c5 c1 r5 rn5 (by omega) rfl).mono ?_
        rintro e w6 ⟨rfl, hb6⟩
        have b6 := Below.st b5 hb6
        have rn6 := rn5.st hb6
        clear r5 rn5 b5 hb6
        go_wp2_with fail
        refine (normal_any c1 rn6 (by omega)).mono ?_
        rintro e w7 ⟨A7, c7, n7, rfl, hn7, hm7, ho7, hb7⟩
        obtain rfl : n = n7 := hn.unique hn7 fun t => by rw [hm7]
        have b7 := Below.st b6 hb7
        have rn7 := rn6.st hb7
        have r7 := ho7.rd encIv_ok
        clear hm7 hn7 ho7 hb7 b6 rn6
        go_wp2_with fail
        refine (same_true c7 c1 r7 rn7 (by omega) rfl).mono ?_
        rintro e w8 ⟨rfl, hb8⟩
        have b8 := Below.st b7 hb8
        have rn8 := Lib.hid (rn7.st hb8)
        have HN := Lib.hid hn
        clear r7 rn7 b7 hb8 hm hn
        go_wp2_with fail
        go_loopw [6] (fun i wr => ∃ k : Nat, k ≤ n.length ∧ i = .int .i64 k ∧ Below w8.heap.size w8 wr) (fun i _ => n.length - (intOf i).toNat)
        case atStart => exact ⟨0, Nat.zero_le _, rfl, Below.refl _ _⟩
        case round =>
          obtain ⟨k, hk, rfl, hbr⟩ := hrel
          by_cases hlt : k < n.length
          · obtain ⟨g, off, f, u, rfl, hg, hx, hc0, hc1⟩ := (rn8.out.keep hbr).iv hlt
            have hv := HN.out.1 _ (List.mem_of_getElem? hx)
            unfold vld at hv
            simp only at hv
            obtain ⟨hv1, hv2, hv3⟩ := hv
            by_cases hk0 : k ≤ 0
            · have hk1 : (0 : Int) ≤ (k : Int) := by omega
              have hk2 : (k : Int) < (n.length : Int) := by omega
              have hk3 : decide ((0 : Int) < (k : Int)) = false := by simp; omega
              have hk4 : decide (0 < k) = false := by simp; omega
              have t1 : decide (f < 0) = false := by simp; omega
              have t2 : decide (u ≤ f) = false := by simp; omega
              have t3 : decide ((68719476736 : Int) < u) = false := by simp; omega
              clear hx hk0
              go_wp2_with fail
              go_big_quiet (fail)
              go_wp2
              go_roundw
              case rel => exact ⟨k + 1, by omega, by go_num, below_drewN hbr nq⟩
              case measure => simp [intOf]; omega
            · obtain ⟨k, rfl⟩ : ∃ k', k = k' + 1 := ⟨k - 1, by omega⟩
              clear hk0
              obtain ⟨g', off', f', u', hA', hg', hx', hc0', hc1'⟩ := (rn8.out.keep hbr).iv (show k < n.length by omega)
              injection hA' with hA'
              injection hA' with e1 e2
              subst e1 e2
              have hlow := nf_pair HN.out hx' hx
              simp only at hlow
              have hk1 : (0 : Int) ≤ (k : Int) + 1 := by omega
              have hk2 : (k : Int) + 1 < (n.length : Int) := by omega
              have hk3 : (0 : Int) ≤ (k : Int) := by omega
              have hk4 : (k : Int) < (n.length : Int) := by omega
              have hkb : (k : Int) ≤ 100000000000 := by omega
              have hw1 : ((k : Int) + 1).toNat = k + 1 := by omega
              have hw2 : IntKind.i64.wrap (k : Int) = (k : Int) := IntWalk.i64_in _ (by omega)
              have hw3 : IntKind.i64.wrap ((k : Int) + 1 - 1) = (k : Int) := by rw [show (k : Int) + 1 - 1 = (k : Int) by omega]; exact hw2
              clear hx hx'
              go_wp2_with fail
              go_quiet (fail)
              clear hw1 hw2 hw3
              go_wp2
              go_roundw
              case rel => exact ⟨k + 1 + 1, by omega, by go_num, below_drewN hbr nq⟩
              case measure => simp [intOf]; omega
          · go_wp2_with fail
            refine (alive_any _).mono ?_
            rintro e w9 ⟨rfl, hb9⟩
            go_wp2_with fail
            go_ret
            exact ⟨rfl, b8.trans ((hbr.trans (hb9.mono hbr.size)).mono b8.size)⟩
  · clear h
    go_enter Try.func6, Try.ntmps6
    go_wp2
    go_ret
    exact ⟨rfl, Below.refl _ _⟩
end Go.Proofs.Ytkipbmcahkacmaa
