/- The law ReliefMore, walked. -/
import Derived.Test.YtekdppnlgkfcdaaRelAwake
import Derived.Test.YtekdppnlgkfcdaaRelRApply
import Derived.Test.YtekdppnlgkfcdaaRelLawFns
set_option linter.unusedSimpArgs false
namespace Go.Proofs.Ytekdppnlgkfcdaa
open Go.RowKit Go.Lib

theorem relE_take {l : List Iv} (m : Iv) {j : Nat} (hj : j < l.length) : relE (l ++ [m]) j = relE l j := by
  unfold relE
  rw [List.getElem?_append_left hj, List.take_append_of_le_length (by omega)]
theorem relsE_snoc {l : List Iv} {m : Iv} (h : relsE (l ++ [m]) = 0) : relsE l = 0 := by
  unfold relsE at h ⊢
  simp only [List.length_append, List.length_cons, List.length_nil] at h
  split at h
  · cases h
  · rename_i q
    rw [if_neg (by omega)]
    have hz := firstE_zero h
    have : ∀ j, j < l.length → relE l j = 0 := fun j hj => by rw [← relE_take m hj]; exact hz j (by omega)
    exact firstE_none this
theorem partN_more {l : List Iv} {m : Iv} {ks : List Int} (h : relsE (l ++ [m]) = 0) : partN l ks ≤ partN (l ++ [m]) ks := by
  unfold partN
  rw [if_neg (by rw [relsE_snoc h]; simp), if_neg (by rw [h]; simp), partL_snoc]
  unfold partF
  split <;> omega
theorem partF_tail (k : Int) (ks : List Int) (n n2 : Int) (r : Iv) (h : n ≤ n2) : partF ks n r ≤ partF (k :: ks) n2 r := by
  unfold partF
  have hd : dnB ks r.1 = true → dnB (k :: ks) r.1 = true := fun q => by unfold dnB at *; simp only [List.any_cons, q, Bool.or_true]
  by_cases h1 : dnB ks r.1 = true
  · rw [if_pos h1, if_pos (hd h1)]; omega
  · rw [if_neg h1]; split <;> omega
theorem partL_tail (k : Int) (ks : List Int) : ∀ (l : List Iv) (n n2 : Int), n ≤ n2 → l.foldl (partF ks) n ≤ l.foldl (partF (k :: ks)) n2
  | [], _, _, h => h
  | r :: l, n, n2, h => partL_tail k ks l _ _ (partF_tail k ks n n2 r h)
theorem partN_tail (l : List Iv) (ks : List Int) : partN l ks.tail ≤ partN l ks := by
  cases ks with
  | nil => exact Int.le_refl _
  | cons k ks =>
    unfold partN partL
    split
    · exact Int.le_refl _
    · exact partL_tail k ks l 0 0 (Int.le_refl _)
theorem tyRl : TyS Try.prog 22 74 2 16 := TyS.mk' (z := .agg #[.int .i64 0, .int .i64 0]) Try.underlying22 (by kernel_rfl) rfl (by omega)

set_option maxRecDepth 100000 in
set_option maxHeartbeats 8000000 in
theorem reliefMore_walk {A B : Option Addr} (c d : Nat) {l : List Iv} (m : Iv) {ks : List Int} {w : World} (h : Rd encIv 2 w w.heap.size A l) (hk : Rd encI 1 w w.heap.size B ks) (hkd : ks.length ≤ d) (hd : d ≤ 9223372036854775807) :
    Calls Try.prog 7 #[.slice A l.length c, .agg #[.int .i64 m.1, .int .i64 m.2], .slice B ks.length d] w fun e w' => e = .returned (.bool true) ∧ Below w.heap.size w w' := by
  obtain ⟨Y, hY⟩ : ∃ Y, w.alloc (.cells #[.int .i64 m.1, .int .i64 m.2] 74) = Y := ⟨_, rfl⟩
  have bW : Below w.heap.size w Y := by rw [← hY]; exact (Below.refl _ w).al _
  have SM : Blk Y w.heap.size #[.int .i64 m.1, .int .i64 m.2] 74 := by rw [← hY]; exact Blk.new w _ _
  by_cases g1 : 13 < l.length
  · go_enter Try.func7, Try.ntmps7
    go_wp2_with fail; refine (awake_any _).mono ?_; rintro e wl ⟨rfl, hbl⟩; have bL := bW.st hbl; go_wp2_with fail; go_ret; exact ⟨rfl, bL⟩
  · by_cases g2 : 20 < ks.length
    · go_enter Try.func7, Try.ntmps7
      go_wp2_with fail; refine (awake_any _).mono ?_; rintro e wl ⟨rfl, hbl⟩; have bL := bW.st hbl; go_wp2_with fail; go_ret; exact ⟨rfl, bL⟩
    · cases hks : ks with
      | nil =>
        subst hks
        go_enter Try.func7, Try.ntmps7
        go_wp2_with fail; refine (awake_any _).mono ?_; rintro e wl ⟨rfl, hbl⟩; have bL := bW.st hbl; go_wp2_with fail; go_ret; exact ⟨rfl, bL⟩
      | cons k kt =>
        have hne : ks ≠ [] := by rw [hks]; simp
        obtain ⟨bk, ok, rfl, hbk, hck⟩ := hk hne
        have ht : Rd encI 1 w w.heap.size (some ⟨bk, ok + 1, none⟩) kt := fun _ => ⟨bk, ok + 1, rfl, hbk, fun i x hx j u hu => by
          have := hck (i + 1) x (by rw [hks]; exact hx) j u hu
          rw [show ok + 1 + i * 1 + j = ok + (i + 1) * 1 + j by omega]
          exact this⟩
        have C1 := Lib.hid (fun (X : World) (hX : Below w.heap.size w X) => qpart_any c d (h.st hX) (hk.st hX) (by omega))
        have C4 := Lib.hid (fun (X : World) (hX : Below w.heap.size w X) => qpart_any c (d - 1) (h.st hX) (ht.st hX) (by rw [hks] at g2; simp only [List.length_cons] at g2; omega))
        have C4b := Lib.hid (fun (X : World) (hX : Below w.heap.size w X) (h0 : kt.length = 0) => qpart_any (B := some ⟨bk, ok, none⟩) (ks := kt) c 0 (h.st hX) (fun hn => absurd (List.length_eq_zero_iff.1 h0) hn) (by omega))
        have C2 := Lib.hid (fun (X : World) (A2 : Option Addr) (c2 : Nat) (hX : Rd encIv 2 X X.heap.size A2 (l ++ [m])) => qcheck_any c2 hX)
        have C3 := Lib.hid (fun (X : World) (A2 : Option Addr) (c2 : Nat) (hX : Rd encIv 2 X X.heap.size A2 (l ++ [m])) (hX2 : Below w.heap.size w X) => qpart_any c2 d hX (hk.st hX2) (by omega))
        have hn0 := partN_bounds l ks
        have hn1 := partN_tail l ks
        have HM := Lib.hid (fun (q : relsE (l ++ [m]) = 0) => partN_more (ks := ks) q)
        rw [hks] at hn1
        simp only [List.tail_cons] at hn1
        rw [← hks] at hn1
        subst hks
        simp only [List.length_cons] at *
        have HB := Lib.hid h
        generalize partN l (k :: kt) = n at *
        generalize partN l kt = n1 at *
        obtain ⟨hn00, hn01⟩ := hn0
        have rdY := h.st bW
        have ownY := Own.nil (e := 74) (enc := encIv) (k := 2) Y Y.heap.size
        have lt1 := SM.lt
        have ltY : w.heap.size ≤ Y.heap.size := bW.size
        have hd0 : (kt.length : Int) + 1 ≤ (d : Int) := by omega
        have m0 := SM.cell 0 (v := .int .i64 m.1) rfl
        have m1 := SM.cell 1 (v := .int .i64 m.2) rfl
        clear h hk ht hck hne
        have g3 : decide (13 < (l.length : Int)) = false := decide_eq_false (by omega)
        have g4 : decide (20 < (kt.length : Int) + 1) = false := decide_eq_false (by omega)
        have g5 : ((kt.length : Int) + 1 == 0) = false := by simp; omega
        by_cases hE : relsE (l ++ [m]) = 0
        · have hm := HM.out hE
          rw [hE] at C2
          clear HM
          generalize partN (l ++ [m]) (k :: kt) = n2 at *
          have k1 : decide (n2 < n) = false := decide_eq_false (by omega)
          have k2 : decide (n1 ≤ n) = true := decide_eq_true hn1
          have k3 : decide (0 ≤ n) = true := decide_eq_true hn00
          have k4 : decide (n ≤ 1000) = true := decide_eq_true hn01
          clear hn1 hn00 hn01 hm
          go_enter Try.func7, Try.ntmps7
          go_upto_region 5 with (first | ((at_builtin; refine wpList_appS rfl (.tmp 23) (.tmp 24) tyRl encIv_ok rfl _ rfl (by first | rfl | simp) ownY l rfl (by first | rfl | simp) rdY (by first | omega | (simp; done) | (simp; omega)) (by first | omega | (simp; done) | (simp; omega)) (Nat.le_refl _) ?_; intro A1 c1 w1 hown1 hb1 hs1 hf1); simp only [List.nil_append, List.length_nil, Nat.zero_add] at hown1 ⊢; have SM := SM.below hb1 lt1; have m0 := SM.cell 0 (v := .int .i64 m.1) rfl; have m1 := SM.cell 1 (v := .int .i64 m.2) rfl; have bW := bW.st hb1))
          go_upto_region 6 with (first | (refine wpList_boxLoad rfl (ty := 74) (x := .tmp 4) (cs := #[.int .i64 m.1, .int .i64 m.2]) rfl SM rfl ⟨_, Try.underlying74, by kernel_rfl⟩ ?_) | ((at_builtin; refine wpList_app1 rfl (.tmp 26) (.tmp 28) tyRl encIv_ok rfl m rfl _ rfl (by simp) hown1 rfl (by first | rfl | simp) (by first | omega | (simp; omega)) (by first | omega | (simp; omega)) hs1 ?_; intro A2 c2 w2 hown2 hb2 hs2 hf2; have bW := bW.trans (hb2.mono ltY); have rd2 := hown2.rd encIv_ok)))
          go_wp2_with fail
          refine (C1.out _ bW).mono ?_; rintro e w3 ⟨rfl, hbn⟩; have bW := bW.st hbn; have rd2 := rd2.st hbn; clear hbn
          simp only [List.length_append, List.length_cons, List.length_nil, Nat.zero_add] at C2 C3
          go_wp2_with fail
          refine (C2.out _ _ _ rd2).mono ?_; rintro e w4 ⟨rfl, hbn⟩; have bW := bW.st hbn; have rd2 := rd2.st hbn; clear hbn
          go_wp2_with fail
          refine (C3.out _ _ _ rd2 bW).mono ?_; rintro e w5 ⟨rfl, hbn⟩; have bW := bW.st hbn; clear hbn
          go_wp2_with fail
          all_goals focus (first | (with_reducible refine (C4.out _ bW).mono ?_; rintro e w6 ⟨rfl, hbn⟩; have bW := bW.st hbn; clear hbn) | ((refine (C4b.out _ bW (by omega)).mono ?_; rintro e w6 ⟨rfl, hbn⟩; have bW := bW.st hbn; clear hbn)))
          all_goals focus (go_wp2_with fail; (refine (awake_any _).mono ?_; rintro e w7 ⟨rfl, hbn⟩; have bW := bW.st hbn; clear hbn); go_wp2_with fail; go_ret; exact ⟨rfl, bW⟩)
        · clear HM C3
          have hE1 : (relsE (l ++ [m]) == 0) = false := by simp [hE]
          have k2 : decide (n1 ≤ n) = true := decide_eq_true hn1
          have k3 : decide (0 ≤ n) = true := decide_eq_true hn00
          have k4 : decide (n ≤ 1000) = true := decide_eq_true hn01
          clear hn1 hn00 hn01
          generalize relsE (l ++ [m]) = E at *
          go_enter Try.func7, Try.ntmps7
          go_upto_region 5 with (first | ((at_builtin; refine wpList_appS rfl (.tmp 23) (.tmp 24) tyRl encIv_ok rfl _ rfl (by first | rfl | simp) ownY l rfl (by first | rfl | simp) rdY (by first | omega | (simp; done) | (simp; omega)) (by first | omega | (simp; done) | (simp; omega)) (Nat.le_refl _) ?_; intro A1 c1 w1 hown1 hb1 hs1 hf1); simp only [List.nil_append, List.length_nil, Nat.zero_add] at hown1 ⊢; have SM := SM.below hb1 lt1; have m0 := SM.cell 0 (v := .int .i64 m.1) rfl; have m1 := SM.cell 1 (v := .int .i64 m.2) rfl; have bW := bW.st hb1))
          go_upto_region 6 with (first | (refine wpList_boxLoad rfl (ty := 74) (x := .tmp 4) (cs := #[.int .i64 m.1, .int .i64 m.2]) rfl SM rfl ⟨_, Try.underlying74, by kernel_rfl⟩ ?_) | ((at_builtin; refine wpList_app1 rfl (.tmp 26) (.tmp 28) tyRl encIv_ok rfl m rfl _ rfl (by simp) hown1 rfl (by first | rfl | simp) (by first | omega | (simp; omega)) (by first | omega | (simp; omega)) hs1 ?_; intro A2 c2 w2 hown2 hb2 hs2 hf2; have bW := bW.trans (hb2.mono ltY); have rd2 := hown2.rd encIv_ok)))
          go_wp2_with fail
          refine (C1.out _ bW).mono ?_; rintro e w3 ⟨rfl, hbn⟩; have bW := bW.st hbn; have rd2 := rd2.st hbn; clear hbn
          simp only [List.length_append, List.length_cons, List.length_nil, Nat.zero_add] at C2
          go_wp2_with fail
          refine (C2.out _ _ _ rd2).mono ?_; rintro e w4 ⟨rfl, hbn⟩; have bW := bW.st hbn; have rd2 := rd2.st hbn; clear hbn
          go_wp2_with fail
          all_goals focus (first | (with_reducible refine (C4.out _ bW).mono ?_; rintro e w6 ⟨rfl, hbn⟩; have bW := bW.st hbn; clear hbn) | ((refine (C4b.out _ bW (by omega)).mono ?_; rintro e w6 ⟨rfl, hbn⟩; have bW := bW.st hbn; clear hbn)))
          all_goals focus (go_wp2_with fail; (refine (awake_any _).mono ?_; rintro e w7 ⟨rfl, hbn⟩; have bW := bW.st hbn; clear hbn); go_wp2_with fail; go_ret; exact ⟨rfl, bW⟩)
end Go.Proofs.Ytekdppnlgkfcdaa
