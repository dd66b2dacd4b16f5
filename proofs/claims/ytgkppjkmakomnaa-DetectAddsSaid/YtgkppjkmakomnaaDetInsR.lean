/- InsertReject, walked. -/
import Derived.Test.YtgkppjkmakomnaaDetSiftM
import Derived.Test.YtgkppjkmakomnaaDetSame
set_option linter.unusedSimpArgs false
namespace Go.Proofs.Ytgkppjkmakomnaa
open Go.RowKit Go.Lib

set_option maxRecDepth 100000 in
set_option maxHeartbeats 8000000 in
theorem insInsertReject_any {A : Option Addr} (c : Nat) {l : List Rj} (x : Rj) {w : World} (h : Rd encRj 8 w w.heap.size A l) (hl : l.length ≤ 1000) (hsz : SzD x.d) :
    Calls Try.prog 53 #[.slice A l.length c, RjV x] w fun e w' => ∃ A2 c2, e = .returned (.slice A2 (insF cmpRj x l).length c2) ∧ Rd encRj 8 w' w'.heap.size A2 (insF cmpRj x l) ∧ Below w.heap.size w w' := by
  have H1 := Lib.hid h
  have CR := Lib.hid (fun (y : Rj) (X : World) => rorder_any x y hsz X)
  have HS := Lib.hid (fun (k : Nat) (y : Rj) (q : l[k]? = some y) => insStep_snoc (f := cmpRj) (x := x) q)
  have HLN := Lib.hid (fun (k : Nat) => show ((l.take k).foldl (insStep cmpRj x) ([], false)).1.length ≤ 1001 by
    have := insStep_len (f := cmpRj) x (l.take k) ([], false)
    simp only [List.length_nil, List.length_take] at this
    split at this <;> omega)
  have HY := Lib.hid (fun (k : Nat) (y : Rj) (q : l[k]? = some y) e => insF_yes (f := cmpRj) (x := x) q e)
  have HE := Lib.hid (fun e => insF_end (f := cmpRj) (x := x) (l := l) e)
  generalize hr : insF cmpRj x l = r
  simp only [hr] at HY HE
  have HRR := Lib.hid hr
  clear h hr hsz
  obtain ⟨⟨x1, x2, x3, x4, x5, x6, x7⟩, x8⟩ := x
  simp only [RjV] at *
  obtain ⟨Y, hY⟩ : ∃ Y, w.alloc (.cells #[.string x1, .int .i64 x2, .int .i64 x3, .string x4, .string x5, .int .i64 x6, .int .i64 x7, .int .i64 x8] 36) = Y := ⟨_, rfl⟩
  have bY := Lib.hid (show Below w.heap.size w Y by rw [← hY]; exact (Below.refl _ w).al _)
  have BA : Blk Y w.heap.size #[.string x1, .int .i64 x2, .int .i64 x3, .string x4, .string x5, .int .i64 x6, .int .i64 x7, .int .i64 x8] 36 := by rw [← hY]; exact Blk.new w _ _
  have BX := Lib.hid BA.lt
  go_enter Try.func53, Try.ntmps53
  go_wp2_with fail
  clear hY
  go_loopw [5, 6, 7] (fun v dn i wr => ∃ (k : Nat) (A : Option Addr) (c : Nat) (o : List Rj) (b : Bool), k ≤ l.length ∧ i = .int .i64 k ∧ Hid ((l.take k).foldl (insStep cmpRj (⟨⟨x1, x2, x3, x4, x5, x6, x7⟩, x8⟩)) ([], false) = (o, b)) ∧ v = .slice A o.length c ∧ dn = .bool b ∧ Own 36 encRj 8 wr Y.heap.size A c o ∧ Hid (∀ y ∈ l.take k, cmpRj (⟨⟨x1, x2, x3, x4, x5, x6, x7⟩, x8⟩) y ≠ 0) ∧ Below Y.heap.size Y wr ∧ Blk wr w.heap.size #[.string x1, .int .i64 x2, .int .i64 x3, .string x4, .string x5, .int .i64 x6, .int .i64 x7, .int .i64 x8] 36) (fun _ _ i _ => l.length - (intOf i).toNat)
  case atStart => exact ⟨0, none, 0, [], false, Nat.zero_le _, rfl, rfl, rfl, rfl, Own.nil _ _, (fun y hy => by simp at hy), Below.refl _ _, BA⟩
  case round =>
    clear BA
    obtain ⟨k, Ao, co, o, dn, hk, rfl, HO, rfl, rfl, hown, HNE, bel, BA⟩ := hrel
    have bW := bY.out.st bel
    have hol : o.length ≤ 1001 := by have := HLN.out k; rw [HO.out] at this; exact this
    by_cases hi : k < l.length
    · obtain ⟨b, off, y, hA, hb, hx, d0, d1, d2, d3, d4, d5, d6, d7⟩ := H1.out.rj hi
      have CC := Lib.hid (CR.out y)
      have HS1 := Lib.hid ((HS.out k y hx).trans (by rw [HO.out]))
      have HY1 := Lib.hid (HY.out k y hx)
      have HTK := Lib.hid (take_snoc hx)
      have HC := Lib.hid (And.intro hb (And.intro d0 (And.intro d1 (And.intro d2 (And.intro d3 (And.intro d4 (And.intro d5 (And.intro d6 d7))))))))
      have hi1 : (0 : Int) ≤ (k : Int) := by omega
      have hi2 : (k : Int) < (l.length : Int) := by omega
      have HL := Lib.hid hi
      obtain ⟨⟨y1, y2, y3, y4, y5, y6, y7⟩, y8⟩ := y
      simp only [RjV] at CC HC
      generalize hcv : cmpRj ⟨⟨x1, x2, x3, x4, x5, x6, x7⟩, x8⟩ ⟨⟨y1, y2, y3, y4, y5, y6, y7⟩, y8⟩ = cv at *
      have HCV := Lib.hid hcv
      clear hcv hx hk hi hb d0 d1 d2 d3 d4 d5 d6 d7 HO
      subst hA
      have e0 := (bW.cell (p := ⟨b, off + k * 8, none⟩) HC.out.1).trans HC.out.2.1; have e1 := (bW.cell (p := ⟨b, off + k * 8 + 1, none⟩) HC.out.1).trans HC.out.2.2.1; have e2 := (bW.cell (p := ⟨b, off + k * 8 + 2, none⟩) HC.out.1).trans HC.out.2.2.2.1; have e3 := (bW.cell (p := ⟨b, off + k * 8 + 3, none⟩) HC.out.1).trans HC.out.2.2.2.2.1; have e4 := (bW.cell (p := ⟨b, off + k * 8 + 4, none⟩) HC.out.1).trans HC.out.2.2.2.2.2.1; have e5 := (bW.cell (p := ⟨b, off + k * 8 + 5, none⟩) HC.out.1).trans HC.out.2.2.2.2.2.2.1; have e6 := (bW.cell (p := ⟨b, off + k * 8 + 6, none⟩) HC.out.1).trans HC.out.2.2.2.2.2.2.2.1; have e7 := (bW.cell (p := ⟨b, off + k * 8 + 7, none⟩) HC.out.1).trans HC.out.2.2.2.2.2.2.2.2
      go_upto_region 6 with fail
      refine wp_region_held_drew (S := (fun w' : World => w'.cell? ⟨b, off + k * 8, none⟩ = some (.string y1) ∧ w'.cell? ⟨b, off + k * 8 + 1, none⟩ = some (.int .i64 y2) ∧ w'.cell? ⟨b, off + k * 8 + 2, none⟩ = some (.int .i64 y3) ∧ w'.cell? ⟨b, off + k * 8 + 3, none⟩ = some (.string y4) ∧ w'.cell? ⟨b, off + k * 8 + 4, none⟩ = some (.string y5) ∧ w'.cell? ⟨b, off + k * 8 + 5, none⟩ = some (.int .i64 y6) ∧ w'.cell? ⟨b, off + k * 8 + 6, none⟩ = some (.int .i64 y7) ∧ w'.cell? ⟨b, off + k * 8 + 7, none⟩ = some (.int .i64 y8) ∧ Blk w' w.heap.size #[.string x1, .int .i64 x2, .int .i64 x3, .string x4, .string x5, .int .i64 x6, .int .i64 x7, .int .i64 x8] 36)) (by kernel_rfl) ?_ (fun hHeld => ?_)
      focus exact ⟨e0, e1, e2, e3, e4, e5, e6, e7, BA.drew⟩
      have bel := bel.drew
      have bW := bW.drew
      have BA := BA.drew
      have hown := hown.drewN 1
      clear e0 e1 e2 e3 e4 e5 e6 e7
      change wpAnyH _ _ _ _ _ 7 _ _ _
      refine wpAnyH_take (i := 0) (v := .agg #[.string x1, .int .i64 x2, .int .i64 x3, .string x4, .string x5, .int .i64 x6, .int .i64 x7, .int .i64 x8]) (by simp only [List.getElem?_toArray, List.getElem?_cons_zero, List.getElem?_cons_succ]; rfl) (by kernel_rfl) (by kernel_rfl) (by kernel_rfl) (by intro _ _ _ h; exact h) (yieldsIf_boxLoad (by rfl) rfl rfl (fun _ hw => hw.2.2.2.2.2.2.2.2) ⟨_, Try.underlying36, by kernel_rfl⟩) (by assumption) ?_; (try simp only [Act.put, List.setIfInBounds_toArray, List.set_cons_zero, List.set_cons_succ, List.getElem_toArray, List.getElem_cons_zero, List.getElem_cons_succ])
      refine wpAnyH_take (i := 1) (v := ?_) (by simp only [List.getElem?_toArray, List.getElem?_cons_zero, List.getElem?_cons_succ]; rfl) (by kernel_rfl) (by kernel_rfl) (by kernel_rfl) (by intro _ _ _ h; exact h) (Or.inl ⟨by rfl, ?_⟩) (by assumption) ?_; rotate_left; (focus (intro w1 hSw; (try dsimp only at hSw); go_simp; (try with_reducible rfl))); (try simp only [Act.put, List.setIfInBounds_toArray, List.set_cons_zero, List.set_cons_succ, List.getElem_toArray, List.getElem_cons_zero, List.getElem_cons_succ])
      refine wpAnyH_take (i := 2) (v := ?_) (by simp only [List.getElem?_toArray, List.getElem?_cons_zero, List.getElem?_cons_succ]; rfl) (by kernel_rfl) (by kernel_rfl) (by kernel_rfl) (by intro _ _ _ h; exact h) (Or.inl ⟨by rfl, ?_⟩) (by assumption) ?_; rotate_left; (focus (intro w1 hSw; (try dsimp only at hSw); go_simp; (try with_reducible rfl))); (try simp only [Act.put, List.setIfInBounds_toArray, List.set_cons_zero, List.set_cons_succ, List.getElem_toArray, List.getElem_cons_zero, List.getElem_cons_succ])
      refine wpAnyH_take (i := 3) (v := ?_) (by simp only [List.getElem?_toArray, List.getElem?_cons_zero, List.getElem?_cons_succ]; rfl) (by kernel_rfl) (by kernel_rfl) (by kernel_rfl) (by intro _ _ _ h; exact h) (Or.inl ⟨by rfl, ?_⟩) (by assumption) ?_; rotate_left; (focus (intro w1 hSw; (try dsimp only at hSw); go_simp; (try with_reducible rfl))); (try simp only [Act.put, List.setIfInBounds_toArray, List.set_cons_zero, List.set_cons_succ, List.getElem_toArray, List.getElem_cons_zero, List.getElem_cons_succ])
      refine wpAnyH_take (i := 4) (v := ?_) (by simp only [List.getElem?_toArray, List.getElem?_cons_zero, List.getElem?_cons_succ]; rfl) (by kernel_rfl) (by kernel_rfl) (by kernel_rfl) (by intro _ _ _ h; exact h) (Or.inl ⟨by rfl, ?_⟩) (by assumption) ?_; rotate_left; (focus (intro w1 hSw; (try dsimp only at hSw); go_simp; (try with_reducible rfl))); (try simp only [Act.put, List.setIfInBounds_toArray, List.set_cons_zero, List.set_cons_succ, List.getElem_toArray, List.getElem_cons_zero, List.getElem_cons_succ])
      refine wpAnyH_ready (rs := [5]) (by kernel_rfl) (by simp) ?_; refine AllReadyH.cons (by simp only [List.getElem?_toArray, List.getElem?_cons_zero, List.getElem?_cons_succ]; rfl) (fun K hK => ?_) AllReadyH.nil
      rw [if_pos (by rfl)]; go_wp2_with fail
      refine (CC.out _).mono ?_
      rintro e wn ⟨rfl, hg⟩
      have hgb := hg.below
      have hown := hown.st hgb
      have bel := bel.st hgb
      have bW := bY.out.st bel
      have BA := BA.below hgb BA.lt
      have e0 := (bW.cell (p := ⟨b, off + k * 8, none⟩) HC.out.1).trans HC.out.2.1; have e1 := (bW.cell (p := ⟨b, off + k * 8 + 1, none⟩) HC.out.1).trans HC.out.2.2.1; have e2 := (bW.cell (p := ⟨b, off + k * 8 + 2, none⟩) HC.out.1).trans HC.out.2.2.2.1; have e3 := (bW.cell (p := ⟨b, off + k * 8 + 3, none⟩) HC.out.1).trans HC.out.2.2.2.2.1; have e4 := (bW.cell (p := ⟨b, off + k * 8 + 4, none⟩) HC.out.1).trans HC.out.2.2.2.2.2.1; have e5 := (bW.cell (p := ⟨b, off + k * 8 + 5, none⟩) HC.out.1).trans HC.out.2.2.2.2.2.2.1; have e6 := (bW.cell (p := ⟨b, off + k * 8 + 6, none⟩) HC.out.1).trans HC.out.2.2.2.2.2.2.2.1; have e7 := (bW.cell (p := ⟨b, off + k * 8 + 7, none⟩) HC.out.1).trans HC.out.2.2.2.2.2.2.2.2
      go_wp2_with fail
      refine hK.out _ _ ?_ (fun hHeld => ?_)
      focus exact ⟨e0, e1, e2, e3, e4, e5, e6, e7, BA⟩
      clear hK K hg hgb
      (try simp only [Act.put, List.setIfInBounds_toArray, List.set_cons_zero, List.set_cons_succ, List.getElem_toArray, List.getElem_cons_zero, List.getElem_cons_succ])
      refine wpAnyH_take (i := 6) (v := ?_) (by simp only [List.getElem?_toArray, List.getElem?_cons_zero, List.getElem?_cons_succ]; rfl) (by kernel_rfl) (by kernel_rfl) (by kernel_rfl) (by intro _ _ _ h; exact h) (Or.inl ⟨by rfl, ?_⟩) (by assumption) ?_; rotate_left; (focus (intro w1 hSw; (try dsimp only at hSw); go_simp; (try with_reducible rfl))); (try simp only [Act.put, List.setIfInBounds_toArray, List.set_cons_zero, List.set_cons_succ, List.getElem_toArray, List.getElem_cons_zero, List.getElem_cons_succ])
      refine wpAnyH_done (by kernel_rfl) ?_ _
      clear hHeld CC
      by_cases h0 : cv = 0
      · have R := Lib.hid (HY1.out h0)
        have t0 : (cv == 0) = true := by simp [h0]
        clear h0 HS1 HY1 HE
        go_wp2_with fail
        go_ret
        exact ⟨_, c, by rw [R.out]; rfl, by rw [R.out]; exact H1.out.st bW, bW⟩
      · have t0 : (cv == 0) = false := by simp [h0]
        have HNE2 := Lib.hid (show ∀ z ∈ l.take (k + 1), cmpRj ⟨⟨x1, x2, x3, x4, x5, x6, x7⟩, x8⟩ z ≠ 0 from fun z hz => by
          rw [HTK.out] at hz
          rcases List.mem_append.1 hz with hz | hz
          · exact HNE.out z hz
          · rw [List.mem_singleton] at hz; subst hz; rw [HCV.out]; exact h0)
        cases dn
        · by_cases hlt : cv < 0
          · have HST := Lib.hid (HS1.out.trans (show insStep cmpRj ⟨⟨x1, x2, x3, x4, x5, x6, x7⟩, x8⟩ (o, false) ⟨⟨y1, y2, y3, y4, y5, y6, y7⟩, y8⟩ = (o ++ [⟨⟨x1, x2, x3, x4, x5, x6, x7⟩, x8⟩] ++ [⟨⟨y1, y2, y3, y4, y5, y6, y7⟩, y8⟩], true) by unfold insStep; rw [if_pos ⟨rfl, by rw [HCV.out]; exact hlt⟩]))
            clear h0 HS1 HY1 HNE HCV HTK
            go_wp2_with (first | (refine wpList_boxLoad rfl (ty := 36) (x := .tmp 3) (cs := #[.string x1, .int .i64 x2, .int .i64 x3, .string x4, .string x5, .int .i64 x6, .int .i64 x7, .int .i64 x8]) rfl BA rfl ⟨_, Try.underlying36, by kernel_rfl⟩ ?_) | ((at_builtin; refine wpList_app1 rfl (.tmp 30) (.tmp 32) tyRj encRj_ok rfl (⟨⟨x1, x2, x3, x4, x5, x6, x7⟩, x8⟩) rfl _ rfl (by simp) hown rfl (by first | rfl | simp) (by first | omega | (simp; omega)) (by first | omega | (simp; omega)) bel.size ?_; intro A1 c1 w1 hown1 hb1 hs1 hf1; have hbel1 := bel.trans hb1); have bel := hbel1; have bW := bY.out.st hbel1; have BA := BA.below hb1 BX.out; have e0 := (bW.cell (p := ⟨b, off + k * 8, none⟩) HC.out.1).trans HC.out.2.1; have e1 := (bW.cell (p := ⟨b, off + k * 8 + 1, none⟩) HC.out.1).trans HC.out.2.2.1; have e2 := (bW.cell (p := ⟨b, off + k * 8 + 2, none⟩) HC.out.1).trans HC.out.2.2.2.1; have e3 := (bW.cell (p := ⟨b, off + k * 8 + 3, none⟩) HC.out.1).trans HC.out.2.2.2.2.1; have e4 := (bW.cell (p := ⟨b, off + k * 8 + 4, none⟩) HC.out.1).trans HC.out.2.2.2.2.2.1; have e5 := (bW.cell (p := ⟨b, off + k * 8 + 5, none⟩) HC.out.1).trans HC.out.2.2.2.2.2.2.1; have e6 := (bW.cell (p := ⟨b, off + k * 8 + 6, none⟩) HC.out.1).trans HC.out.2.2.2.2.2.2.2.1; have e7 := (bW.cell (p := ⟨b, off + k * 8 + 7, none⟩) HC.out.1).trans HC.out.2.2.2.2.2.2.2.2) | ((at_builtin; refine wpList_app1 rfl (.tmp 34) (.tmp 39) tyRj encRj_ok rfl (⟨⟨y1, y2, y3, y4, y5, y6, y7⟩, y8⟩) rfl _ rfl (by simp) hown1 rfl (by first | rfl | simp) (by first | omega | (simp; omega)) (by first | omega | (simp; omega)) bel.size ?_; intro A2 c2 w2 hown2 hb2 hs2 hf2; have hbel2 := bel.trans hb2); have bW := bY.out.st hbel2; have BA := BA.below hb2 BX.out))
            go_roundw
            case rel => exact ⟨k + 1, A2, c2, _, true, HL.out, by go_num, HST, by simp, rfl, hown2, HNE2, hbel2, BA⟩
            case measure => have := HL.out; simp [intOf]; omega
          · have HST := Lib.hid (HS1.out.trans (show insStep cmpRj ⟨⟨x1, x2, x3, x4, x5, x6, x7⟩, x8⟩ (o, false) ⟨⟨y1, y2, y3, y4, y5, y6, y7⟩, y8⟩ = (o ++ [⟨⟨y1, y2, y3, y4, y5, y6, y7⟩, y8⟩], false) by unfold insStep; rw [if_neg (fun q => hlt (by rw [← HCV.out]; exact q.2))]))
            clear h0 HS1 HY1 HNE HCV HTK
            go_wp2_with (first | (refine wpList_boxLoad rfl (ty := 36) (x := .tmp 3) (cs := #[.string x1, .int .i64 x2, .int .i64 x3, .string x4, .string x5, .int .i64 x6, .int .i64 x7, .int .i64 x8]) rfl BA rfl ⟨_, Try.underlying36, by kernel_rfl⟩ ?_) | ((at_builtin; refine wpList_app1 rfl (.tmp 34) (.tmp 39) tyRj encRj_ok rfl (⟨⟨y1, y2, y3, y4, y5, y6, y7⟩, y8⟩) rfl _ rfl (by simp) hown rfl (by first | rfl | simp) (by first | omega | (simp; omega)) (by first | omega | (simp; omega)) bel.size ?_; intro A2 c2 w2 hown2 hb2 hs2 hf2; have hbel2 := bel.trans hb2); have bW := bY.out.st hbel2; have BA := BA.below hb2 BX.out))
            go_roundw
            case rel => exact ⟨k + 1, A2, c2, _, false, HL.out, by go_num, HST, by simp, rfl, hown2, HNE2, hbel2, BA⟩
            case measure => have := HL.out; simp [intOf]; omega
        · have HST := Lib.hid (HS1.out.trans (show insStep cmpRj ⟨⟨x1, x2, x3, x4, x5, x6, x7⟩, x8⟩ (o, true) ⟨⟨y1, y2, y3, y4, y5, y6, y7⟩, y8⟩ = (o ++ [⟨⟨y1, y2, y3, y4, y5, y6, y7⟩, y8⟩], true) by unfold insStep; rw [if_neg (fun q => by cases q.1)]))
          clear h0 HS1 HY1 HNE HCV HTK
          go_wp2_with (first | (refine wpList_boxLoad rfl (ty := 36) (x := .tmp 3) (cs := #[.string x1, .int .i64 x2, .int .i64 x3, .string x4, .string x5, .int .i64 x6, .int .i64 x7, .int .i64 x8]) rfl BA rfl ⟨_, Try.underlying36, by kernel_rfl⟩ ?_) | ((at_builtin; refine wpList_app1 rfl (.tmp 34) (.tmp 39) tyRj encRj_ok rfl (⟨⟨y1, y2, y3, y4, y5, y6, y7⟩, y8⟩) rfl _ rfl (by simp) hown rfl (by first | rfl | simp) (by first | omega | (simp; omega)) (by first | omega | (simp; omega)) bel.size ?_; intro A2 c2 w2 hown2 hb2 hs2 hf2; have hbel2 := bel.trans hb2); have bW := bY.out.st hbel2; have BA := BA.below hb2 BX.out))
          go_roundw
          case rel => exact ⟨k + 1, A2, c2, _, true, HL.out, by go_num, HST, by simp, rfl, hown2, HNE2, hbel2, BA⟩
          case measure => have := HL.out; simp [intOf]; omega
    · obtain rfl : k = l.length := by omega
      have HNE := HNE.out
      have HO := HO.out
      rw [List.take_length] at HNE HO
      have R0 := HE.out HNE
      rw [HO] at R0
      clear HNE HO HE HS HY HLN
      cases dn
      · have R := Lib.hid (R0.trans (if_neg (by simp)))
        clear R0
        go_wp2_with (first | (refine wpList_boxLoad rfl (ty := 36) (x := .tmp 3) (cs := #[.string x1, .int .i64 x2, .int .i64 x3, .string x4, .string x5, .int .i64 x6, .int .i64 x7, .int .i64 x8]) rfl BA rfl ⟨_, Try.underlying36, by kernel_rfl⟩ ?_) | ((at_builtin; refine wpList_app1 rfl (.tmp 43) (.tmp 45) tyRj encRj_ok rfl (⟨⟨x1, x2, x3, x4, x5, x6, x7⟩, x8⟩) rfl _ rfl (by simp) hown rfl (by first | rfl | simp) (by first | omega | (simp; omega)) (by first | omega | (simp; omega)) bel.size ?_; intro A1 c1 w1 hown1 hb1 hs1 hf1; have hbel1 := bel.trans hb1)))
        go_ret
        first | exact ⟨A1, c1, by rw [R.out]; simp, by rw [R.out]; exact hown1.rd encRj_ok, bY.out.st hbel1⟩ | exact ⟨A1, ⟨c1, by rw [R.out]; simp⟩, by rw [R.out]; exact hown1.rd encRj_ok, bY.out.st hbel1⟩
      · have R := Lib.hid (R0.trans (if_pos rfl))
        clear R0
        go_wp2_with fail
        go_ret
        first | exact ⟨Ao, co, by rw [R.out]; rfl, by rw [R.out]; exact hown.rd encRj_ok, bW⟩ | exact ⟨Ao, ⟨co, by rw [R.out]; rfl⟩, by rw [R.out]; exact hown.rd encRj_ok, bW⟩
end Go.Proofs.Ytgkppjkmakomnaa
