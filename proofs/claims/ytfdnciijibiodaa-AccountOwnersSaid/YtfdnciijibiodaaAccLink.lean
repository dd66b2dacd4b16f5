/- account.Link, walked. -/
import Derived.Test.YtfdnciijibiodaaAccLinkM
import Derived.Deep.RegionHeld3
set_option linter.unusedSimpArgs false
namespace Go.Proofs.Ytfdnciijibiodaa
open Go.RowKit Go.Lib

set_option maxRecDepth 100000 in
set_option maxHeartbeats 16000000 in
theorem link_any {A : Option Addr} (c : Nat) {l : List Ac} (s : ByteArray) (o : Ow) {w : World} (h : AL w A c l) (hsm : smL l) (ho : smO o) :
    Calls Try.prog 15 #[.slice A l.length c, .string s, OwV o] w fun e w' => MovR (linkL (vals l) s o) (linkE (vals l) s o) w w' e := by
  obtain ⟨tg, pl, f, t⟩ := o
  have H := Lib.hid h
  have HSM := Lib.hid hsm
  have hl1 : l.length ≤ 1000 := hsm.1
  obtain ⟨Y, hY⟩ : ∃ Y, w.alloc (.cells #[.string tg, .string pl, .int .i64 f, .int .i64 t] 43) = Y := ⟨_, rfl⟩
  have bW : Below w.heap.size w Y := by rw [← hY]; exact (Below.refl _ w).al _
  have BO : Blk Y w.heap.size #[.string tg, .string pl, .int .i64 f, .int .i64 t] 43 := by rw [← hY]; exact Blk.new w _ _
  have CI := Lib.hid (index_any c s (h.1.st bW) (by omega))
  have CC := Lib.hid (fun (X : World) => correct_any ⟨tg, pl, f, t⟩ ho X)
  have CF := Lib.hid (fun (y : Ac) (hy : y ∈ l) (X : World) (hX : Below w.heap.size w X) => conflicts_any y.oc ⟨tg, pl, f, t⟩ (h.2.1.st hX y hy).1 (by have := (hsm.2 y hy).1; omega))
  have CA := Lib.hid (fun (X : World) (hX : Below w.heap.size w X) => cloneall_any c (h.st hX) hsm)
  have H25 := Lib.hid (fun q => linkE_25 (L := vals l) (s := s) (o := ⟨tg, pl, f, t⟩) q)
  have HBD := Lib.hid (fun (a : Av) q q1 => linkE_bad (L := vals l) (s := s) (o := ⟨tg, pl, f, t⟩) (a := a) q q1)
  have H3 := Lib.hid (fun (a : Av) q q1 q2 => linkE_3 (L := vals l) (s := s) (o := ⟨tg, pl, f, t⟩) (a := a) q q1 q2)
  have H9 := Lib.hid (fun (a : Av) q q1 q2 q3 => linkE_9 (L := vals l) (s := s) (o := ⟨tg, pl, f, t⟩) (a := a) q q1 q2 q3)
  have H0 := Lib.hid (fun (a : Av) q q1 q2 q3 => linkE_0 (L := vals l) (s := s) (o := ⟨tg, pl, f, t⟩) (a := a) q q1 q2 q3)
  have HN := Lib.hid (fun q => linkL_no (L := vals l) (s := s) (o := ⟨tg, pl, f, t⟩) q)
  have HY1 := Lib.hid (fun q => linkL_yes (L := vals l) (s := s) (o := ⟨tg, pl, f, t⟩) q)
  generalize linkE (vals l) s _ = rE at *
  generalize linkL (vals l) s _ = rL at *
  generalize hce : corrE _ = ce at *
  clear h hsm ho
  simp only [OwV] at *
  unfold MovR
  go_enter Try.func15, Try.ntmps15
  go_wp2_with fail
  refine CI.out.mono ?_
  rintro e w2 ⟨⟨i, rfl, hI⟩, hbn⟩
  have bW := bW.st hbn; have BO := BO.below hbn BO.lt
  clear hbn
  rcases findA_idx hI with ⟨rfl, hn⟩ | ⟨k, a, rfl, hx, hp, hno, hn⟩
  · have R := Lib.hid (show rE = 25 ∧ vals l = rL from ⟨H25.out hn, (HN.out (by rw [H25.out hn]; decide)).symm⟩)
    clear hI hn
    go_wp2_with fail; go_ret2; (obtain ⟨rfl, rfl⟩ := R.out); exact ⟨_, c, l, rfl, rfl, H.out.st bW, bW⟩
  · have o0 := BO.cell 0 (v := .string tg) rfl; have o1 := BO.cell 1 (v := .string pl) rfl; have o2 := BO.cell 2 (v := .int .i64 f) rfl; have o3 := BO.cell 3 (v := .int .i64 t) rfl
    have k0 : (0 : Int) ≤ (k : Int) := by omega
    have HX := Lib.hid hx
    have HP := Lib.hid hp
    have HNO := Lib.hid hno
    have HF := Lib.hid hn
    clear hI hx hp hno hn
    by_cases hc : ce = 0
    · subst hc
      have K3 := Lib.hid (H3.out a.v HF.out rfl)
      have K9 := Lib.hid (H9.out a.v HF.out rfl)
      have K0 := Lib.hid (H0.out a.v HF.out rfl)
      clear H3 H9 H0 HBD H25 hce
      have hkl := (List.getElem?_eq_some_iff.1 HX.out).1
      have k1 : (k : Int) < (l.length : Int) := by omega
      go_wp2_with fail
      refine (CC.out _).mono ?_
      rintro e w3 ⟨rfl, hbn⟩
      have bW := bW.st hbn; have BO := BO.below hbn BO.lt
      clear hbn
      obtain ⟨b, off, a', rfl, hb, hx', d0, d1, d2, d3, d4, d5, d6, d7, d8⟩ := (H.out.1.st bW).ac hkl
      rw [HX.out] at hx'
      obtain rfl := Option.some.inj hx'
      clear hx' d0 d1 d2 d4 d5 d6 d7 d8
      by_cases h64 : 64 ≤ a.v.os.length
      · have R := Lib.hid (show rE = 3 ∧ vals l = rL from ⟨K3.out h64, (HN.out (by rw [K3.out h64]; decide)).symm⟩)
        have h64b : 64 ≤ (a.v.os.length : Int) := by omega
        clear h64
        go_wp2_with fail; go_ret2; (obtain ⟨rfl, rfl⟩ := R.out); exact ⟨_, c, l, rfl, rfl, H.out.st bW, bW⟩
      · have h64b : ¬ 64 ≤ (a.v.os.length : Int) := by omega
        have J9 := Lib.hid (K9.out h64)
        have J0 := Lib.hid (K0.out h64)
        have HLN := Lib.hid (show a.v.os.length < 64 by omega)
        clear h64 K3 K9 K0 CC CI
        go_wp2_with fail
        clear d3
        go_loopw [35] (fun i wr => ∃ j : Nat, j ≤ l.length ∧ i = .int .i64 j ∧ Hid (∀ y ∈ l.take j, conL y.v.os ⟨tg, pl, f, t⟩ = false) ∧ Blk wr w.heap.size #[.string tg, .string pl, .int .i64 f, .int .i64 t] 43 ∧ Below w.heap.size w wr) (fun i _ => l.length - (RowKit.intOf i).toNat)
        case atStart => exact ⟨0, Nat.zero_le _, rfl, (by unfold Hid; simp), BO, bW⟩
        case round =>
          clear BO bW o0 o1 o2 o3
          obtain ⟨j, hj, rfl, HQ, BO, bW⟩ := hrel
          by_cases hi : j < l.length
          · obtain ⟨b2, off2, y, hA, hb2, hy, d0, d1, d2, d3, d4, d5, d6, d7, d8⟩ := (H.out.1.st bW).ac hi
            injection hA with hA
            injection hA with hA1 hA2
            subst hA1 hA2
            obtain ⟨Y4, hY4⟩ : ∃ Y, wr.alloc (.cells #[.string y.v.name, .string y.v.ag, .bool y.v.pre, .slice y.oA y.v.os.length y.oc, .int .i64 y.v.r0, .int .i64 y.v.r1, .int .i64 y.v.r2, .int .i64 y.v.r3, .bool y.v.ex] 39) = Y := ⟨_, rfl⟩
            have BY : Blk Y4 wr.heap.size #[.string y.v.name, .string y.v.ag, .bool y.v.pre, .slice y.oA y.v.os.length y.oc, .int .i64 y.v.r0, .int .i64 y.v.r1, .int .i64 y.v.r2, .int .i64 y.v.r3, .bool y.v.ex] 39 := by rw [← hY4]; exact Blk.new wr _ _
            have bW4 : Below w.heap.size w Y4 := by rw [← hY4]; exact bW.al _
            have BO4 := BO.alloc (.cells #[.string y.v.name, .string y.v.ag, .bool y.v.pre, .slice y.oA y.v.os.length y.oc, .int .i64 y.v.r0, .int .i64 y.v.r1, .int .i64 y.v.r2, .int .i64 y.v.r3, .bool y.v.ex] 39)
            rw [hY4] at BO4
            have y3 := BY.cell 3 (v := .slice y.oA y.v.os.length y.oc) rfl
            have o0 := BO4.cell 0 (v := .string tg) rfl
            have o1 := BO4.cell 1 (v := .string pl) rfl
            have o2 := BO4.cell 2 (v := .int .i64 f) rfl
            have o3 := BO4.cell 3 (v := .int .i64 t) rfl
            have CFy := Lib.hid (CF.out y (List.mem_of_getElem? hy) Y4 bW4)
            have HJ := Lib.hid hi
            have HYy := Lib.hid hy
            clear hy hi BO bW
            go_wp2_with fail
            refine CFy.out.mono ?_
            rintro e w5 ⟨rfl, hbn⟩
            have bW := bW4.st hbn
            have BO := BO4.below hbn BO4.lt
            cases hf : conL y.v.os ⟨tg, pl, f, t⟩
            · have RM := Lib.hid (all_succ' (p := fun y : Ac => conL y.v.os ⟨tg, pl, f, t⟩) HYy.out HQ.out hf)
              clear hf
              go_wp2_with fail
              go_roundw
              case rel => exact ⟨j + 1, HJ.out, by go_num, RM, BO, bW⟩
              case measure => have := HJ.out; simp [RowKit.intOf]; omega
            · have e9 := J9.out (anyc_at HYy.out hf)
              have R := Lib.hid (show rE = 9 ∧ vals l = rL from ⟨e9, (HN.out (by rw [e9]; decide)).symm⟩)
              clear hf e9
              go_wp2_with fail; go_ret2; (obtain ⟨rfl, rfl⟩ := R.out); exact ⟨_, c, l, rfl, rfl, H.out.st bW, bW⟩
          · obtain rfl : j = l.length := by omega
            have e0 := J0.out (anyc_no HQ.out)
            have R := Lib.hid (show rE = 0 ∧ rL = modF (named s) (fun a => { a with os := a.os ++ [⟨tg, pl, f, t⟩] }) (vals l) from ⟨e0, HY1.out e0⟩)
            clear e0 J9 J0 HY1 HN
            have hltw := BO.lt
            go_wp2_with fail
            refine (CA.out _ bW).mono ?_
            rintro e w6 ⟨g, cs, rfl, hv, hown, hcl, hbn⟩
            have bW := bW.st hbn; have BO := BO.below hbn BO.lt
            have hlen : cs.length = l.length := by
              have : (vals cs).length = (vals l).length := by rw [hv]
              unfold vals at this
              rwa [List.length_map, List.length_map] at this
            obtain ⟨y, hy⟩ : ∃ y, cs[k]? = some y := ⟨_, List.getElem?_eq_getElem (by omega)⟩
            have hyv : y.v = a.v := by
              have h1 := vals_get hy
              rw [hv, vals_get HX.out] at h1
              exact (Option.some.inj h1).symm
            obtain ⟨yv, yA, yc⟩ := y
            simp only at hyv
            subst hyv
            obtain ⟨g2, hA2, hown2⟩ := hcl.1 _ (List.mem_of_getElem? hy)
            simp only at hA2 hown2
            subst hA2
            have hg := World.ownsRow.lt hown g (by simp [Value.ownBlock])
            have hg2 := World.ownsRow.lt hown2 g2 (by simp [Value.ownBlock])
            have bsz := bW.size
            have bsz2 := hbn.size
            have hltO := BO.lt
            have HNC := Lib.hid (show ∀ z ∈ cs.take k, eqS z.v.name s = false from fun z hz => by
              have hz2 : z.v ∈ (vals cs).take k := by unfold vals; rw [← List.map_take]; exact List.mem_map.2 ⟨z, hz, rfl⟩
              rw [hv] at hz2
              unfold vals at hz2
              rw [← List.map_take, List.mem_map] at hz2
              obtain ⟨z', hz', e⟩ := hz2
              rw [← e]
              exact HNO.out z' hz')
            have HV := Lib.hid hv
            have k9 : (k : Int) < (cs.length : Int) := by omega
            have q3 : World.cell? w6 ⟨g, k * 9 + 3, none⟩ = some (.slice (some ⟨g2, 0, none⟩) a.v.os.length yc) := hown.cells encAc_ok rfl hy (j := 3) rfl
            have f3 : World.frozen? w6 ⟨g, k * 9 + 3, none⟩ = false := hown.frozen rfl _
            have hgo : w.heap.size < g := by omega
            clear CA CF HX HF hj bsz2 hbn hv HNO HSM HQ hlen
            go_upto_region 16 with fail
            refine wp_region_held_drew (S := (fun w' : World => Blk w' w.heap.size #[.string tg, .string pl, .int .i64 f, .int .i64 t] 43)) (by kernel_rfl) ?_ (fun hHeld => ?_)
            focus exact BO.drew
            have bW := bW.drew
            have BO := BO.drew
            have q3 : World.cell? w6.drew ⟨g, k * 9 + 3, none⟩ = some (.slice (some ⟨g2, 0, none⟩) a.v.os.length yc) := q3
            have f3 : World.frozen? w6.drew ⟨g, k * 9 + 3, none⟩ = false := f3
            have hown := hown.drew
            have hcl : CList w6.drew (g + 1) cs := hcl
            have hown2 := hown2.drew
            have hg : g < w6.drew.heap.size := hg.2
            have hg2 : g < g2 := by omega
            generalize w6.drew = W0 at *
            change wpAnyH _ _ _ _ _ 13 _ _ _
            refine wpAnyH_take (i := 0) (v := ?_) (by simp only [List.getElem?_toArray, List.getElem?_cons_zero, List.getElem?_cons_succ]; rfl) (by kernel_rfl) (by kernel_rfl) (by kernel_rfl) (by intro _ _ _ h; exact h) (Or.inl ⟨by rfl, ?_⟩) (by assumption) ?_; rotate_left; (focus (intro w1 hSw; (try dsimp only at hSw); go_simp; (try with_reducible rfl))); (try simp only [Act.put, List.setIfInBounds_toArray, List.set_cons_zero, List.set_cons_succ, List.getElem_toArray, List.getElem_cons_zero, List.getElem_cons_succ])
            refine wpAnyH_take (i := 1) (v := ?_) (by simp only [List.getElem?_toArray, List.getElem?_cons_zero, List.getElem?_cons_succ]; rfl) (by kernel_rfl) (by kernel_rfl) (by kernel_rfl) (by intro _ _ _ h; exact h) (Or.inl ⟨by rfl, ?_⟩) (by assumption) ?_; rotate_left; (focus (intro w1 hSw; (try dsimp only at hSw); go_simp; (try with_reducible rfl))); (try simp only [Act.put, List.setIfInBounds_toArray, List.set_cons_zero, List.set_cons_succ, List.getElem_toArray, List.getElem_cons_zero, List.getElem_cons_succ])
            refine wpAnyH_take (i := 2) (v := ?_) (by simp only [List.getElem?_toArray, List.getElem?_cons_zero, List.getElem?_cons_succ]; rfl) (by kernel_rfl) (by kernel_rfl) (by kernel_rfl) (by intro _ _ _ h; exact h) (Or.inl ⟨by rfl, ?_⟩) (by assumption) ?_; rotate_left; (focus (intro w1 hSw; (try dsimp only at hSw); go_simp; (try with_reducible rfl))); (try simp only [Act.put, List.setIfInBounds_toArray, List.set_cons_zero, List.set_cons_succ, List.getElem_toArray, List.getElem_cons_zero, List.getElem_cons_succ])
            refine wpAnyH_take (i := 3) (v := ?_) (by simp only [List.getElem?_toArray, List.getElem?_cons_zero, List.getElem?_cons_succ]; rfl) (by kernel_rfl) (by kernel_rfl) (by kernel_rfl) (by intro _ _ _ h; exact h) (Or.inl ⟨by rfl, ?_⟩) (by assumption) ?_; rotate_left; (focus (intro w1 hSw; (try dsimp only at hSw); go_simp; (try with_reducible rfl))); (try simp only [Act.put, List.setIfInBounds_toArray, List.set_cons_zero, List.set_cons_succ, List.getElem_toArray, List.getElem_cons_zero, List.getElem_cons_succ])
            refine wpAnyH_take (i := 4) (v := ?_) (by simp only [List.getElem?_toArray, List.getElem?_cons_zero, List.getElem?_cons_succ]; rfl) (by kernel_rfl) (by kernel_rfl) (by kernel_rfl) (by intro _ _ _ h; exact h) (Or.inl ⟨by rfl, ?_⟩) (by assumption) ?_; rotate_left; (focus (intro w1 hSw; (try dsimp only at hSw); go_simp; (try with_reducible rfl))); (try simp only [Act.put, List.setIfInBounds_toArray, List.set_cons_zero, List.set_cons_succ, List.getElem_toArray, List.getElem_cons_zero, List.getElem_cons_succ])
            refine wpAnyH_take (i := 5) (v := ?_) (by simp only [List.getElem?_toArray, List.getElem?_cons_zero, List.getElem?_cons_succ]; rfl) (by kernel_rfl) (by kernel_rfl) (by kernel_rfl) (by intro _ _ _ h; exact h) (Or.inl ⟨by rfl, ?_⟩) (by assumption) ?_; rotate_left; (focus (intro w1 hSw; (try dsimp only at hSw); go_simp; (try with_reducible rfl))); (try simp only [Act.put, List.setIfInBounds_toArray, List.set_cons_zero, List.set_cons_succ, List.getElem_toArray, List.getElem_cons_zero, List.getElem_cons_succ])
            refine wpAnyH_take (i := 7) (v := .agg #[.string tg, .string pl, .int .i64 f, .int .i64 t]) (by simp only [List.getElem?_toArray, List.getElem?_cons_zero, List.getElem?_cons_succ]; rfl) (by kernel_rfl) (by kernel_rfl) (by kernel_rfl) (by intro _ _ _ h; exact h) (yieldsIf_boxLoad (by rfl) rfl rfl (fun _ hw => hw) ⟨_, Try.underlying43, by kernel_rfl⟩) (by assumption) ?_; (try simp only [Act.put, List.setIfInBounds_toArray, List.set_cons_zero, List.set_cons_succ, List.getElem_toArray, List.getElem_cons_zero, List.getElem_cons_succ])
            refine wpAnyH_ready (rs := [6, 8]) (by kernel_rfl) (by simp) ?_; refine AllReadyH.cons (by simp only [List.getElem?_toArray, List.getElem?_cons_zero, List.getElem?_cons_succ]; rfl) (fun K hK => ?_) (AllReadyH.cons (by simp only [List.getElem?_toArray, List.getElem?_cons_zero, List.getElem?_cons_succ]; rfl) (fun K hK => ?_) AllReadyH.nil)
            · rw [if_pos (by rfl)]
              go_wp2_with fail
              refine hK.out _ _ ?_ (fun hHeld => ?_); (focus exact BO); clear hK K; (try simp only [Act.put, List.setIfInBounds_toArray, List.set_cons_zero, List.set_cons_succ, List.getElem_toArray, List.getElem_cons_zero, List.getElem_cons_succ])
              obtain ⟨W1, hW1⟩ : ∃ x, World.alloc W0 (.cells #[.string tg, .string pl, .int .i64 f, .int .i64 t] 43) = x := ⟨_, rfl⟩
              have BN : Blk W1 W0.heap.size #[.string tg, .string pl, .int .i64 f, .int .i64 t] 43 := (by rw [← hW1]; exact Blk.new _ _ _); have hbn : Below W0.heap.size W0 W1 := (by rw [← hW1]; exact (Below.refl _ _).al _); have BO := BO.below hbn BO.lt; have bW := bW.st hbn; have q3 : World.cell? W1 ⟨g, k * 9 + 3, none⟩ = some (.slice (some ⟨g2, 0, none⟩) a.v.os.length yc) := (hbn.cell (p := ⟨g, k * 9 + 3, none⟩) hg).trans q3; have f3 : World.frozen? W1 ⟨g, k * 9 + 3, none⟩ = false := (hbn.frozen (p := ⟨g, k * 9 + 3, none⟩) hg).trans f3; have hown := hown.st hbn; have hcl := hcl.st hbn; have hown2 := hown2.st hbn; have hg1 : g < W1.heap.size := Nat.lt_of_lt_of_le hg hbn.size; clear hbn
              refine wpAnyH_ready (rs := [8]) (by kernel_rfl) (by simp) ?_; refine AllReadyH.cons (by simp only [List.getElem?_toArray, List.getElem?_cons_zero, List.getElem?_cons_succ]; rfl) (fun K hK => ?_) AllReadyH.nil
              rw [if_pos (by rfl)]
              go_wp2_with fail
              refine hK.out _ _ ?_ (fun hHeld => ?_); (focus exact BO); clear hK K; (try simp only [Act.put, List.setIfInBounds_toArray, List.set_cons_zero, List.set_cons_succ, List.getElem_toArray, List.getElem_cons_zero, List.getElem_cons_succ])
              clear hW1
              refine wpAnyH_ready (rs := [9]) (by kernel_rfl) (by simp) ?_; refine AllReadyH.cons (by simp only [List.getElem?_toArray, List.getElem?_cons_zero, List.getElem?_cons_succ]; rfl) (fun K hK => ?_) AllReadyH.nil; rw [if_pos (by rfl)]; refine wp_appB (l := a.v.os) (.tmp 53) (.tmp 55) tyOw encOw_ok (by rfl) (⟨tg, pl, f, t⟩ : Ow) (by rfl) (g + 1) (by rfl) (by rfl) hown2 (by rfl) BN (by have := HLN.out; omega) (by have := HLN.out; omega) (Nat.succ_le_of_lt hg1) ?_; intro A9 c9 w9 hown9 hb9 hs9 hf9; have BO := BO.below hb9 (by omega); refine hK.out _ _ ?_ (fun hHeld => ?_); (focus exact BO); clear hK K; (try simp only [Act.put, List.setIfInBounds_toArray, List.set_cons_zero, List.set_cons_succ, List.getElem_toArray, List.getElem_cons_zero, List.getElem_cons_succ]); refine wpAnyH_take (i := 10) (v := ?_) (by simp only [List.getElem?_toArray, List.getElem?_cons_zero, List.getElem?_cons_succ]; rfl) (by kernel_rfl) (by kernel_rfl) (by kernel_rfl) (by intro _ _ _ h; exact h) (Or.inl ⟨by rfl, ?_⟩) (by assumption) ?_; rotate_left; (focus (intro w1 hSw; (try dsimp only at hSw); go_simp; (try with_reducible rfl))); (try simp only [Act.put, List.setIfInBounds_toArray, List.set_cons_zero, List.set_cons_succ, List.getElem_toArray, List.getElem_cons_zero, List.getElem_cons_succ]); refine wpAnyH_take (i := 11) (v := ?_) (by simp only [List.getElem?_toArray, List.getElem?_cons_zero, List.getElem?_cons_succ]; rfl) (by kernel_rfl) (by kernel_rfl) (by kernel_rfl) (by intro _ _ _ h; exact h) (Or.inl ⟨by rfl, ?_⟩) (by assumption) ?_; rotate_left; (focus (intro w1 hSw; (try dsimp only at hSw); go_simp; (try with_reducible rfl))); (try simp only [Act.put, List.setIfInBounds_toArray, List.set_cons_zero, List.set_cons_succ, List.getElem_toArray, List.getElem_cons_zero, List.getElem_cons_succ]); refine wpAnyH_ready (rs := [12]) (by kernel_rfl) (by simp) ?_; refine AllReadyH.cons (by simp only [List.getElem?_toArray, List.getElem?_cons_zero, List.getElem?_cons_succ]; rfl) (fun K hK => ?_) AllReadyH.nil; (have q3 : World.cell? w9 ⟨g, k * 9 + 3, none⟩ = some (.slice (some ⟨g2, 0, none⟩) a.v.os.length yc) := (hb9.cell (p := ⟨g, k * 9 + 3, none⟩) (Nat.lt_succ_self g)).trans q3); (have f3 : World.frozen? w9 ⟨g, k * 9 + 3, none⟩ = false := (hb9.frozen (p := ⟨g, k * 9 + 3, none⟩) (Nat.lt_succ_self g)).trans f3); rw [if_pos (by rfl)]; go_wp2_with fail; refine hK.out _ _ ?_ (fun hHeld => ?_); (focus exact BO.other (p := ⟨g, k * 9 + 3, none⟩) (by show w.heap.size ≠ g; omega) _); clear hK K; (try simp only [Act.put, List.setIfInBounds_toArray, List.set_cons_zero, List.set_cons_succ, List.getElem_toArray, List.getElem_cons_zero, List.getElem_cons_succ]); refine wpAnyH_done (by kernel_rfl) ?_ _; go_wp2_with fail; go_ret2; (obtain ⟨rfl, rfl⟩ := R.out); exact ⟨_, _, cs.set k ⟨{ a.v with os := a.v.os ++ [⟨tg, pl, f, t⟩] }, A9, c9⟩, by rw [List.length_set]; rfl, (put_vals hy HP.out HNC.out (fun v => v.os ++ [⟨tg, pl, f, t⟩]) A9 c9).trans (by rw [HV.out]), by have := append_end hown hcl.r hy hown9 hb9 hs9 hf9; rw [List.length_append] at this; exact this, (bW.trans (hb9.mono (by omega))).setCell (p := ⟨g, k * 9 + 3, none⟩) (by show w.heap.size ≤ g; omega) _⟩
            · obtain ⟨W1, hW1⟩ : ∃ x, World.alloc W0 (.cells #[.string tg, .string pl, .int .i64 f, .int .i64 t] 43) = x := ⟨_, rfl⟩
              have BN : Blk W1 W0.heap.size #[.string tg, .string pl, .int .i64 f, .int .i64 t] 43 := (by rw [← hW1]; exact Blk.new _ _ _); have hbn : Below W0.heap.size W0 W1 := (by rw [← hW1]; exact (Below.refl _ _).al _); have BO := BO.below hbn BO.lt; have bW := bW.st hbn; have q3 : World.cell? W1 ⟨g, k * 9 + 3, none⟩ = some (.slice (some ⟨g2, 0, none⟩) a.v.os.length yc) := (hbn.cell (p := ⟨g, k * 9 + 3, none⟩) hg).trans q3; have f3 : World.frozen? W1 ⟨g, k * 9 + 3, none⟩ = false := (hbn.frozen (p := ⟨g, k * 9 + 3, none⟩) hg).trans f3; have hown := hown.st hbn; have hcl := hcl.st hbn; have hown2 := hown2.st hbn; have hg1 : g < W1.heap.size := Nat.lt_of_lt_of_le hg hbn.size; clear hbn
              rw [if_pos (by rfl)]
              go_wp2_with fail
              refine hK.out _ _ ?_ (fun hHeld => ?_); (focus exact BO); clear hK K; (try simp only [Act.put, List.setIfInBounds_toArray, List.set_cons_zero, List.set_cons_succ, List.getElem_toArray, List.getElem_cons_zero, List.getElem_cons_succ])
              clear hW1
              refine wpAnyH_ready (rs := [6]) (by kernel_rfl) (by simp) ?_; refine AllReadyH.cons (by simp only [List.getElem?_toArray, List.getElem?_cons_zero, List.getElem?_cons_succ]; rfl) (fun K hK => ?_) AllReadyH.nil
              rw [if_pos (by rfl)]
              go_wp2_with fail
              refine hK.out _ _ ?_ (fun hHeld => ?_); (focus exact BO); clear hK K; (try simp only [Act.put, List.setIfInBounds_toArray, List.set_cons_zero, List.set_cons_succ, List.getElem_toArray, List.getElem_cons_zero, List.getElem_cons_succ])
              refine wpAnyH_ready (rs := [9]) (by kernel_rfl) (by simp) ?_; refine AllReadyH.cons (by simp only [List.getElem?_toArray, List.getElem?_cons_zero, List.getElem?_cons_succ]; rfl) (fun K hK => ?_) AllReadyH.nil; rw [if_pos (by rfl)]; refine wp_appB (l := a.v.os) (.tmp 53) (.tmp 55) tyOw encOw_ok (by rfl) (⟨tg, pl, f, t⟩ : Ow) (by rfl) (g + 1) (by rfl) (by rfl) hown2 (by rfl) BN (by have := HLN.out; omega) (by have := HLN.out; omega) (Nat.succ_le_of_lt hg1) ?_; intro A9 c9 w9 hown9 hb9 hs9 hf9; have BO := BO.below hb9 (by omega); refine hK.out _ _ ?_ (fun hHeld => ?_); (focus exact BO); clear hK K; (try simp only [Act.put, List.setIfInBounds_toArray, List.set_cons_zero, List.set_cons_succ, List.getElem_toArray, List.getElem_cons_zero, List.getElem_cons_succ]); refine wpAnyH_take (i := 10) (v := ?_) (by simp only [List.getElem?_toArray, List.getElem?_cons_zero, List.getElem?_cons_succ]; rfl) (by kernel_rfl) (by kernel_rfl) (by kernel_rfl) (by intro _ _ _ h; exact h) (Or.inl ⟨by rfl, ?_⟩) (by assumption) ?_; rotate_left; (focus (intro w1 hSw; (try dsimp only at hSw); go_simp; (try with_reducible rfl))); (try simp only [Act.put, List.setIfInBounds_toArray, List.set_cons_zero, List.set_cons_succ, List.getElem_toArray, List.getElem_cons_zero, List.getElem_cons_succ]); refine wpAnyH_take (i := 11) (v := ?_) (by simp only [List.getElem?_toArray, List.getElem?_cons_zero, List.getElem?_cons_succ]; rfl) (by kernel_rfl) (by kernel_rfl) (by kernel_rfl) (by intro _ _ _ h; exact h) (Or.inl ⟨by rfl, ?_⟩) (by assumption) ?_; rotate_left; (focus (intro w1 hSw; (try dsimp only at hSw); go_simp; (try with_reducible rfl))); (try simp only [Act.put, List.setIfInBounds_toArray, List.set_cons_zero, List.set_cons_succ, List.getElem_toArray, List.getElem_cons_zero, List.getElem_cons_succ]); refine wpAnyH_ready (rs := [12]) (by kernel_rfl) (by simp) ?_; refine AllReadyH.cons (by simp only [List.getElem?_toArray, List.getElem?_cons_zero, List.getElem?_cons_succ]; rfl) (fun K hK => ?_) AllReadyH.nil; (have q3 : World.cell? w9 ⟨g, k * 9 + 3, none⟩ = some (.slice (some ⟨g2, 0, none⟩) a.v.os.length yc) := (hb9.cell (p := ⟨g, k * 9 + 3, none⟩) (Nat.lt_succ_self g)).trans q3); (have f3 : World.frozen? w9 ⟨g, k * 9 + 3, none⟩ = false := (hb9.frozen (p := ⟨g, k * 9 + 3, none⟩) (Nat.lt_succ_self g)).trans f3); rw [if_pos (by rfl)]; go_wp2_with fail; refine hK.out _ _ ?_ (fun hHeld => ?_); (focus exact BO.other (p := ⟨g, k * 9 + 3, none⟩) (by show w.heap.size ≠ g; omega) _); clear hK K; (try simp only [Act.put, List.setIfInBounds_toArray, List.set_cons_zero, List.set_cons_succ, List.getElem_toArray, List.getElem_cons_zero, List.getElem_cons_succ]); refine wpAnyH_done (by kernel_rfl) ?_ _; go_wp2_with fail; go_ret2; (obtain ⟨rfl, rfl⟩ := R.out); exact ⟨_, _, cs.set k ⟨{ a.v with os := a.v.os ++ [⟨tg, pl, f, t⟩] }, A9, c9⟩, by rw [List.length_set]; rfl, (put_vals hy HP.out HNC.out (fun v => v.os ++ [⟨tg, pl, f, t⟩]) A9 c9).trans (by rw [HV.out]), by have := append_end hown hcl.r hy hown9 hb9 hs9 hf9; rw [List.length_append] at this; exact this, (bW.trans (hb9.mono (by omega))).setCell (p := ⟨g, k * 9 + 3, none⟩) (by show w.heap.size ≤ g; omega) _⟩
    · have R := Lib.hid (show rE = ce ∧ vals l = rL from ⟨HBD.out a.v HF.out hc, (HN.out (by rw [HBD.out a.v HF.out hc]; exact hc)).symm⟩)
      have hcb : (ce != 0) = true := by simp [hc]
      clear hc
      go_wp2_with fail
      refine (CC.out _).mono ?_
      rintro e w3 ⟨rfl, hbn⟩
      have bW := bW.st hbn; have BO := BO.below hbn BO.lt
      go_wp2_with fail; go_ret2; (obtain ⟨rfl, rfl⟩ := R.out); exact ⟨_, c, l, rfl, rfl, H.out.st bW, bW⟩
end Go.Proofs.Ytfdnciijibiodaa
