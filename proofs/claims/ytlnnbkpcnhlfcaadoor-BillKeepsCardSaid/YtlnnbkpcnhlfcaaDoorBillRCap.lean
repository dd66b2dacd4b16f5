/- The reference's Capped, walked. -/
import Derived.Test.YtlnnbkpcnhlfcaaDoorBillCap1
import Derived.Test.YtlnnbkpcnhlfcaaDoorBillROf
import Derived.Test.YtlnnbkpcnhlfcaaDoorCapRef4
import Derived.Test.YtlnnbkpcnhlfcaaDoorAppSb
import Derived.BigQuiet
set_option linter.unusedSimpArgs false
set_option linter.unusedSimpArgs false
namespace Go.Proofs.YtlnnbkpcnhlfcaaDoor
open Go.RowKit Go.Lib Go.MapKept

theorem place_lt {ac : List Av} {cs : List CV} {i : Nat} (hi : i < cs.length) (ho : hasO ac (chAt cs i) = true) : (ofL ac (ownO ac (chAt cs i)) (cs.take i)).length < (ofL ac (ownO ac (chAt cs i)) cs).length := by
  have hm : i ∈ idxL ac (ownO ac (chAt cs i)) cs cs.length := by
    unfold idxL; rw [List.mem_filter, List.mem_range]
    exact ⟨hi, by rw [isO_own ho]; exact (eqS_iff _ _).2 rfl⟩
  obtain ⟨j, hj⟩ := List.mem_iff_getElem?.1 hm
  have h1 := idxL_place hj
  have h2 := (List.getElem?_eq_some_iff.1 hj).1
  rw [← idxL_map ac _ cs i (by omega), List.length_map, ← h1, ofL_idx, List.length_map]
  exact h2
theorem BLO.tk {w : World} {aA : Option Addr} {ac : Nat} {acs : List Ac} {cA : Option Addr} {caps : List Cp} {A : Option Addr} {l : List Cg} (h : BLO w aA ac acs cA caps A l) (k : Nat) : BLO w aA ac acs cA caps A (l.take k) :=
  ⟨h.al, h.sm, h.cp, h.cl.take k, fun x hx => h.rs x (List.mem_of_mem_take hx), h.mon, h.cpl, by rw [List.length_take]; have := h.cll; omega, h.nms⟩
set_option maxRecDepth 100000 in
set_option maxHeartbeats 4000000 in
theorem rcapped_any {aA cA A : Option Addr} {acs : List Ac} {caps : List Cp} {l : List Cg} (ac cc c : Nat) {w : World} (hlc : l.length ≤ c) (h : BLO w aA ac acs cA caps A l) (hln : ∀ x ∈ l, x.c.lns.length ≤ 900) :
    Calls Tryd.prog 20 #[.agg #[.slice none 0 0, .slice none 0 0, .slice none 0 0, .slice none 0 0, .slice none 0 0, .slice none 0 0, .int .i64 0, .int .i64 0, .slice none 0 0, .int .i64 0, .slice none 0 0, .slice none 0 0, .slice none 0 0, .slice none 0 0, .slice cA caps.length cc, .slice none 0 0, .slice none 0 0, .slice aA acs.length ac, .slice none 0 0, .slice none 0 0, .slice none 0 0, .slice none 0 0, .int .i64 0, .slice none 0 0, .string ⟨#[]⟩], .slice A l.length c] w fun e w' => CapR (vals acs) caps (cvs l) w w' e := by
  have H := Lib.hid h
  have HLN := Lib.hid hln
  have hl1 : l.length ≤ 1000 := h.cll
  obtain ⟨Y, hY⟩ : ∃ Y, w.alloc (.cells #[.slice none 0 0, .slice none 0 0, .slice none 0 0, .slice none 0 0, .slice none 0 0, .slice none 0 0, .int .i64 0, .int .i64 0, .slice none 0 0, .int .i64 0, .slice none 0 0, .slice none 0 0, .slice none 0 0, .slice none 0 0, .slice cA caps.length cc, .slice none 0 0, .slice none 0 0, .slice aA acs.length ac, .slice none 0 0, .slice none 0 0, .slice none 0 0, .slice none 0 0, .int .i64 0, .slice none 0 0, .string ⟨#[]⟩] 62) = Y := ⟨_, rfl⟩
  have BC : Blk Y w.heap.size #[.slice none 0 0, .slice none 0 0, .slice none 0 0, .slice none 0 0, .slice none 0 0, .slice none 0 0, .int .i64 0, .int .i64 0, .slice none 0 0, .int .i64 0, .slice none 0 0, .slice none 0 0, .slice none 0 0, .slice none 0 0, .slice cA caps.length cc, .slice none 0 0, .slice none 0 0, .slice aA acs.length ac, .slice none 0 0, .slice none 0 0, .slice none 0 0, .slice none 0 0, .int .i64 0, .slice none 0 0, .string ⟨#[]⟩] 62 := by rw [← hY]; exact Blk.new w _ _
  have bW : Below w.heap.size w Y := by rw [← hY]; exact (Below.refl _ w).al _
  have s1 : Y.heap.size = w.heap.size + 1 := by rw [← hY]; simp
  have g14 := BC.cell 14 (v := .slice cA caps.length cc) rfl
  have CA := Lib.hid (rapply_any cc c (h.st bW).cp (h.st bW).cl (by have := h.cpl; omega) (by omega))
  have HBC := Lib.hid BC
  have HbW := Lib.hid bW
  clear h hln BC bW
  go_enter Tryd.func20, Tryd.ntmps20
  go_wp2_with fail
  refine CA.out.mono ?_
  rintro e w3 ⟨A3, c3, r3, rfl, hp0, hp1, hown3, hb3⟩
  have hs3 := hb3.size
  clear CA hp0 hp1 hown3 hY g14
  by_cases hE : applyE caps (cvs l) = 0
  · have HE0 := Lib.hid hE
    have HX := Lib.hid (applyE_ok hE)
    have HBW3 := Lib.hid (HbW.out.st hb3)
    have HBC3 := Lib.hid (HBC.out.below hb3 HBC.out.lt)
    have hw3 : w.heap.size < w3.heap.size := by omega
    rw [hE]
    clear hE hb3 hs3 s1
    go_wp2_with fail
    go_loopw [8, 9] (fun o i wr => ∃ (k : Nat) (r : List Cg) (A' : Option Addr) (c' : Nat), k ≤ l.length ∧ i = .int .i64 k ∧ o = .slice A' r.length c' ∧ Hid (cvs r = (cappedL (vals acs) caps (cvs l)).take k) ∧ Own 82 encCg 7 wr w3.heap.size A' c' r ∧ LList wr w3.heap.size r ∧ Below w3.heap.size w3 wr) (fun _ i _ => l.length - (RowKit.intOf i).toNat)
    case atStart => exact ⟨0, [], none, 0, Nat.zero_le _, rfl, rfl, (by unfold Hid; simp [cvs]), Own.nil _ _, LList.nil _ _, Below.refl _ _⟩
    case round =>
      obtain ⟨k, r, A', c', hk, rfl, rfl, HRV, hown, hll, bY⟩ := hrel
      by_cases hi : k < l.length
      · have bW : Below w.heap.size w wr := HBW3.out.st bY
        obtain ⟨b, off, x, rfl, hb, hx, d0, d1, d2, d3, d4, d5, d6⟩ := (H.out.st bW).cl.cg hi
        have HK := Lib.hid hi
        have HRK : Hid (r.length ≤ 1000) := Lib.hid (by rw [← cvs_len r, HRV.out, List.length_take]; omega)
        have HXC := Lib.hid (chAt_of (cvs_at hx))
        have HT := Lib.hid (take_snoc (cappedL_at (ac := vals acs) (caps := caps) (cs := cvs l) (i := k) (by rw [cvs_len]; exact hi)))
        have HXM := Lib.hid (H.out.rs x (List.mem_of_getElem? hx))
        have HXN := Lib.hid (HLN.out x (List.mem_of_getElem? hx))
        have HCO := Lib.hid (show capOne (vals acs) caps (cvs l) k = if hasO (vals acs) x.c = true then lessC x.c (paidAt (vals acs) caps (cvs l) k x.c) else x.c by unfold capOne; rw [HXC.out])
        obtain ⟨⟨key, veh, sys, cls, tm, lns, cn⟩, lA, lc⟩ := x
        simp only [hasO, paidAt, ownO] at HCO
        simp only at *
        have i1 : (0 : Int) ≤ (k : Int) := by omega
        have i2 : (k : Int) < (l.length : Int) := by omega
        have kc : k ≤ c := by omega
        have hsz : w3.heap.size ≤ wr.heap.size := bY.size
        obtain ⟨Y3, hY3⟩ : ∃ Y, wr.alloc (.cells #[.string key, .string veh, .string sys, .int .i64 cls, .int .i64 tm, .slice none 0 0, .int .i64 cn] 82) = Y := ⟨_, rfl⟩
        have BX3 : Blk Y3 wr.heap.size #[.string key, .string veh, .string sys, .int .i64 cls, .int .i64 tm, .slice none 0 0, .int .i64 cn] 82 := by rw [← hY3]; exact Blk.new wr _ _
        have b3 : Below wr.heap.size wr Y3 := by rw [← hY3]; exact (Below.refl _ wr).al _
        have sY3 : Y3.heap.size = wr.heap.size + 1 := by rw [← hY3]; simp
        have HB := Lib.hid hb
        have HD5 := Lib.hid (fun (X : World) (hX : Below wr.heap.size wr X) => (hX.cell (p := ⟨b, off + k * 7 + 5, none⟩) hb).trans d5)
        clear hx hi hb
        go_wp2_with fail
        clear hY3 d0 d1 d2 d3 d4 d5 d6
        refine wp_region_held_drew (S := (fun w' : World => w'.cell? ⟨b, off + k * 7 + 5, none⟩ = some (.slice lA lns.length lc))) (by kernel_rfl) ?_ (fun hHeld => ?_)
        · exact HD5.out Y3.drew (below_drewN b3 1)
        have hSS : (fun w' : World => w'.cell? ⟨b, off + k * 7 + 5, none⟩ = some (.slice lA lns.length lc)) Y3.drew := HD5.out Y3.drew (below_drewN b3 1)
        have BX3 : Blk Y3.drew wr.heap.size #[.string key, .string veh, .string sys, .int .i64 cls, .int .i64 tm, .slice none 0 0, .int .i64 cn] 82 := BX3.drew
        have b3 : Below wr.heap.size wr Y3.drew := below_drewN b3 1
        have sY3 : Y3.drew.heap.size = wr.heap.size + 1 := sY3
        generalize Y3.drew = W0 at hSS BX3 b3 hHeld sY3 ⊢
        change wpAnyH _ _ _ _ _ 10 _ _ _
        refine wpAnyH_take (i := 0) (v := ?_) (by simp only [List.getElem?_toArray, List.getElem?_cons_zero, List.getElem?_cons_succ]; rfl) (by kernel_rfl) (by kernel_rfl) (by kernel_rfl) (by intro _ _ _ h; exact h) (Or.inl ⟨by rfl, ?_⟩) (by assumption) ?_; rotate_left; (focus (intro w1 hSw; (try dsimp only at hSw); go_simp; (try with_reducible rfl))); (try simp only [Act.put, List.setIfInBounds_toArray, List.set_cons_zero, List.set_cons_succ, List.getElem_toArray, List.getElem_cons_zero, List.getElem_cons_succ])
        refine wpAnyH_take (i := 2) (v := ?_) (by simp only [List.getElem?_toArray, List.getElem?_cons_zero, List.getElem?_cons_succ]; rfl) (by kernel_rfl) (by kernel_rfl) (by kernel_rfl) (by intro _ _ _ h; exact h) (Or.inl ⟨by rfl, ?_⟩) (by assumption) ?_; rotate_left; (focus (intro w1 hSw; (try dsimp only at hSw); go_simp; (try with_reducible rfl))); (try simp only [Act.put, List.setIfInBounds_toArray, List.set_cons_zero, List.set_cons_succ, List.getElem_toArray, List.getElem_cons_zero, List.getElem_cons_succ])
        refine wpAnyH_take (i := 3) (v := ?_) (by simp only [List.getElem?_toArray, List.getElem?_cons_zero, List.getElem?_cons_succ]; rfl) (by kernel_rfl) (by kernel_rfl) (by kernel_rfl) (by intro _ _ _ h; exact h) (Or.inl ⟨by rfl, ?_⟩) (by assumption) ?_; rotate_left; (focus (intro w1 hSw; (try dsimp only at hSw); go_simp; (try with_reducible rfl))); (try simp only [Act.put, List.setIfInBounds_toArray, List.set_cons_zero, List.set_cons_succ, List.getElem_toArray, List.getElem_cons_zero, List.getElem_cons_succ])
        refine wpAnyH_take (i := 4) (v := ?_) (by simp only [List.getElem?_toArray, List.getElem?_cons_zero, List.getElem?_cons_succ]; rfl) (by kernel_rfl) (by kernel_rfl) (by kernel_rfl) (by intro _ _ _ h; exact h) (Or.inl ⟨by rfl, ?_⟩) (by assumption) ?_; rotate_left; (focus (intro w1 hSw; (try dsimp only at hSw); go_simp; (try with_reducible rfl))); (try simp only [Act.put, List.setIfInBounds_toArray, List.set_cons_zero, List.set_cons_succ, List.getElem_toArray, List.getElem_cons_zero, List.getElem_cons_succ])
        refine wpAnyH_take (i := 5) (v := ?_) (by simp only [List.getElem?_toArray, List.getElem?_cons_zero, List.getElem?_cons_succ]; rfl) (by kernel_rfl) (by kernel_rfl) (by kernel_rfl) (by intro _ _ _ h; exact h) (Or.inl ⟨by rfl, ?_⟩) (by assumption) ?_; rotate_left; (focus (intro w1 hSw; (try dsimp only at hSw); go_simp; (try with_reducible rfl))); (try simp only [Act.put, List.setIfInBounds_toArray, List.set_cons_zero, List.set_cons_succ, List.getElem_toArray, List.getElem_cons_zero, List.getElem_cons_succ])
        refine wpAnyH_take (i := 6) (v := ?_) (by simp only [List.getElem?_toArray, List.getElem?_cons_zero, List.getElem?_cons_succ]; rfl) (by kernel_rfl) (by kernel_rfl) (by kernel_rfl) (by intro _ _ _ h; exact h) (Or.inl ⟨by rfl, ?_⟩) (by assumption) ?_; rotate_left; (focus (intro w1 hSw; (try dsimp only at hSw); go_simp; (try with_reducible rfl))); (try simp only [Act.put, List.setIfInBounds_toArray, List.set_cons_zero, List.set_cons_succ, List.getElem_toArray, List.getElem_cons_zero, List.getElem_cons_succ])
        have x5 : W0.cell? ⟨wr.heap.size, 5, none⟩ = some (.slice none 0 0) := BX3.cell 5 rfl
        refine wpAnyH_ready (rs := [1]) (by kernel_rfl) (by simp) ?_; refine AllReadyH.cons (by simp only [List.getElem?_toArray, List.getElem?_cons_zero, List.getElem?_cons_succ]; rfl) (fun K hK => ?_) AllReadyH.nil
        rw [if_pos (by rfl)]; go_wp2_with fail
        refine hK.out _ _ ?_ (fun hHeld => ?_); (focus exact hSS); clear hK K; (try simp only [Act.put, List.setIfInBounds_toArray, List.set_cons_zero, List.set_cons_succ, List.getElem_toArray, List.getElem_cons_zero, List.getElem_cons_succ])
        have rdo := Lib.hid (HXM.out.1.st (bW.st b3))
        refine wpAnyH_ready (rs := [7]) (by kernel_rfl) (by simp) ?_; refine AllReadyH.cons (by simp only [List.getElem?_toArray, List.getElem?_cons_zero, List.getElem?_cons_succ]; rfl) (fun K hK => ?_) AllReadyH.nil
        rw [if_pos (by rfl)]
        refine wp_appSb (.tmp 38) (.tmp 43) tyLn encLn_ok (by rfl) W0.heap.size (by rfl) (by rfl) (Own.nil _ _) lns (by rfl) (by rfl) rdo.out (by have := HXN.out; simp; omega) (by have := HXN.out; simp; omega) (Nat.le_refl _) ?_
        intro A9 c9 w9 hown9 hb9 hs9 hf9
        rw [List.nil_append] at hown9
        have BX9 := BX3.below hb9 BX3.lt
        have b9 := b3.st hb9
        have f5 := BX9.frozen 5
        have x5 := BX9.cell 5 (v := .slice none 0 0) rfl
        have hSS : (fun w' : World => w'.cell? ⟨b, off + k * 7 + 5, none⟩ = some (.slice lA lns.length lc)) w9 := HD5.out w9 b9
        refine hK.out _ _ ?_ (fun hHeld => ?_); (focus exact hSS); clear hK K; (try simp only [Act.put, List.setIfInBounds_toArray, List.set_cons_zero, List.set_cons_succ, List.getElem_toArray, List.getElem_cons_zero, List.getElem_cons_succ])
        refine wpAnyH_take (i := 8) (v := ?_) (by simp only [List.getElem?_toArray, List.getElem?_cons_zero, List.getElem?_cons_succ]; rfl) (by kernel_rfl) (by kernel_rfl) (by kernel_rfl) (by intro _ _ _ h; exact h) (Or.inl ⟨by rfl, ?_⟩) (by assumption) ?_; rotate_left; (focus (intro w1 hSw; (try dsimp only at hSw); go_simp; (try with_reducible rfl))); (try simp only [Act.put, List.setIfInBounds_toArray, List.set_cons_zero, List.set_cons_succ, List.getElem_toArray, List.getElem_cons_zero, List.getElem_cons_succ])
        refine wpAnyH_ready (rs := [9]) (by kernel_rfl) (by simp) ?_; refine AllReadyH.cons (by simp only [List.getElem?_toArray, List.getElem?_cons_zero, List.getElem?_cons_succ]; rfl) (fun K hK => ?_) AllReadyH.nil
        rw [if_pos (by rfl)]
        go_wp2_with fail
        have BXA : Blk (World.setCell w9 ⟨wr.heap.size, 5, none⟩ (.slice A9 lns.length c9)) wr.heap.size #[.string key, .string veh, .string sys, .int .i64 cls, .int .i64 tm, .slice A9 lns.length c9, .int .i64 cn] 82 := BX9.set 5 (.slice A9 lns.length c9)
        have bA := b9.setCell (p := ⟨wr.heap.size, 5, none⟩) (Nat.le_refl _) (.slice A9 lns.length c9)
        have hownA := hown9.other (p := ⟨wr.heap.size, 5, none⟩) (by show wr.heap.size < W0.heap.size; omega) (.slice A9 lns.length c9)
        have sA : W0.heap.size ≤ (World.setCell w9 ⟨wr.heap.size, 5, none⟩ (.slice A9 lns.length c9)).heap.size := by simpa using hs9
        have HBXA := Lib.hid BXA
        have HBA := Lib.hid bA
        have HOWA := Lib.hid hownA
        have HSA := Lib.hid sA
        clear BX9 b9 hown9 hb9 hs9 hf9 x5 BX3 b3 rdo BXA bA hownA sA
        generalize World.setCell w9 ⟨wr.heap.size, 5, none⟩ (.slice A9 lns.length c9) = WA at *
        have hSS : (fun w' : World => w'.cell? ⟨b, off + k * 7 + 5, none⟩ = some (.slice lA lns.length lc)) WA := HD5.out WA HBA.out
        refine hK.out _ _ ?_ (fun hHeld => ?_); (focus exact hSS); clear hK K; (try simp only [Act.put, List.setIfInBounds_toArray, List.set_cons_zero, List.set_cons_succ, List.getElem_toArray, List.getElem_cons_zero, List.getElem_cons_succ])
        refine wpAnyH_done (by kernel_rfl) ?_ _
        clear hSS hHeld f5
        have hownr := hown.st HBA.out
        have hllr := hll.st HBA.out
        have bYA := bY.trans (HBA.out.mono hsz)
        have bWA := bW.st HBA.out
        have HBC := Lib.hid (HBC3.out.below bYA hw3)
        have g17 := HBC.out.cell 17 (v := .slice aA acs.length ac) rfl
        have x1 := HBXA.out.cell 1 (v := .string veh) rfl
        have x4 := HBXA.out.cell 4 (v := .int .i64 tm) rfl
        have OC := Lib.hid (rowner_any ac veh tm (H.out.al.st bWA) H.out.sm)
        have HPLC := Lib.hid (fun (q : ownerB (vals acs) veh tm = true) => place_lt (ac := vals acs) (cs := cvs l) (i := k) (by rw [cvs_len]; exact HK.out) (by rw [HXC.out]; exact q))
        rw [HXC.out] at HPLC
        simp only [ownO] at HPLC
        obtain ⟨on, hon⟩ : ∃ q, ownerN (vals acs) veh tm = q := ⟨_, rfl⟩
        obtain ⟨ob, hob⟩ : ∃ q, ownerB (vals acs) veh tm = q := ⟨_, rfl⟩
        simp only [hon, hob] at HPLC HCO OC
        clear hon hob
        have HLL := Lib.hid hll
        have HOWN := Lib.hid hown
        have hrl : r.length ≤ 1000 := HRK.out
        have HW0 : Hid (wr.heap.size ≤ W0.heap.size) := Lib.hid (by omega)
        have HW02 : Hid (W0.heap.size = wr.heap.size + 1) := Lib.hid sY3
        clear hownr hllr hown hll
        go_wp2_with fail
        refine OC.out.mono ?_
        rintro e w5 ⟨rfl, hbn⟩
        have hbn5 := Lib.hid hbn
        have hb5 := HBA.out.st hbn
        have hown5 := HOWN.out.st hb5
        have bY5 := bY.trans (hb5.mono hsz)
        have hl5 := (HOWA.out.st hbn).mono HW0.out
        have BX5 := HBXA.out.below hbn HBXA.out.lt
        clear hbn OC g17 x1 x4 bWA bYA HBC
        cases ob
        · have R : Hid (cvs (r ++ [⟨(⟨key, veh, sys, cls, tm, lns, cn⟩ : CV), A9, c9⟩]) = (cappedL (vals acs) caps (cvs l)).take (k + 1)) := Lib.hid (by rw [cvs_app, HRV.out, HT.out, HCO.out]; rfl)
          go_wp2_with (first | (refine wpList_boxLoad rfl (ty := 82) (x := .tmp 10) (cs := #[.string key, .string veh, .string sys, .int .i64 cls, .int .i64 tm, .slice A9 lns.length c9, .int .i64 cn]) rfl BX5 rfl ⟨_, Tryd.underlying82, by kernel_rfl⟩ ?_) | (at_builtin; refine wpList_app1b rfl (.tmp 99) (.tmp 101) tyCg encCg_ok rfl (⟨(⟨key, veh, sys, cls, tm, lns, cn⟩ : CV), A9, c9⟩ : Cg) rfl _ rfl (by simp) hown5 rfl (by first | rfl | simp) (by first | omega | (simp; omega)) (by first | omega | (simp; omega)) (by first | exact bY5.size | (have := bY5.size; omega)) ?_; intro A8 c8 w8 hown8 hb8 hs8 hf8; have hbel8 := bY5.trans hb8))
          have hll8 := (HLL.out.snoc (x := ⟨(⟨key, veh, sys, cls, tm, lns, cn⟩ : CV), A9, c9⟩) hb5 hl5 hsz).keepA hown5 (by decide) hf8
          clear hown5 hf8 hb8 hs8
          go_wp2_with fail
          go_roundw
          case rel => exact ⟨k + 1, r ++ [⟨(⟨key, veh, sys, cls, tm, lns, cn⟩ : CV), A9, c9⟩], A8, c8, HK.out, by go_num, by simp, R, hown8, hll8, hbel8⟩
          case measure => have := HK.out; simp [RowKit.intOf]; omega
        · have BC5 := HBC3.out.below bY5 hw3
          have bW5 := bW.st hb5
          have HBL := Lib.hid (fun (X : World) (hX : Below w.heap.size w X) => (H.out.st hX).tk k)
          have HSS : Hid ((fun w' : World => Blk w' w.heap.size #[.slice none 0 0, .slice none 0 0, .slice none 0 0, .slice none 0 0, .slice none 0 0, .slice none 0 0, .int .i64 0, .int .i64 0, .slice none 0 0, .int .i64 0, .slice none 0 0, .slice none 0 0, .slice none 0 0, .slice none 0 0, .slice cA caps.length cc, .slice none 0 0, .slice none 0 0, .slice aA acs.length ac, .slice none 0 0, .slice none 0 0, .slice none 0 0, .slice none 0 0, .int .i64 0, .slice none 0 0, .string ⟨#[]⟩] 62) w5) := Lib.hid BC5
          have hlk : (l.take k).length = k := by rw [List.length_take]; omega
          have HCV : Hid (cvs (l.take k) = (cvs l).take k) := Lib.hid (by unfold cvs; rw [List.map_take])
          have CO := Lib.hid (fun (X : World) (hX : Below w.heap.size w X) => rof_any ac cc c on (HBL.out X hX))
          rw [hlk, HCV.out] at CO
          have HLW5 := Lib.hid (HOWA.out.st hbn5.out)
          have HB5 := Lib.hid hb5
          have HBX5 := Lib.hid BX5
          have HL5 := Lib.hid hl5
          have HBW5 := Lib.hid bW5
          clear hlk hb5 BX5 hl5 bW5 BC5
          go_wp2_with fail
          refine wp_region_held_drew (S := (fun w' : World => Blk w' w.heap.size #[.slice none 0 0, .slice none 0 0, .slice none 0 0, .slice none 0 0, .slice none 0 0, .slice none 0 0, .int .i64 0, .int .i64 0, .slice none 0 0, .int .i64 0, .slice none 0 0, .slice none 0 0, .slice none 0 0, .slice none 0 0, .slice cA caps.length cc, .slice none 0 0, .slice none 0 0, .slice aA acs.length ac, .slice none 0 0, .slice none 0 0, .slice none 0 0, .slice none 0 0, .int .i64 0, .slice none 0 0, .string ⟨#[]⟩] 62)) (by kernel_rfl) ?_ (fun hHeld => ?_)
          · exact HSS.out
          have hSS : (fun w' : World => Blk w' w.heap.size #[.slice none 0 0, .slice none 0 0, .slice none 0 0, .slice none 0 0, .slice none 0 0, .slice none 0 0, .int .i64 0, .int .i64 0, .slice none 0 0, .int .i64 0, .slice none 0 0, .slice none 0 0, .slice none 0 0, .slice none 0 0, .slice cA caps.length cc, .slice none 0 0, .slice none 0 0, .slice aA acs.length ac, .slice none 0 0, .slice none 0 0, .slice none 0 0, .slice none 0 0, .int .i64 0, .slice none 0 0, .string ⟨#[]⟩] 62) w5.drew := HSS.out.drew
          have HBr : Hid (Below w5.heap.size w5 w5.drew) := Lib.hid (below_drewN (Below.refl _ w5) 1)
          generalize w5.drew = W1 at hSS hHeld HBr ⊢
          change wpAnyH _ _ _ _ _ 8 _ _ _
          refine wpAnyH_take (i := 0) (v := .agg #[.slice none 0 0, .slice none 0 0, .slice none 0 0, .slice none 0 0, .slice none 0 0, .slice none 0 0, .int .i64 0, .int .i64 0, .slice none 0 0, .int .i64 0, .slice none 0 0, .slice none 0 0, .slice none 0 0, .slice none 0 0, .slice cA caps.length cc, .slice none 0 0, .slice none 0 0, .slice aA acs.length ac, .slice none 0 0, .slice none 0 0, .slice none 0 0, .slice none 0 0, .int .i64 0, .slice none 0 0, .string ⟨#[]⟩]) (by simp only [List.getElem?_toArray, List.getElem?_cons_zero, List.getElem?_cons_succ]; rfl) (by kernel_rfl) (by kernel_rfl) (by kernel_rfl) (by intro _ _ _ h; exact h) (yieldsIf_boxLoad (by rfl) rfl rfl (fun _ hw => hw) ⟨_, Tryd.underlying62, by kernel_rfl⟩) (by assumption) ?_; (try simp only [Act.put, List.setIfInBounds_toArray, List.set_cons_zero, List.set_cons_succ, List.getElem_toArray, List.getElem_cons_zero, List.getElem_cons_succ])
          refine wpAnyH_take (i := 1) (v := ?_) (by simp only [List.getElem?_toArray, List.getElem?_cons_zero, List.getElem?_cons_succ]; rfl) (by kernel_rfl) (by kernel_rfl) (by kernel_rfl) (by intro _ _ _ h; exact h) (Or.inl ⟨by rfl, ?_⟩) (by assumption) ?_; rotate_left; (focus (intro w1 hSw; (try dsimp only at hSw); go_simp; (try with_reducible rfl))); (try simp only [Act.put, List.setIfInBounds_toArray, List.set_cons_zero, List.set_cons_succ, List.getElem_toArray, List.getElem_cons_zero, List.getElem_cons_succ])
          refine wpAnyH_take (i := 2) (v := ?_) (by simp only [List.getElem?_toArray, List.getElem?_cons_zero, List.getElem?_cons_succ]; rfl) (by kernel_rfl) (by kernel_rfl) (by kernel_rfl) (by intro _ _ _ h; exact h) (Or.inl ⟨by rfl, ?_⟩) (by assumption) ?_; rotate_left; (focus (intro w1 hSw; (try dsimp only at hSw); go_simp; (try with_reducible rfl))); (try simp only [Act.put, List.setIfInBounds_toArray, List.set_cons_zero, List.set_cons_succ, List.getElem_toArray, List.getElem_cons_zero, List.getElem_cons_succ])
          refine wpAnyH_take (i := 3) (v := ?_) (by simp only [List.getElem?_toArray, List.getElem?_cons_zero, List.getElem?_cons_succ]; rfl) (by kernel_rfl) (by kernel_rfl) (by kernel_rfl) (by intro _ _ _ h; exact h) (Or.inl ⟨by rfl, ?_⟩) (by assumption) ?_; rotate_left; (focus (intro w1 hSw; (try dsimp only at hSw); go_simp; (try with_reducible rfl))); (try simp only [Act.put, List.setIfInBounds_toArray, List.set_cons_zero, List.set_cons_succ, List.getElem_toArray, List.getElem_cons_zero, List.getElem_cons_succ])
          refine wpAnyH_take (i := 4) (v := ?_) (by simp only [List.getElem?_toArray, List.getElem?_cons_zero, List.getElem?_cons_succ]; rfl) (by kernel_rfl) (by kernel_rfl) (by kernel_rfl) (by intro _ _ _ h; exact h) (Or.inl ⟨by rfl, ?_⟩) (by assumption) ?_; rotate_left; (focus (intro w1 hSw; (try dsimp only at hSw); go_simp; (try with_reducible rfl))); (try simp only [Act.put, List.setIfInBounds_toArray, List.set_cons_zero, List.set_cons_succ, List.getElem_toArray, List.getElem_cons_zero, List.getElem_cons_succ])
          refine wpAnyH_ready (rs := [5]) (by kernel_rfl) (by simp) ?_; refine AllReadyH.cons (by simp only [List.getElem?_toArray, List.getElem?_cons_zero, List.getElem?_cons_succ]; rfl) (fun K hK => ?_) AllReadyH.nil
          rw [if_pos (by rfl)]; go_wp2_with fail
          refine (CO.out _ (HBW5.out.st HBr.out)).mono ?_
          rintro e w6 ⟨A6, c6, q6, rfl, hq6, hown6, -, hb6⟩
          have HB6 := Lib.hid (HBr.out.st hb6)
          have HBY5 := Lib.hid bY5
          have hs35 : w3.heap.size ≤ w5.heap.size := bY5.size
          have HBCX := Lib.hid (fun (X : World) (hX : Below w5.heap.size w5 X) => (HBC3.out.below (HBY5.out.trans (hX.mono hs35)) hw3))
          have hSS : (fun w' : World => Blk w' w.heap.size #[.slice none 0 0, .slice none 0 0, .slice none 0 0, .slice none 0 0, .slice none 0 0, .slice none 0 0, .int .i64 0, .int .i64 0, .slice none 0 0, .int .i64 0, .slice none 0 0, .slice none 0 0, .slice none 0 0, .slice none 0 0, .slice cA caps.length cc, .slice none 0 0, .slice none 0 0, .slice aA acs.length ac, .slice none 0 0, .slice none 0 0, .slice none 0 0, .slice none 0 0, .int .i64 0, .slice none 0 0, .string ⟨#[]⟩] 62) w6 := HBCX.out w6 HB6.out
          have hq6l : q6.length = (ofL (vals acs) on ((cvs l).take k)).length := by rw [← hq6, cvs_len]
          obtain ⟨at6, hat6⟩ : ∃ n, q6.length = n := ⟨_, rfl⟩
          rw [hat6] at hq6l ⊢
          have HAT := Lib.hid hq6l
          clear hb6 hq6 hown6 hat6 hq6l bY5 CO HBr
          go_wp2_with fail
          refine hK.out _ _ ?_ (fun hHeld => ?_); (focus exact hSS); clear hK K; (try simp only [Act.put, List.setIfInBounds_toArray, List.set_cons_zero, List.set_cons_succ, List.getElem_toArray, List.getElem_cons_zero, List.getElem_cons_succ])
          refine wpAnyH_take (i := 6) (v := ?_) (by simp only [List.getElem?_toArray, List.getElem?_cons_zero, List.getElem?_cons_succ]; rfl) (by kernel_rfl) (by kernel_rfl) (by kernel_rfl) (by intro _ _ _ h; exact h) (Or.inl ⟨by rfl, ?_⟩) (by assumption) ?_; rotate_left; (focus (intro w1 hSw; (try dsimp only at hSw); go_simp; (try with_reducible rfl))); (try simp only [Act.put, List.setIfInBounds_toArray, List.set_cons_zero, List.set_cons_succ, List.getElem_toArray, List.getElem_cons_zero, List.getElem_cons_succ])
          refine wpAnyH_take (i := 7) (v := ?_) (by simp only [List.getElem?_toArray, List.getElem?_cons_zero, List.getElem?_cons_succ]; rfl) (by kernel_rfl) (by kernel_rfl) (by kernel_rfl) (by intro _ _ _ h; exact h) (Or.inl ⟨by rfl, ?_⟩) (by assumption) ?_; rotate_left; (focus (intro w1 hSw; (try dsimp only at hSw); go_simp; (try with_reducible rfl))); (try simp only [Act.put, List.setIfInBounds_toArray, List.set_cons_zero, List.set_cons_succ, List.getElem_toArray, List.getElem_cons_zero, List.getElem_cons_succ])
          refine wpAnyH_done (by kernel_rfl) ?_ _
          clear hSS hHeld HSS
          have CO := Lib.hid (fun (X : World) (hX : Below w.heap.size w X) => rof_any ac cc c on (H.out.st hX))
          have CA := Lib.hid (fun (X : World) (hX : Below w.heap.size w X) (A7 : Option Addr) (c7 : Nat) (q7 : List Cg) (h7 : Rd encCg 7 X X.heap.size A7 q7) (hq : q7.length ≤ 1000) => rapply_any cc c7 (H.out.st hX).cp h7 (by have := H.out.cpl; omega) (by omega))
          have HSS : Hid ((fun w' : World => Blk w' w.heap.size #[.slice none 0 0, .slice none 0 0, .slice none 0 0, .slice none 0 0, .slice none 0 0, .slice none 0 0, .int .i64 0, .int .i64 0, .slice none 0 0, .int .i64 0, .slice none 0 0, .slice none 0 0, .slice none 0 0, .slice none 0 0, .slice cA caps.length cc, .slice none 0 0, .slice none 0 0, .slice aA acs.length ac, .slice none 0 0, .slice none 0 0, .slice none 0 0, .slice none 0 0, .int .i64 0, .slice none 0 0, .string ⟨#[]⟩] 62 ∧ w'.cell? ⟨w.heap.size, 14, none⟩ = some (.slice cA caps.length cc)) w6) := Lib.hid ⟨HBCX.out w6 HB6.out, (HBCX.out w6 HB6.out).cell 14 rfl⟩
          go_wp2_with fail
          refine wp_region_held_drew (S := (fun w' : World => Blk w' w.heap.size #[.slice none 0 0, .slice none 0 0, .slice none 0 0, .slice none 0 0, .slice none 0 0, .slice none 0 0, .int .i64 0, .int .i64 0, .slice none 0 0, .int .i64 0, .slice none 0 0, .slice none 0 0, .slice none 0 0, .slice none 0 0, .slice cA caps.length cc, .slice none 0 0, .slice none 0 0, .slice aA acs.length ac, .slice none 0 0, .slice none 0 0, .slice none 0 0, .slice none 0 0, .int .i64 0, .slice none 0 0, .string ⟨#[]⟩] 62 ∧ w'.cell? ⟨w.heap.size, 14, none⟩ = some (.slice cA caps.length cc))) (by kernel_rfl) ?_ (fun hHeld => ?_)
          · exact HSS.out
          have HB7 : Hid (Below w5.heap.size w5 w6.drew) := Lib.hid (below_drewN HB6.out 1)
          have hSS : (fun w' : World => Blk w' w.heap.size #[.slice none 0 0, .slice none 0 0, .slice none 0 0, .slice none 0 0, .slice none 0 0, .slice none 0 0, .int .i64 0, .int .i64 0, .slice none 0 0, .int .i64 0, .slice none 0 0, .slice none 0 0, .slice none 0 0, .slice none 0 0, .slice cA caps.length cc, .slice none 0 0, .slice none 0 0, .slice aA acs.length ac, .slice none 0 0, .slice none 0 0, .slice none 0 0, .slice none 0 0, .int .i64 0, .slice none 0 0, .string ⟨#[]⟩] 62 ∧ w'.cell? ⟨w.heap.size, 14, none⟩ = some (.slice cA caps.length cc)) w6.drew := ⟨HBCX.out _ HB7.out, (HBCX.out _ HB7.out).cell 14 rfl⟩
          generalize w6.drew = W2 at hSS hHeld HB7 ⊢
          change wpAnyH _ _ _ _ _ 12 _ _ _
          refine wpAnyH_take (i := 0) (v := ?_) (by simp only [List.getElem?_toArray, List.getElem?_cons_zero, List.getElem?_cons_succ]; rfl) (by kernel_rfl) (by kernel_rfl) (by kernel_rfl) (by intro _ _ _ h; exact h) (Or.inl ⟨by rfl, ?_⟩) (by assumption) ?_; rotate_left; (focus (intro w1 hSw; (try dsimp only at hSw); go_simp; (try with_reducible rfl))); (try simp only [Act.put, List.setIfInBounds_toArray, List.set_cons_zero, List.set_cons_succ, List.getElem_toArray, List.getElem_cons_zero, List.getElem_cons_succ])
          refine wpAnyH_take (i := 1) (v := ?_) (by simp only [List.getElem?_toArray, List.getElem?_cons_zero, List.getElem?_cons_succ]; rfl) (by kernel_rfl) (by kernel_rfl) (by kernel_rfl) (by intro _ _ _ h; exact h) (Or.inl ⟨by rfl, ?_⟩) (by assumption) ?_; rotate_left; (focus (intro w1 hSw; (try dsimp only at hSw); go_simp; (try with_reducible rfl))); (try simp only [Act.put, List.setIfInBounds_toArray, List.set_cons_zero, List.set_cons_succ, List.getElem_toArray, List.getElem_cons_zero, List.getElem_cons_succ])
          refine wpAnyH_take (i := 2) (v := .agg #[.slice none 0 0, .slice none 0 0, .slice none 0 0, .slice none 0 0, .slice none 0 0, .slice none 0 0, .int .i64 0, .int .i64 0, .slice none 0 0, .int .i64 0, .slice none 0 0, .slice none 0 0, .slice none 0 0, .slice none 0 0, .slice cA caps.length cc, .slice none 0 0, .slice none 0 0, .slice aA acs.length ac, .slice none 0 0, .slice none 0 0, .slice none 0 0, .slice none 0 0, .int .i64 0, .slice none 0 0, .string ⟨#[]⟩]) (by simp only [List.getElem?_toArray, List.getElem?_cons_zero, List.getElem?_cons_succ]; rfl) (by kernel_rfl) (by kernel_rfl) (by kernel_rfl) (by intro _ _ _ h; exact h) (yieldsIf_boxLoad (by rfl) rfl rfl (fun _ hw => hw.1) ⟨_, Tryd.underlying62, by kernel_rfl⟩) (by assumption) ?_; (try simp only [Act.put, List.setIfInBounds_toArray, List.set_cons_zero, List.set_cons_succ, List.getElem_toArray, List.getElem_cons_zero, List.getElem_cons_succ])
          refine wpAnyH_take (i := 3) (v := ?_) (by simp only [List.getElem?_toArray, List.getElem?_cons_zero, List.getElem?_cons_succ]; rfl) (by kernel_rfl) (by kernel_rfl) (by kernel_rfl) (by intro _ _ _ h; exact h) (Or.inl ⟨by rfl, ?_⟩) (by assumption) ?_; rotate_left; (focus (intro w1 hSw; (try dsimp only at hSw); go_simp; (try with_reducible rfl))); (try simp only [Act.put, List.setIfInBounds_toArray, List.set_cons_zero, List.set_cons_succ, List.getElem_toArray, List.getElem_cons_zero, List.getElem_cons_succ])
          refine wpAnyH_take (i := 4) (v := ?_) (by simp only [List.getElem?_toArray, List.getElem?_cons_zero, List.getElem?_cons_succ]; rfl) (by kernel_rfl) (by kernel_rfl) (by kernel_rfl) (by intro _ _ _ h; exact h) (Or.inl ⟨by rfl, ?_⟩) (by assumption) ?_; rotate_left; (focus (intro w1 hSw; (try dsimp only at hSw); go_simp; (try with_reducible rfl))); (try simp only [Act.put, List.setIfInBounds_toArray, List.set_cons_zero, List.set_cons_succ, List.getElem_toArray, List.getElem_cons_zero, List.getElem_cons_succ])
          refine wpAnyH_ready (rs := [5]) (by kernel_rfl) (by simp) ?_; refine AllReadyH.cons (by simp only [List.getElem?_toArray, List.getElem?_cons_zero, List.getElem?_cons_succ]; rfl) (fun K hK => ?_) AllReadyH.nil
          rw [if_pos (by rfl)]; go_wp2_with fail
          refine (CO.out _ (HBW5.out.st HB7.out)).mono ?_
          rintro e w7 ⟨A7, c7, q7, rfl, hq7, hown7, -, hb7⟩
          have HB8 := Lib.hid (HB7.out.st hb7)
          have hSS : (fun w' : World => Blk w' w.heap.size #[.slice none 0 0, .slice none 0 0, .slice none 0 0, .slice none 0 0, .slice none 0 0, .slice none 0 0, .int .i64 0, .int .i64 0, .slice none 0 0, .int .i64 0, .slice none 0 0, .slice none 0 0, .slice none 0 0, .slice none 0 0, .slice cA caps.length cc, .slice none 0 0, .slice none 0 0, .slice aA acs.length ac, .slice none 0 0, .slice none 0 0, .slice none 0 0, .slice none 0 0, .int .i64 0, .slice none 0 0, .string ⟨#[]⟩] 62 ∧ w'.cell? ⟨w.heap.size, 14, none⟩ = some (.slice cA caps.length cc)) w7 := ⟨HBCX.out _ HB8.out, (HBCX.out _ HB8.out).cell 14 rfl⟩
          have h7l : q7.length ≤ 1000 := by rw [← cvs_len q7, hq7]; exact Nat.le_trans (ofL_len _ _ _) (by rw [cvs_len]; exact hl1)
          have CA7 := Lib.hid (CA.out w7 (HBW5.out.st HB8.out) A7 c7 q7 (hown7.rd encCg_ok) h7l)
          rw [hq7] at CA7
          clear hb7 hown7 CO CA
          go_wp2_with fail
          refine hK.out _ _ ?_ (fun hHeld => ?_); (focus exact hSS); clear hK K; (try simp only [Act.put, List.setIfInBounds_toArray, List.set_cons_zero, List.set_cons_succ, List.getElem_toArray, List.getElem_cons_zero, List.getElem_cons_succ])
          refine wpAnyH_ready (rs := [6]) (by kernel_rfl) (by simp) ?_; refine AllReadyH.cons (by simp only [List.getElem?_toArray, List.getElem?_cons_zero, List.getElem?_cons_succ]; rfl) (fun K hK => ?_) AllReadyH.nil
          rw [if_pos (by rfl)]; go_wp2_with fail
          refine CA7.out.mono ?_
          rintro e w8 ⟨A9', c9', pd, rfl, hp0, -, hownp, hb8⟩
          have hE8 : applyE caps (ofL (vals acs) on (cvs l)) = 0 := applyE_part HE0.out (fun x hx => ofL_sub x hx) (ofL_len _ _ _)
          rw [hE8]
          have HPD := Lib.hid (hp0 hE8)
          have HBP := Lib.hid (HB8.out.st hb8)
          have HOP := Lib.hid hownp
          have hSS : (fun w' : World => Blk w' w.heap.size #[.slice none 0 0, .slice none 0 0, .slice none 0 0, .slice none 0 0, .slice none 0 0, .slice none 0 0, .int .i64 0, .int .i64 0, .slice none 0 0, .int .i64 0, .slice none 0 0, .slice none 0 0, .slice none 0 0, .slice none 0 0, .slice cA caps.length cc, .slice none 0 0, .slice none 0 0, .slice aA acs.length ac, .slice none 0 0, .slice none 0 0, .slice none 0 0, .slice none 0 0, .int .i64 0, .slice none 0 0, .string ⟨#[]⟩] 62 ∧ w'.cell? ⟨w.heap.size, 14, none⟩ = some (.slice cA caps.length cc)) w8 := ⟨HBCX.out _ HBP.out, (HBCX.out _ HBP.out).cell 14 rfl⟩
          clear hp0 hE8 hownp hb8 CA7 hq7 h7l
          go_wp2_with fail
          refine hK.out _ _ ?_ (fun hHeld => ?_); (focus exact hSS); clear hK K; (try simp only [Act.put, List.setIfInBounds_toArray, List.set_cons_zero, List.set_cons_succ, List.getElem_toArray, List.getElem_cons_zero, List.getElem_cons_succ])
          refine wpAnyH_take (i := 7) (v := ?_) (by simp only [List.getElem?_toArray, List.getElem?_cons_zero, List.getElem?_cons_succ]; rfl) (by kernel_rfl) (by kernel_rfl) (by kernel_rfl) (by intro _ _ _ h; exact h) (Or.inl ⟨by rfl, ?_⟩) (by assumption) ?_; rotate_left; (focus (intro w1 hSw; (try dsimp only at hSw); go_simp; (try with_reducible rfl))); (try simp only [Act.put, List.setIfInBounds_toArray, List.set_cons_zero, List.set_cons_succ, List.getElem_toArray, List.getElem_cons_zero, List.getElem_cons_succ])
          refine wpAnyH_take (i := 8) (v := ?_) (by simp only [List.getElem?_toArray, List.getElem?_cons_zero, List.getElem?_cons_succ]; rfl) (by kernel_rfl) (by kernel_rfl) (by kernel_rfl) (by intro _ _ _ h; exact h) (Or.inl ⟨by rfl, ?_⟩) (by assumption) ?_; rotate_left; (focus (intro w1 hSw; (try dsimp only at hSw); go_simp; (try with_reducible rfl))); (try simp only [Act.put, List.setIfInBounds_toArray, List.set_cons_zero, List.set_cons_succ, List.getElem_toArray, List.getElem_cons_zero, List.getElem_cons_succ])
          refine wpAnyH_take (i := 9) (v := ?_) (by simp only [List.getElem?_toArray, List.getElem?_cons_zero, List.getElem?_cons_succ]; rfl) (by kernel_rfl) (by kernel_rfl) (by kernel_rfl) (by intro _ _ _ h; exact h) (Or.inl ⟨by rfl, ?_⟩) (by assumption) ?_; rotate_left; (focus (intro w1 hSw; (try dsimp only at hSw); go_simp; (try with_reducible rfl))); (try simp only [Act.put, List.setIfInBounds_toArray, List.set_cons_zero, List.set_cons_succ, List.getElem_toArray, List.getElem_cons_zero, List.getElem_cons_succ])
          refine wpAnyH_take (i := 10) (v := ?_) (by simp only [List.getElem?_toArray, List.getElem?_cons_zero, List.getElem?_cons_succ]; rfl) (by kernel_rfl) (by kernel_rfl) (by kernel_rfl) (by intro _ _ _ h; exact h) (Or.inl ⟨by rfl, ?_⟩) (by assumption) ?_; rotate_left; (focus (intro w1 hSw; (try dsimp only at hSw); go_simp; (try with_reducible rfl))); (try simp only [Act.put, List.setIfInBounds_toArray, List.set_cons_zero, List.set_cons_succ, List.getElem_toArray, List.getElem_cons_zero, List.getElem_cons_succ])
          refine wpAnyH_take (i := 11) (v := ?_) (by simp only [List.getElem?_toArray, List.getElem?_cons_zero, List.getElem?_cons_succ]; rfl) (by kernel_rfl) (by kernel_rfl) (by kernel_rfl) (by intro _ _ _ h; exact h) (Or.inl ⟨by rfl, ?_⟩) (by assumption) ?_; rotate_left; (focus (intro w1 hSw; (try dsimp only at hSw); go_simp; (try with_reducible rfl))); (try simp only [Act.put, List.setIfInBounds_toArray, List.set_cons_zero, List.set_cons_succ, List.getElem_toArray, List.getElem_cons_zero, List.getElem_cons_succ])
          refine wpAnyH_done (by kernel_rfl) ?_ _
          clear hSS hHeld HSS
          have hpl : at6 < pd.length := by rw [HPD.out, paidL_len, HAT.out]; exact HPLC.out (by simp)
          obtain ⟨bp, op, pv, rfl, hbp, hpv, g1⟩ := (HOP.out.rd encI_ok).i hpl
          have HCP : Hid (capOne (vals acs) caps (cvs l) k = lessC (⟨key, veh, sys, cls, tm, lns, cn⟩ : CV) pv) := Lib.hid (by
            rw [HCO.out, if_pos (by simp), ← HAT.out, ← HPD.out, hpv]; rfl)
          have HPB := Lib.hid (HX.out)
          have HPV : Hid ((0 ≤ pv ∧ pv ≤ 1125899906842624) ∧ 0 ≤ cn ∧ cn ≤ 1125899906842624) := Lib.hid (by
            have hx1 := chE_ok (HX.out.2.2.2 (chAt (cvs l) k) (chAt_mem (by rw [cvs_len]; exact HK.out)))
            rw [HXC.out] at hx1
            have hjl : at6 < (ofL (vals acs) on (cvs l)).length := by rw [HAT.out]; exact HPLC.out (by simp)
            have hb := pdAt_bnd (caps := caps) (fun c hc => (capE_ok (HX.out.2.2.1 c hc)).1) (fun x h => (chE_ok (HX.out.2.2.2 x (ofL_sub x h))).1.1) hjl
            have hbm := (chE_ok (HX.out.2.2.2 _ (ofL_sub _ (chAt_mem hjl)))).1.2
            have e4 : pdAt caps (ofL (vals acs) on (cvs l)) at6 = pv := by unfold pdAt; rw [← HPD.out, hpv]; rfl
            rw [e4] at hb
            exact ⟨⟨hb.1, by omega⟩, hx1.1⟩)
          have hb8 := HB5.out.st HBP.out
          have hown8 := HOWN.out.st hb8
          have bY8 := bY.trans (hb8.mono hsz)
          have hl8 := HL5.out.st HBP.out
          have BX8 := HBX5.out.below HBP.out HBX5.out.lt
          have x6 := BX8.cell 6 (v := .int .i64 cn) rfl
          have j1 : (0 : Int) ≤ (at6 : Int) := by omega
          have j2 : (at6 : Int) < (pd.length : Int) := by omega
          have HJ2 := Lib.hid (And.intro j1 j2)
          clear hpv hbp hpl HCO HPLC HAT HPD
          by_cases hlt : pv < cn
          · have hld : decide (pv < cn) = true := decide_eq_true hlt
            have hxn : lns.length ≤ 900 := HXN.out
            obtain ⟨⟨hv1, hv2⟩, hv3, hv4⟩ := HPV.out
            have hws : IntKind.i64.wrap (pv - cn) = pv - cn := IntWalk.i64_in _ (by omega)
            have HLS : Hid (lessC (⟨key, veh, sys, cls, tm, lns, cn⟩ : CV) pv = ⟨key, veh, sys, cls, tm, lns ++ [(capS, pv - cn)], pv⟩) := Lib.hid (by unfold lessC; rw [if_pos hlt])
            go_wp2_with fail
            go_quiet (fail)
            obtain ⟨W3, hW3⟩ : ∃ W3, W3 = w8.drewN nq := ⟨_, rfl⟩
            have hl3 : Own 99 encLn 2 W3 wr.heap.size A9 c9 lns := by rw [hW3]; exact hl8.drewN _
            have hb3 : Below wr.heap.size wr W3 := by rw [hW3]; exact below_drewN hb8 _
            have BX3 : Blk W3 wr.heap.size #[.string key, .string veh, .string sys, .int .i64 cls, .int .i64 tm, .slice A9 lns.length c9, .int .i64 cn] 82 := by rw [hW3]; exact BX8
            have g3 : W3.cell? ⟨bp, op + at6, none⟩ = some (.int .i64 pv) := by rw [hW3]; exact g1
            have x6 : W3.cell? ⟨wr.heap.size, 6, none⟩ = some (.int .i64 cn) := BX3.cell 6 rfl
            have HW01 : Hid (W0.heap.size ≤ w8.heap.size) := Lib.hid (by have := HBX5.out.lt; have := HB8.out.size; have := HBP.out.size; have := HW02.out; omega)
            have HLW : Hid (Own 99 encLn 2 W3 W0.heap.size A9 c9 lns) := Lib.hid (by rw [hW3]; exact (HLW5.out.st HBP.out).drewN _)
            have HPA : Hid (∀ g, A9 = some ⟨g, 0, none⟩ → bp ≠ g) := Lib.hid (fun g hg => by
              rcases HOP.out.form with ⟨q, _⟩ | ⟨g', q, _⟩
              · cases q
              · have := HOP.out.apart (HLW5.out.st HBP.out) (by decide) q hg
                injection q with q; injection q with q
                rw [q]; exact this)
            have HPB2 : Hid (bp ≠ wr.heap.size ∧ bp < W3.heap.size) := Lib.hid (by
              rcases HOP.out.form with ⟨q, _⟩ | ⟨g', q, h1, h2⟩
              · cases q
              · injection q with q; injection q with q
                have e1 := HB8.out.size
                have e2 := HBX5.out.lt
                refine ⟨by omega, ?_⟩
                rw [hW3]
                show bp < w8.heap.size
                omega)
            rw [← hW3]
            have HW01 : Hid (W0.heap.size ≤ W3.heap.size) := Lib.hid (by rw [hW3]; exact HW01.out)
            clear hW3 hown8 hl8 hb8 bY8 BX8 g1 hl3
            have HG3 := Lib.hid (fun (X : World) (hX : X.cell? ⟨bp, op + at6, none⟩ = some (.int .i64 pv)) (hx : X.cell? ⟨wr.heap.size, 6, none⟩ = some (.int .i64 cn)) => show (fun w' : World => w'.cell? ⟨bp, op + at6, none⟩ = some (.int .i64 pv) ∧ w'.cell? ⟨wr.heap.size, 6, none⟩ = some (.int .i64 cn)) X from ⟨hX, hx⟩)
            have HB3 := Lib.hid hb3
            have HX3 := Lib.hid BX3
            go_wp2_with fail
            refine wp_region_held_drew (S := (fun w' : World => w'.cell? ⟨bp, op + at6, none⟩ = some (.int .i64 pv) ∧ w'.cell? ⟨wr.heap.size, 6, none⟩ = some (.int .i64 cn))) (by kernel_rfl) ?_ (fun hHeld => ?_)
            · exact ⟨g3, x6⟩
            have hSS : (fun w' : World => w'.cell? ⟨bp, op + at6, none⟩ = some (.int .i64 pv) ∧ w'.cell? ⟨wr.heap.size, 6, none⟩ = some (.int .i64 cn)) W3.drew := ⟨g3, x6⟩
            have g3 : W3.drew.cell? ⟨bp, op + at6, none⟩ = some (.int .i64 pv) := g3
            have hb3 : Below wr.heap.size wr W3.drew := below_drewN hb3 1
            have BX3 : Blk W3.drew wr.heap.size #[.string key, .string veh, .string sys, .int .i64 cls, .int .i64 tm, .slice A9 lns.length c9, .int .i64 cn] 82 := BX3.drew
            have HLW : Hid (Own 99 encLn 2 W3.drew W0.heap.size A9 c9 lns) := Lib.hid HLW.out.drew
            have HPB2 : Hid (bp ≠ wr.heap.size ∧ bp < W3.drew.heap.size) := HPB2
            have HW01 : Hid (W0.heap.size ≤ W3.drew.heap.size) := HW01
            clear HB3 HX3 x6
            generalize W3.drew = W4 at hSS hHeld g3 hb3 BX3 HLW HPB2 HW01 ⊢
            change wpAnyH _ _ _ _ _ 14 _ _ _
            refine wpAnyH_take (i := 0) (v := ?_) (by simp only [List.getElem?_toArray, List.getElem?_cons_zero, List.getElem?_cons_succ]; rfl) (by kernel_rfl) (by kernel_rfl) (by kernel_rfl) (by intro _ _ _ h; exact h) (Or.inl ⟨by rfl, ?_⟩) (by assumption) ?_; rotate_left; (focus (intro w1 hSw; (try dsimp only at hSw); go_simp; (try with_reducible rfl))); (try simp only [Act.put, List.setIfInBounds_toArray, List.set_cons_zero, List.set_cons_succ, List.getElem_toArray, List.getElem_cons_zero, List.getElem_cons_succ])
            refine wpAnyH_take (i := 2) (v := ?_) (by simp only [List.getElem?_toArray, List.getElem?_cons_zero, List.getElem?_cons_succ]; rfl) (by kernel_rfl) (by kernel_rfl) (by kernel_rfl) (by intro _ _ _ h; exact h) (Or.inl ⟨by rfl, ?_⟩) (by assumption) ?_; rotate_left; (focus (intro w1 hSw; (try dsimp only at hSw); go_simp; (try with_reducible rfl))); (try simp only [Act.put, List.setIfInBounds_toArray, List.set_cons_zero, List.set_cons_succ, List.getElem_toArray, List.getElem_cons_zero, List.getElem_cons_succ])
            refine wpAnyH_take (i := 3) (v := ?_) (by simp only [List.getElem?_toArray, List.getElem?_cons_zero, List.getElem?_cons_succ]; rfl) (by kernel_rfl) (by kernel_rfl) (by kernel_rfl) (by intro _ _ _ h; exact h) (Or.inl ⟨by rfl, ?_⟩) (by assumption) ?_; rotate_left; (focus (intro w1 hSw; (try dsimp only at hSw); go_simp; (try with_reducible rfl))); (try simp only [Act.put, List.setIfInBounds_toArray, List.set_cons_zero, List.set_cons_succ, List.getElem_toArray, List.getElem_cons_zero, List.getElem_cons_succ])
            refine wpAnyH_take (i := 4) (v := ?_) (by simp only [List.getElem?_toArray, List.getElem?_cons_zero, List.getElem?_cons_succ]; rfl) (by kernel_rfl) (by kernel_rfl) (by kernel_rfl) (by intro _ _ _ h; exact h) (Or.inl ⟨by rfl, ?_⟩) (by assumption) ?_; rotate_left; (focus (intro w1 hSw; (try dsimp only at hSw); go_simp; (try with_reducible rfl))); (try simp only [Act.put, List.setIfInBounds_toArray, List.set_cons_zero, List.set_cons_succ, List.getElem_toArray, List.getElem_cons_zero, List.getElem_cons_succ])
            refine wpAnyH_take (i := 5) (v := ?_) (by simp only [List.getElem?_toArray, List.getElem?_cons_zero, List.getElem?_cons_succ]; rfl) (by kernel_rfl) (by kernel_rfl) (by kernel_rfl) (by intro _ _ _ h; exact h) (Or.inl ⟨by rfl, ?_⟩) (by assumption) ?_; rotate_left; (focus (intro w1 hSw; (try dsimp only at hSw); go_simp; (try with_reducible rfl))); (try simp only [Act.put, List.setIfInBounds_toArray, List.set_cons_zero, List.set_cons_succ, List.getElem_toArray, List.getElem_cons_zero, List.getElem_cons_succ])
            refine wpAnyH_take (i := 6) (v := ?_) (by simp only [List.getElem?_toArray, List.getElem?_cons_zero, List.getElem?_cons_succ]; rfl) (by kernel_rfl) (by kernel_rfl) (by kernel_rfl) (by intro _ _ _ h; exact h) (Or.inl ⟨by rfl, ?_⟩) (by assumption) ?_; rotate_left; (focus (intro w1 hSw; (try dsimp only at hSw); go_simp; (try with_reducible rfl))); (try simp only [Act.put, List.setIfInBounds_toArray, List.set_cons_zero, List.set_cons_succ, List.getElem_toArray, List.getElem_cons_zero, List.getElem_cons_succ])
            refine wpAnyH_take (i := 7) (v := ?_) (by simp only [List.getElem?_toArray, List.getElem?_cons_zero, List.getElem?_cons_succ]; rfl) (by kernel_rfl) (by kernel_rfl) (by kernel_rfl) (by intro _ _ _ h; exact h) (Or.inl ⟨by rfl, ?_⟩) (by assumption) ?_; rotate_left; (focus (intro w1 hSw; (try dsimp only at hSw); go_simp; (try with_reducible rfl))); (try simp only [Act.put, List.setIfInBounds_toArray, List.set_cons_zero, List.set_cons_succ, List.getElem_toArray, List.getElem_cons_zero, List.getElem_cons_succ])
            refine wpAnyH_take (i := 8) (v := ?_) (by simp only [List.getElem?_toArray, List.getElem?_cons_zero, List.getElem?_cons_succ]; rfl) (by kernel_rfl) (by kernel_rfl) (by kernel_rfl) (by intro _ _ _ h; exact h) (Or.inl ⟨by rfl, ?_⟩) (by assumption) ?_; rotate_left; (focus (intro w1 hSw; (try dsimp only at hSw); go_simp; (try with_reducible rfl))); (try simp only [Act.put, List.setIfInBounds_toArray, List.set_cons_zero, List.set_cons_succ, List.getElem_toArray, List.getElem_cons_zero, List.getElem_cons_succ])
            refine wpAnyH_take (i := 9) (v := ?_) (by simp only [List.getElem?_toArray, List.getElem?_cons_zero, List.getElem?_cons_succ]; rfl) (by kernel_rfl) (by kernel_rfl) (by kernel_rfl) (by intro _ _ _ h; exact h) (Or.inl ⟨by rfl, ?_⟩) (by assumption) ?_; rotate_left; (focus (intro w1 hSw; (try dsimp only at hSw); go_simp; (try with_reducible rfl))); (try simp only [Act.put, List.setIfInBounds_toArray, List.set_cons_zero, List.set_cons_succ, List.getElem_toArray, List.getElem_cons_zero, List.getElem_cons_succ])
            have x5 : W4.cell? ⟨wr.heap.size, 5, none⟩ = some (.slice A9 lns.length c9) := BX3.cell 5 rfl
            refine wpAnyH_ready (rs := [1, 10]) (by kernel_rfl) (by simp) ?_; refine AllReadyH.cons (by simp only [List.getElem?_toArray, List.getElem?_cons_zero, List.getElem?_cons_succ]; rfl) (fun K hK => ?_) (AllReadyH.cons (by simp only [List.getElem?_toArray, List.getElem?_cons_zero, List.getElem?_cons_succ]; rfl) (fun K hK => ?_) AllReadyH.nil)
            · rw [if_pos (by rfl)]; go_wp2_with fail
              refine hK.out _ _ ?_ (fun hHeld => ?_); (focus exact hSS); clear hK K; (try simp only [Act.put, List.setIfInBounds_toArray, List.set_cons_zero, List.set_cons_succ, List.getElem_toArray, List.getElem_cons_zero, List.getElem_cons_succ])
              refine wpAnyH_ready (rs := [10]) (by kernel_rfl) (by simp) ?_; refine AllReadyH.cons (by simp only [List.getElem?_toArray, List.getElem?_cons_zero, List.getElem?_cons_succ]; rfl) (fun K hK => ?_) AllReadyH.nil
              obtain ⟨V, hV⟩ : ∃ x, World.alloc W4 (.cells #[.string ⟨#[99, 97, 112]⟩, .int .i64 (pv - cn)] 99) = x := ⟨_, rfl⟩; (have hbV : Below W4.heap.size W4 V := by rw [← hV]; exact (Below.refl _ _).al _); (have hVB : V.heap[W4.heap.size]? = some (.cells #[.string ⟨#[99, 97, 112]⟩, .int .i64 (pv - cn)] 99 (0, 0)) := by rw [← hV]; exact heap_alloc_new W4 _); (have g3 : V.cell? ⟨bp, op + at6, none⟩ = some (.int .i64 pv) := (hbV.cell (p := ⟨bp, op + at6, none⟩) HPB2.out.2).trans g3); (have BXV := BX3.below hbV BX3.lt); (have x6 : V.cell? ⟨wr.heap.size, 6, none⟩ = some (.int .i64 cn) := BXV.cell 6 rfl); (have hSS : (fun w' : World => w'.cell? ⟨bp, op + at6, none⟩ = some (.int .i64 pv) ∧ w'.cell? ⟨wr.heap.size, 6, none⟩ = some (.int .i64 cn)) V := ⟨g3, x6⟩)
              rw [if_pos (by rfl)]
              go_wp2_with fail
              refine hK.out _ _ ?_ (fun hHeld => ?_); (focus exact hSS); clear hK K; (try simp only [Act.put, List.setIfInBounds_toArray, List.set_cons_zero, List.set_cons_succ, List.getElem_toArray, List.getElem_cons_zero, List.getElem_cons_succ])
              refine wpAnyH_ready (rs := [11]) (by kernel_rfl) (by simp) ?_; refine AllReadyH.cons (by simp only [List.getElem?_toArray, List.getElem?_cons_zero, List.getElem?_cons_succ]; rfl) (fun K hK => ?_) AllReadyH.nil; rw [if_pos (by rfl)]; refine wp_appB (.tmp 82) (.tmp 91) tyLn encLn_ok (by rfl) ((capS, pv - cn) : Ln) (by rfl) W0.heap.size (by rfl) (by rfl) (HLW.out.st hbV) (by rfl) hVB (by omega) (by omega) (by have := HW01.out; have := hbV.size; omega) ?_; intro A8 c8 w9 hown9 hb9 hs9 hf9; (have hwr0 : wr.heap.size < W0.heap.size := by have := HW02.out; omega); (have BX9 := BXV.below hb9 hwr0); (have x5 := BX9.cell 5 (v := .slice A9 lns.length c9) rfl); (have f5 := BX9.frozen 5); (have x6 := BX9.cell 6 (v := .int .i64 cn) rfl); (have g3 : w9.cell? ⟨bp, op + at6, none⟩ = some (.int .i64 pv) := (hf9 ⟨bp, op + at6, none⟩ (by have := hbV.size; have := HPB2.out.2; show bp < _; omega) (fun g hg => HPA.out g hg)).trans g3); (have hSS : (fun w' : World => w'.cell? ⟨bp, op + at6, none⟩ = some (.int .i64 pv) ∧ w'.cell? ⟨wr.heap.size, 6, none⟩ = some (.int .i64 cn)) w9 := ⟨g3, x6⟩); refine hK.out _ _ ?_ (fun hHeld => ?_); (focus exact hSS); clear hK K; (try simp only [Act.put, List.setIfInBounds_toArray, List.set_cons_zero, List.set_cons_succ, List.getElem_toArray, List.getElem_cons_zero, List.getElem_cons_succ]); refine wpAnyH_take (i := 12) (v := ?_) (by simp only [List.getElem?_toArray, List.getElem?_cons_zero, List.getElem?_cons_succ]; rfl) (by kernel_rfl) (by kernel_rfl) (by kernel_rfl) (by intro _ _ _ h; exact h) (Or.inl ⟨by rfl, ?_⟩) (by assumption) ?_; rotate_left; (focus (intro w1 hSw; (try dsimp only at hSw); go_simp; (try with_reducible rfl))); (try simp only [Act.put, List.setIfInBounds_toArray, List.set_cons_zero, List.set_cons_succ, List.getElem_toArray, List.getElem_cons_zero, List.getElem_cons_succ]); refine wpAnyH_ready (rs := [13]) (by kernel_rfl) (by simp) ?_; refine AllReadyH.cons (by simp only [List.getElem?_toArray, List.getElem?_cons_zero, List.getElem?_cons_succ]; rfl) (fun K hK => ?_) AllReadyH.nil; rw [if_pos (by rfl)]; go_wp2_with fail; (have BXB := Lib.hid (BX9.set 5 (.slice A8 (lns.length + 1) c8))); (have HOB := Lib.hid (hown9.other (p := ⟨wr.heap.size, 5, none⟩) hwr0 (.slice A8 (lns.length + 1) c8))); (have HBB := Lib.hid (((hb3.st hbV).trans (hb9.mono (Nat.le_of_lt hwr0))).setCell (p := ⟨wr.heap.size, 5, none⟩) (Nat.le_refl _) (.slice A8 (lns.length + 1) c8))); (have g3 := (World.cell?_setCell_other w9 ⟨wr.heap.size, 5, none⟩ ⟨bp, op + at6, none⟩ (.slice A8 (lns.length + 1) c8) (by intro q; injection q with q; have := HPB2.out.1; omega)).trans g3); clear BX9 x5 f5 x6 hown9 hb9 hs9 hf9 hV hVB hbV BXV BX3 hb3 HLW; generalize World.setCell w9 ⟨wr.heap.size, 5, none⟩ (.slice A8 (lns.length + 1) c8) = WB at *; (have x6 : WB.cell? ⟨wr.heap.size, 6, none⟩ = some (.int .i64 cn) := BXB.out.cell 6 rfl); (have hSS : (fun w' : World => w'.cell? ⟨bp, op + at6, none⟩ = some (.int .i64 pv) ∧ w'.cell? ⟨wr.heap.size, 6, none⟩ = some (.int .i64 cn)) WB := ⟨g3, x6⟩); refine hK.out _ _ ?_ (fun hHeld => ?_); (focus exact hSS); clear hK K; (try simp only [Act.put, List.setIfInBounds_toArray, List.set_cons_zero, List.set_cons_succ, List.getElem_toArray, List.getElem_cons_zero, List.getElem_cons_succ]); refine wpAnyH_done (by kernel_rfl) ?_ _; clear hSS hHeld; (have f6 := BXB.out.frozen 6); (have BXC := BXB.out.set 6 (.int .i64 pv)); (have hownC := HOB.out.other (p := ⟨wr.heap.size, 6, none⟩) hwr0 (.int .i64 pv)); (have hbC := HBB.out.setCell (p := ⟨wr.heap.size, 6, none⟩) (Nat.le_refl _) (.int .i64 pv)); (have hwC := HOWN.out.st hbC); (have bYC := bY.trans (hbC.mono hsz)); (have R : Hid (cvs (r ++ [⟨⟨key, veh, sys, cls, tm, lns ++ [(capS, pv - cn)], pv⟩, A8, c8⟩]) = (cappedL (vals acs) caps (cvs l)).take (k + 1)) := Lib.hid (by rw [cvs_app, HRV.out, HT.out, HCP.out, HLS.out]; rfl)); clear HLS HCP HT HRV; go_wp2_with (first | (refine wpList_boxLoad rfl (ty := 82) (x := .tmp 10) (cs := #[.string key, .string veh, .string sys, .int .i64 cls, .int .i64 tm, .slice A8 (lns.length + 1) c8, .int .i64 pv]) rfl BXC rfl ⟨_, Tryd.underlying82, by kernel_rfl⟩ ?_) | (at_builtin; refine wpList_app1b rfl (.tmp 99) (.tmp 101) tyCg encCg_ok rfl (⟨⟨key, veh, sys, cls, tm, lns ++ [(capS, pv - cn)], pv⟩, A8, c8⟩ : Cg) (by simp [encCg]) _ rfl rfl hwC rfl (by first | rfl | simp) (by omega) (by omega) bYC.size ?_; intro A7 c7 w7 hown7 hb7 hs7 hf7; have hbel7 := bYC.trans hb7)); (have hll7 := (HLL.out.snoc (x := ⟨⟨key, veh, sys, cls, tm, lns ++ [(capS, pv - cn)], pv⟩, A8, c8⟩) hbC (hownC.mono (Nat.le_of_lt hwr0)) hsz).keepA hwC (by decide) hf7); clear hwC hf7 hb7 hs7; go_wp2_with fail; go_roundw; (case rel => exact ⟨k + 1, r ++ [⟨⟨key, veh, sys, cls, tm, lns ++ [(capS, pv - cn)], pv⟩, A8, c8⟩], A7, c7, HK.out, by go_num, by simp, R, hown7, hll7, hbel7⟩); (case measure => have := HK.out; simp [RowKit.intOf]; omega)
            · obtain ⟨V, hV⟩ : ∃ x, World.alloc W4 (.cells #[.string ⟨#[99, 97, 112]⟩, .int .i64 (pv - cn)] 99) = x := ⟨_, rfl⟩; (have hbV : Below W4.heap.size W4 V := by rw [← hV]; exact (Below.refl _ _).al _); (have hVB : V.heap[W4.heap.size]? = some (.cells #[.string ⟨#[99, 97, 112]⟩, .int .i64 (pv - cn)] 99 (0, 0)) := by rw [← hV]; exact heap_alloc_new W4 _); (have g3 : V.cell? ⟨bp, op + at6, none⟩ = some (.int .i64 pv) := (hbV.cell (p := ⟨bp, op + at6, none⟩) HPB2.out.2).trans g3); (have BXV := BX3.below hbV BX3.lt); (have x6 : V.cell? ⟨wr.heap.size, 6, none⟩ = some (.int .i64 cn) := BXV.cell 6 rfl); (have hSS : (fun w' : World => w'.cell? ⟨bp, op + at6, none⟩ = some (.int .i64 pv) ∧ w'.cell? ⟨wr.heap.size, 6, none⟩ = some (.int .i64 cn)) V := ⟨g3, x6⟩)
              rw [if_pos (by rfl)]
              go_wp2_with fail
              refine hK.out _ _ ?_ (fun hHeld => ?_); (focus exact hSS); clear hK K; (try simp only [Act.put, List.setIfInBounds_toArray, List.set_cons_zero, List.set_cons_succ, List.getElem_toArray, List.getElem_cons_zero, List.getElem_cons_succ])
              have x5 : V.cell? ⟨wr.heap.size, 5, none⟩ = some (.slice A9 lns.length c9) := BXV.cell 5 rfl
              refine wpAnyH_ready (rs := [1]) (by kernel_rfl) (by simp) ?_; refine AllReadyH.cons (by simp only [List.getElem?_toArray, List.getElem?_cons_zero, List.getElem?_cons_succ]; rfl) (fun K hK => ?_) AllReadyH.nil
              rw [if_pos (by rfl)]; go_wp2_with fail
              refine hK.out _ _ ?_ (fun hHeld => ?_); (focus exact hSS); clear hK K; (try simp only [Act.put, List.setIfInBounds_toArray, List.set_cons_zero, List.set_cons_succ, List.getElem_toArray, List.getElem_cons_zero, List.getElem_cons_succ])
              refine wpAnyH_ready (rs := [11]) (by kernel_rfl) (by simp) ?_; refine AllReadyH.cons (by simp only [List.getElem?_toArray, List.getElem?_cons_zero, List.getElem?_cons_succ]; rfl) (fun K hK => ?_) AllReadyH.nil; rw [if_pos (by rfl)]; refine wp_appB (.tmp 82) (.tmp 91) tyLn encLn_ok (by rfl) ((capS, pv - cn) : Ln) (by rfl) W0.heap.size (by rfl) (by rfl) (HLW.out.st hbV) (by rfl) hVB (by omega) (by omega) (by have := HW01.out; have := hbV.size; omega) ?_; intro A8 c8 w9 hown9 hb9 hs9 hf9; (have hwr0 : wr.heap.size < W0.heap.size := by have := HW02.out; omega); (have BX9 := BXV.below hb9 hwr0); (have x5 := BX9.cell 5 (v := .slice A9 lns.length c9) rfl); (have f5 := BX9.frozen 5); (have x6 := BX9.cell 6 (v := .int .i64 cn) rfl); (have g3 : w9.cell? ⟨bp, op + at6, none⟩ = some (.int .i64 pv) := (hf9 ⟨bp, op + at6, none⟩ (by have := hbV.size; have := HPB2.out.2; show bp < _; omega) (fun g hg => HPA.out g hg)).trans g3); (have hSS : (fun w' : World => w'.cell? ⟨bp, op + at6, none⟩ = some (.int .i64 pv) ∧ w'.cell? ⟨wr.heap.size, 6, none⟩ = some (.int .i64 cn)) w9 := ⟨g3, x6⟩); refine hK.out _ _ ?_ (fun hHeld => ?_); (focus exact hSS); clear hK K; (try simp only [Act.put, List.setIfInBounds_toArray, List.set_cons_zero, List.set_cons_succ, List.getElem_toArray, List.getElem_cons_zero, List.getElem_cons_succ]); refine wpAnyH_take (i := 12) (v := ?_) (by simp only [List.getElem?_toArray, List.getElem?_cons_zero, List.getElem?_cons_succ]; rfl) (by kernel_rfl) (by kernel_rfl) (by kernel_rfl) (by intro _ _ _ h; exact h) (Or.inl ⟨by rfl, ?_⟩) (by assumption) ?_; rotate_left; (focus (intro w1 hSw; (try dsimp only at hSw); go_simp; (try with_reducible rfl))); (try simp only [Act.put, List.setIfInBounds_toArray, List.set_cons_zero, List.set_cons_succ, List.getElem_toArray, List.getElem_cons_zero, List.getElem_cons_succ]); refine wpAnyH_ready (rs := [13]) (by kernel_rfl) (by simp) ?_; refine AllReadyH.cons (by simp only [List.getElem?_toArray, List.getElem?_cons_zero, List.getElem?_cons_succ]; rfl) (fun K hK => ?_) AllReadyH.nil; rw [if_pos (by rfl)]; go_wp2_with fail; (have BXB := Lib.hid (BX9.set 5 (.slice A8 (lns.length + 1) c8))); (have HOB := Lib.hid (hown9.other (p := ⟨wr.heap.size, 5, none⟩) hwr0 (.slice A8 (lns.length + 1) c8))); (have HBB := Lib.hid (((hb3.st hbV).trans (hb9.mono (Nat.le_of_lt hwr0))).setCell (p := ⟨wr.heap.size, 5, none⟩) (Nat.le_refl _) (.slice A8 (lns.length + 1) c8))); (have g3 := (World.cell?_setCell_other w9 ⟨wr.heap.size, 5, none⟩ ⟨bp, op + at6, none⟩ (.slice A8 (lns.length + 1) c8) (by intro q; injection q with q; have := HPB2.out.1; omega)).trans g3); clear BX9 x5 f5 x6 hown9 hb9 hs9 hf9 hV hVB hbV BXV BX3 hb3 HLW; generalize World.setCell w9 ⟨wr.heap.size, 5, none⟩ (.slice A8 (lns.length + 1) c8) = WB at *; (have x6 : WB.cell? ⟨wr.heap.size, 6, none⟩ = some (.int .i64 cn) := BXB.out.cell 6 rfl); (have hSS : (fun w' : World => w'.cell? ⟨bp, op + at6, none⟩ = some (.int .i64 pv) ∧ w'.cell? ⟨wr.heap.size, 6, none⟩ = some (.int .i64 cn)) WB := ⟨g3, x6⟩); refine hK.out _ _ ?_ (fun hHeld => ?_); (focus exact hSS); clear hK K; (try simp only [Act.put, List.setIfInBounds_toArray, List.set_cons_zero, List.set_cons_succ, List.getElem_toArray, List.getElem_cons_zero, List.getElem_cons_succ]); refine wpAnyH_done (by kernel_rfl) ?_ _; clear hSS hHeld; (have f6 := BXB.out.frozen 6); (have BXC := BXB.out.set 6 (.int .i64 pv)); (have hownC := HOB.out.other (p := ⟨wr.heap.size, 6, none⟩) hwr0 (.int .i64 pv)); (have hbC := HBB.out.setCell (p := ⟨wr.heap.size, 6, none⟩) (Nat.le_refl _) (.int .i64 pv)); (have hwC := HOWN.out.st hbC); (have bYC := bY.trans (hbC.mono hsz)); (have R : Hid (cvs (r ++ [⟨⟨key, veh, sys, cls, tm, lns ++ [(capS, pv - cn)], pv⟩, A8, c8⟩]) = (cappedL (vals acs) caps (cvs l)).take (k + 1)) := Lib.hid (by rw [cvs_app, HRV.out, HT.out, HCP.out, HLS.out]; rfl)); clear HLS HCP HT HRV; go_wp2_with (first | (refine wpList_boxLoad rfl (ty := 82) (x := .tmp 10) (cs := #[.string key, .string veh, .string sys, .int .i64 cls, .int .i64 tm, .slice A8 (lns.length + 1) c8, .int .i64 pv]) rfl BXC rfl ⟨_, Tryd.underlying82, by kernel_rfl⟩ ?_) | (at_builtin; refine wpList_app1b rfl (.tmp 99) (.tmp 101) tyCg encCg_ok rfl (⟨⟨key, veh, sys, cls, tm, lns ++ [(capS, pv - cn)], pv⟩, A8, c8⟩ : Cg) (by simp [encCg]) _ rfl rfl hwC rfl (by first | rfl | simp) (by omega) (by omega) bYC.size ?_; intro A7 c7 w7 hown7 hb7 hs7 hf7; have hbel7 := bYC.trans hb7)); (have hll7 := (HLL.out.snoc (x := ⟨⟨key, veh, sys, cls, tm, lns ++ [(capS, pv - cn)], pv⟩, A8, c8⟩) hbC (hownC.mono (Nat.le_of_lt hwr0)) hsz).keepA hwC (by decide) hf7); clear hwC hf7 hb7 hs7; go_wp2_with fail; go_roundw; (case rel => exact ⟨k + 1, r ++ [⟨⟨key, veh, sys, cls, tm, lns ++ [(capS, pv - cn)], pv⟩, A8, c8⟩], A7, c7, HK.out, by go_num, by simp, R, hown7, hll7, hbel7⟩); (case measure => have := HK.out; simp [RowKit.intOf]; omega)
          · have hld : decide (pv < cn) = false := decide_eq_false hlt
            have R : Hid (cvs (r ++ [⟨(⟨key, veh, sys, cls, tm, lns, cn⟩ : CV), A9, c9⟩]) = (cappedL (vals acs) caps (cvs l)).take (k + 1)) := Lib.hid (by rw [cvs_app, HRV.out, HT.out, HCP.out, lessC_same (by show cn ≤ pv; omega)]; rfl)
            go_wp2_with fail
            go_quiet (fail)
            obtain ⟨W3, hW3⟩ : ∃ W3, W3 = w8.drewN nq := ⟨_, rfl⟩
            have hown3 : Own 82 encCg 7 W3 w3.heap.size A' c' r := by rw [hW3]; exact hown8.drewN _
            have hl3 : Own 99 encLn 2 W3 wr.heap.size A9 c9 lns := by rw [hW3]; exact hl8.drewN _
            have hb3 : Below wr.heap.size wr W3 := by rw [hW3]; exact below_drewN hb8 _
            have bY3 : Below w3.heap.size w3 W3 := by rw [hW3]; exact below_drewN bY8 _
            have BX3 : Blk W3 wr.heap.size #[.string key, .string veh, .string sys, .int .i64 cls, .int .i64 tm, .slice A9 lns.length c9, .int .i64 cn] 82 := by rw [hW3]; exact BX8
            rw [← hW3]
            clear hW3 hown8 hl8 hb8 bY8 BX8 x6 g1
            go_wp2_with (first | (refine wpList_boxLoad rfl (ty := 82) (x := .tmp 10) (cs := #[.string key, .string veh, .string sys, .int .i64 cls, .int .i64 tm, .slice A9 lns.length c9, .int .i64 cn]) rfl BX3 rfl ⟨_, Tryd.underlying82, by kernel_rfl⟩ ?_) | (at_builtin; refine wpList_app1b rfl (.tmp 99) (.tmp 101) tyCg encCg_ok rfl (⟨(⟨key, veh, sys, cls, tm, lns, cn⟩ : CV), A9, c9⟩ : Cg) rfl _ rfl (by simp) hown3 rfl (by first | rfl | simp) (by first | omega | (simp; omega)) (by first | omega | (simp; omega)) (by first | exact bY3.size | (have := bY3.size; omega)) ?_; intro A8 c8 w8 hown8 hb8 hs8 hf8; have hbel8 := bY3.trans hb8))
            have hll8 := (HLL.out.snoc (x := ⟨(⟨key, veh, sys, cls, tm, lns, cn⟩ : CV), A9, c9⟩) hb3 hl3 hsz).keepA hown3 (by decide) hf8
            clear hown3 hf8 hb8 hs8
            go_wp2_with fail
            go_roundw
            case rel => exact ⟨k + 1, r ++ [⟨(⟨key, veh, sys, cls, tm, lns, cn⟩ : CV), A9, c9⟩], A8, c8, HK.out, by go_num, by simp, R, hown8, hll8, hbel8⟩
            case measure => have := HK.out; simp [RowKit.intOf]; omega
      · obtain rfl : k = l.length := by omega
        have R : Hid (cvs r = cappedL (vals acs) caps (cvs l)) := Lib.hid (by rw [HRV.out, List.take_of_length_le (Nat.le_of_eq ((cappedL_len _ _ _).trans (cvs_len l)))])
        have hll9 : CgRs wr r := hll.rs (capped_lns HLN.out R.out)
        have hmw : w.heap.size ≤ w3.heap.size := by omega
        have bW9 := HBW3.out.st bY
        go_wp2_with fail
        go_ret2
        exact ⟨A', c', r, by rw [HE0.out]; rfl, fun _ => R.out, fun q => absurd HE0.out q, hown.mono hmw, hll9, bW9⟩
  · have hE2 : (applyE caps (cvs l) != 0) = true := by simp [hE]
    have HE := Lib.hid hE
    clear hE
    have bW3 := HbW.out.st hb3
    go_wp2_with fail
    go_ret2
    exact ⟨none, 0, [], rfl, fun q => absurd q HE.out, fun _ => rfl, Own.nil _ _, (fun x hx => by cases hx), bW3⟩
end Go.Proofs.YtlnnbkpcnhlfcaaDoor
