/- The order of charges, and price.Sort's comparison walked. -/
import Derived.Test.YtcpfiiapfggmpaaGreatJSumAny
import Derived.Test.YtcpfiiapfggmpaaGreatJSort
import Derived.Test.YtcpfiiapfggmpaaGreatJStabList
set_option linter.unusedSimpArgs false
set_option linter.unusedSimpArgs false
namespace Go.Proofs.YtcpfiiapfggmpaaGreat
open Go.RowKit Go.Lib Go.Sort

def cmpC (a b : CV) : Int := firstI [cmpI a.tm b.tm, cmpS a.key b.key]
theorem cmpC_pre : PreC cmpC := (cmpI_pre.on CV.tm).cons (pre_one (cmpS_pre.on CV.key))
def cmpCg (a b : Cg) : Int := cmpC a.c b.c
theorem cmpCg_pre : PreC cmpCg := cmpC_pre.on Cg.c
def ltC : CV → CV → Bool := ltOf cmpC
theorem swoC : SWO ltC := cmpC_pre.swo
theorem ltC_iff (x y : CV) : ltC x y = (decide (x.tm < y.tm) || decide (x.tm = y.tm) && sltB x.key y.key) := by
  show decide (cmpC x y < 0) = _
  rw [← cmp_slt]
  unfold cmpC firstI firstI
  by_cases h : x.tm < y.tm
  · have : cmpI x.tm y.tm = -1 := by unfold cmpI Lib.compareInt; rw [if_pos h]
    rw [this]; simp [h]
  · by_cases h2 : x.tm = y.tm
    · rw [h2]
      have : cmpI y.tm y.tm = 0 := by rw [cmpI_zero]
      rw [this]
      by_cases hc : Lib.compareBytes x.key.data.toList y.key.data.toList = 0 <;> simp [firstI, cmpS, hc]
    · have : cmpI x.tm y.tm = 1 := by unfold cmpI Lib.compareInt; rw [if_neg h, if_pos (by omega)]
      rw [this]; simp [h, h2]
/-- sorted as the program sorts -/
def SortC (l r : List CV) : Prop := StabOf ltC l r
theorem StabOf.sortC {o r : List Cg} (h : StabOf (ltOf cmpCg) o r) : SortC (cvs o) (cvs r) := h.map Cg.c (fun _ _ => rfl)
theorem StabOf.pw {β : Type} {lt : β → β → Bool} {l r : List β} (h : StabOf lt l r) : r.Pairwise (fun x y => lt y x = false) := by
  obtain ⟨t, _, hs, rfl⟩ := h
  rw [List.pairwise_map]
  exact hs.imp fun {a b} hab => ((lexB_no _ _).1 hab).1
/-- where the reference puts the next charge -/
theorem insC_at {l : List CV} {o : List Cg} {x : CV} {a : Nat} (h : SortC l (cvs o)) (ha : a ≤ o.length) (h1 : ∀ j y, a ≤ j → (cvs o)[j]? = some y → ltC x y = true) (h2 : ∀ y, 0 < a → (cvs o)[a - 1]? = some y → ltC x y = false) :
    SortC (l ++ [x]) ((cvs o).take a ++ [x] ++ (cvs o).drop a) := by
  have hp := StabOf.pw h
  have := StabOf.snoc swoC h x
  rwa [insS_at (cvs o) a (by rw [cvs_len]; exact ha) ?_ (fun y hy => h1 a y (Nat.le_refl _) hy)] at this
  intro j y hj hy
  have ha1 : a - 1 < (cvs o).length := by rw [cvs_len]; omega
  obtain ⟨z, hz⟩ : ∃ z, (cvs o)[a - 1]? = some z := ⟨_, List.getElem?_eq_getElem ha1⟩
  have h3 := h2 z (by omega) hz
  rcases (by omega : j = a - 1 ∨ j < a - 1) with rfl | q
  · rw [hy] at hz; obtain rfl := Option.some.inj hz; exact h3
  · have hj1 : j < (cvs o).length := by rw [cvs_len]; omega
    have hyj : y = (cvs o)[j] := by rw [List.getElem?_eq_getElem hj1] at hy; exact (Option.some.inj hy).symm
    have hza : z = (cvs o)[a - 1] := by rw [List.getElem?_eq_getElem ha1] at hz; exact (Option.some.inj hz).symm
    have h4 := List.pairwise_iff_getElem.1 hp j (a - 1) hj1 ha1 q
    rw [← hyj, ← hza] at h4
    exact swoC.ntrans x z y h3 h4

theorem scmp_any (a b : ByteArray) (W : World) : Calls Tryz.prog 74 #[.string a, .string b] W fun e w' => e = .returned (.int .i64 (cmpS a b)) ∧ w' = W := Any.strings_Compare Tryz.lay_scmp_f74 a b W
set_option maxRecDepth 100000 in
set_option maxHeartbeats 8000000 in
theorem cgCmp_any (W : World) (x y : Cg) : Calls Tryz.prog 71 #[CgV x, CgV y] W fun e w' => e = .returned (.int .i64 (cmpCg x y)) ∧ Gr W w' := by
  obtain ⟨w, rfl⟩ : ∃ w, w = W := ⟨_, rfl⟩
  obtain ⟨⟨a1, a2, a3, a4, a5, as_, a7⟩, aA, ac⟩ := x
  obtain ⟨⟨b1, b2, b3, b4, b5, bs_, b7⟩, bA, bc⟩ := y
  simp only [CgV, CHV, cmpCg, cmpC]
  obtain ⟨Y1, hY1⟩ : ∃ Y, w.alloc (.cells #[.string a1, .string a2, .string a3, .int .i64 a4, .int .i64 a5, .slice aA as_.length ac, .int .i64 a7] 66) = Y := ⟨_, rfl⟩; obtain ⟨Y2, hY2⟩ : ∃ Y, Y1.alloc (.cells #[.string b1, .string b2, .string b3, .int .i64 b4, .int .i64 b5, .slice bA bs_.length bc, .int .i64 b7] 66) = Y := ⟨_, rfl⟩; have gY : Gr w Y2 := (by rw [← hY2, ← hY1]; exact (Gr.alloc _ _).trans (Gr.alloc _ _)); have BA : Blk Y2 w.heap.size #[.string a1, .string a2, .string a3, .int .i64 a4, .int .i64 a5, .slice aA as_.length ac, .int .i64 a7] 66 := (by rw [← hY2, ← hY1]; exact (Blk.new w _ _).alloc _); have BB : Blk Y2 Y1.heap.size #[.string b1, .string b2, .string b3, .int .i64 b4, .int .i64 b5, .slice bA bs_.length bc, .int .i64 b7] 66 := (by rw [← hY2]; exact Blk.new Y1 _ _)
  have HSS : Hid ((fun w' : World => w'.cell? ⟨w.heap.size, 0, none⟩ = some (.string a1) ∧ w'.cell? ⟨w.heap.size, 4, none⟩ = some (.int .i64 a5) ∧ w'.cell? ⟨Y1.heap.size, 0, none⟩ = some (.string b1) ∧ w'.cell? ⟨Y1.heap.size, 4, none⟩ = some (.int .i64 b5)) Y2) := Lib.hid ⟨BA.cell 0 rfl, BA.cell 4 rfl, BB.cell 0 rfl, BB.cell 4 rfl⟩; have HBA := Lib.hid BA; have HBB := Lib.hid BB; clear BA BB; go_enter Tryz.func71, Tryz.ntmps71; go_wp2_with fail; refine wp_region_held_drew (S := (fun w' : World => w'.cell? ⟨w.heap.size, 0, none⟩ = some (.string a1) ∧ w'.cell? ⟨w.heap.size, 4, none⟩ = some (.int .i64 a5) ∧ w'.cell? ⟨Y1.heap.size, 0, none⟩ = some (.string b1) ∧ w'.cell? ⟨Y1.heap.size, 4, none⟩ = some (.int .i64 b5))) (by kernel_rfl) ?_ (fun hHeld => ?_); (focus exact HSS.out); have hSS : (fun w' : World => w'.cell? ⟨w.heap.size, 0, none⟩ = some (.string a1) ∧ w'.cell? ⟨w.heap.size, 4, none⟩ = some (.int .i64 a5) ∧ w'.cell? ⟨Y1.heap.size, 0, none⟩ = some (.string b1) ∧ w'.cell? ⟨Y1.heap.size, 4, none⟩ = some (.int .i64 b5)) Y2.drew := HSS.out; have gW : Gr w Y2.drew := gY.drew; have HBA := Lib.hid HBA.out.drew; have HBB := Lib.hid HBB.out.drew; clear HSS hY1 hY2 gY; generalize Y2.drew = W0 at hSS gW hHeld HBA HBB ⊢; change wpAnyH _ _ _ _ _ 13 _ _ _
  refine wpAnyH_take (i := 0) (v := ?_) (by simp only [List.getElem?_toArray, List.getElem?_cons_zero, List.getElem?_cons_succ]; rfl) (by kernel_rfl) (by kernel_rfl) (by kernel_rfl) (by intro _ _ _ h; exact h) (Or.inl ⟨by rfl, ?_⟩) (by assumption) ?_; rotate_left; (focus (intro w1 hSw; (try dsimp only at hSw); go_simp; (try with_reducible rfl))); (try simp only [Act.put, List.setIfInBounds_toArray, List.set_cons_zero, List.set_cons_succ, List.getElem_toArray, List.getElem_cons_zero, List.getElem_cons_succ])
  refine wpAnyH_take (i := 1) (v := ?_) (by simp only [List.getElem?_toArray, List.getElem?_cons_zero, List.getElem?_cons_succ]; rfl) (by kernel_rfl) (by kernel_rfl) (by kernel_rfl) (by intro _ _ _ h; exact h) (Or.inl ⟨by rfl, ?_⟩) (by assumption) ?_; rotate_left; (focus (intro w1 hSw; (try dsimp only at hSw); go_simp; (try with_reducible rfl))); (try simp only [Act.put, List.setIfInBounds_toArray, List.set_cons_zero, List.set_cons_succ, List.getElem_toArray, List.getElem_cons_zero, List.getElem_cons_succ])
  refine wpAnyH_take (i := 2) (v := ?_) (by simp only [List.getElem?_toArray, List.getElem?_cons_zero, List.getElem?_cons_succ]; rfl) (by kernel_rfl) (by kernel_rfl) (by kernel_rfl) (by intro _ _ _ h; exact h) (Or.inl ⟨by rfl, ?_⟩) (by assumption) ?_; rotate_left; (focus (intro w1 hSw; (try dsimp only at hSw); go_simp; (try with_reducible rfl))); (try simp only [Act.put, List.setIfInBounds_toArray, List.set_cons_zero, List.set_cons_succ, List.getElem_toArray, List.getElem_cons_zero, List.getElem_cons_succ])
  refine wpAnyH_take (i := 3) (v := ?_) (by simp only [List.getElem?_toArray, List.getElem?_cons_zero, List.getElem?_cons_succ]; rfl) (by kernel_rfl) (by kernel_rfl) (by kernel_rfl) (by intro _ _ _ h; exact h) (Or.inl ⟨by rfl, ?_⟩) (by assumption) ?_; rotate_left; (focus (intro w1 hSw; (try dsimp only at hSw); go_simp; (try with_reducible rfl))); (try simp only [Act.put, List.setIfInBounds_toArray, List.set_cons_zero, List.set_cons_succ, List.getElem_toArray, List.getElem_cons_zero, List.getElem_cons_succ])
  refine wpAnyH_take (i := 5) (v := ?_) (by simp only [List.getElem?_toArray, List.getElem?_cons_zero, List.getElem?_cons_succ]; rfl) (by kernel_rfl) (by kernel_rfl) (by kernel_rfl) (by intro _ _ _ h; exact h) (Or.inl ⟨by rfl, ?_⟩) (by assumption) ?_; rotate_left; (focus (intro w1 hSw; (try dsimp only at hSw); go_simp; (try with_reducible rfl))); (try simp only [Act.put, List.setIfInBounds_toArray, List.set_cons_zero, List.set_cons_succ, List.getElem_toArray, List.getElem_cons_zero, List.getElem_cons_succ])
  refine wpAnyH_take (i := 6) (v := ?_) (by simp only [List.getElem?_toArray, List.getElem?_cons_zero, List.getElem?_cons_succ]; rfl) (by kernel_rfl) (by kernel_rfl) (by kernel_rfl) (by intro _ _ _ h; exact h) (Or.inl ⟨by rfl, ?_⟩) (by assumption) ?_; rotate_left; (focus (intro w1 hSw; (try dsimp only at hSw); go_simp; (try with_reducible rfl))); (try simp only [Act.put, List.setIfInBounds_toArray, List.set_cons_zero, List.set_cons_succ, List.getElem_toArray, List.getElem_cons_zero, List.getElem_cons_succ])
  refine wpAnyH_take (i := 7) (v := ?_) (by simp only [List.getElem?_toArray, List.getElem?_cons_zero, List.getElem?_cons_succ]; rfl) (by kernel_rfl) (by kernel_rfl) (by kernel_rfl) (by intro _ _ _ h; exact h) (Or.inl ⟨by rfl, ?_⟩) (by assumption) ?_; rotate_left; (focus (intro w1 hSw; (try dsimp only at hSw); go_simp; (try with_reducible rfl))); (try simp only [Act.put, List.setIfInBounds_toArray, List.set_cons_zero, List.set_cons_succ, List.getElem_toArray, List.getElem_cons_zero, List.getElem_cons_succ])
  refine wpAnyH_take (i := 8) (v := ?_) (by simp only [List.getElem?_toArray, List.getElem?_cons_zero, List.getElem?_cons_succ]; rfl) (by kernel_rfl) (by kernel_rfl) (by kernel_rfl) (by intro _ _ _ h; exact h) (Or.inl ⟨by rfl, ?_⟩) (by assumption) ?_; rotate_left; (focus (intro w1 hSw; (try dsimp only at hSw); go_simp; (try with_reducible rfl))); (try simp only [Act.put, List.setIfInBounds_toArray, List.set_cons_zero, List.set_cons_succ, List.getElem_toArray, List.getElem_cons_zero, List.getElem_cons_succ])
  refine wpAnyH_ready (rs := [4]) (by kernel_rfl) (by simp) ?_; refine AllReadyH.cons (by simp only [List.getElem?_toArray, List.getElem?_cons_zero, List.getElem?_cons_succ]; rfl) (fun K hK => ?_) AllReadyH.nil; rw [if_pos (by rfl)]; go_wp2_with fail; refine (cmpInt_any _ _ _).mono ?_; rintro e wn ⟨rfl, rfl⟩; go_wp2_with fail; refine hK.out _ _ ?_ (fun hHeld => ?_); (focus exact hSS); clear hK K; (try simp only [Act.put, List.setIfInBounds_toArray, List.set_cons_zero, List.set_cons_succ, List.getElem_toArray, List.getElem_cons_zero, List.getElem_cons_succ])
  refine wpAnyH_ready (rs := [9]) (by kernel_rfl) (by simp) ?_; refine AllReadyH.cons (by simp only [List.getElem?_toArray, List.getElem?_cons_zero, List.getElem?_cons_succ]; rfl) (fun K hK => ?_) AllReadyH.nil; rw [if_pos (by rfl)]; go_wp2_with fail; refine (scmp_any _ _ _).mono ?_; rintro e wn ⟨rfl, rfl⟩; go_wp2_with fail; refine hK.out _ _ ?_ (fun hHeld => ?_); (focus exact hSS); clear hK K; (try simp only [Act.put, List.setIfInBounds_toArray, List.set_cons_zero, List.set_cons_succ, List.getElem_toArray, List.getElem_cons_zero, List.getElem_cons_succ])
  (obtain ⟨Z, hZ⟩ : ∃ x, World.alloc wn (.cells #[.int .i64 (cmpI a5 b5), .int .i64 (cmpS a1 b1)] 3) = x := ⟨_, rfl⟩); have gZ : Gr w Z := (by rw [← hZ]; exact gW.trans (Gr.alloc _ _)); have hSS : (fun w' : World => w'.cell? ⟨w.heap.size, 0, none⟩ = some (.string a1) ∧ w'.cell? ⟨w.heap.size, 4, none⟩ = some (.int .i64 a5) ∧ w'.cell? ⟨Y1.heap.size, 0, none⟩ = some (.string b1) ∧ w'.cell? ⟨Y1.heap.size, 4, none⟩ = some (.int .i64 b5)) Z := (by have BA := HBA.out.alloc (.cells #[.int .i64 (cmpI a5 b5), .int .i64 (cmpS a1 b1)] 3); have BB := HBB.out.alloc (.cells #[.int .i64 (cmpI a5 b5), .int .i64 (cmpS a1 b1)] 3); rw [hZ] at BA BB; exact ⟨BA.cell 0 rfl, BA.cell 4 rfl, BB.cell 0 rfl, BB.cell 4 rfl⟩); have rdl : Rd encI 1 Z Z.heap.size (some ⟨wn.heap.size, 0, none⟩) [cmpI a5 b5, cmpS a1 b1] := (by rw [← hZ]; exact Rd.lit wn _ encI_ok rfl (by simp)); refine wpAnyH_ready (rs := [10]) (by kernel_rfl) (by simp) ?_; refine AllReadyH.cons (by simp only [List.getElem?_toArray, List.getElem?_cons_zero, List.getElem?_cons_succ]; rfl) (fun K hK => ?_) AllReadyH.nil; rw [if_pos (by rfl)]; go_wp2_with fail; refine hK.out _ _ ?_ (fun hHeld => ?_); (focus exact hSS); clear hK K hZ HBA HBB gW; (try simp only [Act.put, List.setIfInBounds_toArray, List.set_cons_zero, List.set_cons_succ, List.getElem_toArray, List.getElem_cons_zero, List.getElem_cons_succ]); refine wpAnyH_ready (rs := [11]) (by kernel_rfl) (by simp) ?_; refine AllReadyH.cons (by simp only [List.getElem?_toArray, List.getElem?_cons_zero, List.getElem?_cons_succ]; rfl) (fun K hK => ?_) AllReadyH.nil; rw [if_pos (by rfl)]; go_wp2_with fail; refine (or_any 2 rdl (by simp)).mono ?_; rintro e wn ⟨rfl, rfl⟩; go_wp2_with fail; refine hK.out _ _ ?_ (fun hHeld => ?_); (focus exact hSS); clear hK K; (try simp only [Act.put, List.setIfInBounds_toArray, List.set_cons_zero, List.set_cons_succ, List.getElem_toArray, List.getElem_cons_zero, List.getElem_cons_succ]); refine wpAnyH_take (i := 12) (v := ?_) (by simp only [List.getElem?_toArray, List.getElem?_cons_zero, List.getElem?_cons_succ]; rfl) (by kernel_rfl) (by kernel_rfl) (by kernel_rfl) (by intro _ _ _ h; exact h) (Or.inl ⟨by rfl, ?_⟩) (by assumption) ?_; rotate_left; (focus (intro w1 hSw; (try dsimp only at hSw); go_simp; (try with_reducible rfl))); (try simp only [Act.put, List.setIfInBounds_toArray, List.set_cons_zero, List.set_cons_succ, List.getElem_toArray, List.getElem_cons_zero, List.getElem_cons_succ]); refine wpAnyH_done (by kernel_rfl) ?_ _; go_wp2_with fail; go_ret; exact ⟨rfl, gZ⟩
end Go.Proofs.YtcpfiiapfggmpaaGreat
