/- Joined texts: PrcTot, PrcOrd. -/
import Derived.Test.YtcpfiiapfggmpaaGreatJSumAny
import Derived.Test.YtcpfiiapfggmpaaGreatJDetMath
import Derived.Test.YtcpfiiapfggmpaaGreatJDisPAll
/- price.Total and the reference's, walked. -/
set_option linter.unusedSimpArgs false
namespace Go.Proofs.YtcpfiiapfggmpaaGreat
open Go.RowKit Go.Lib

def ctL (cs : List CV) : List Int := cs.map CV.ct
theorem ctL_tk {cs : List CV} {k : Nat} {x : CV} (hx : cs[k]? = some x) : ctL (cs.take (k + 1)) = ctL (cs.take k) ++ [x.ct] := by unfold ctL; rw [take_snoc hx]; simp
set_option maxRecDepth 100000 in
set_option maxHeartbeats 4000000 in
theorem ptot_any {A : Option Addr} (c : Nat) {l : List Cg} {w : World} (h : Rd encCg 7 w w.heap.size A l) (hl : l.length ≤ 1000) :
    Calls Tryz.prog 33 #[.slice A l.length c] w fun e w' => e = .returned (.tuple #[.int .i64 (sumV (ctL (cvs l))), .int .i64 (sumE (ctL (cvs l)))]) ∧ Below w.heap.size w w' := by
  have HR := Lib.hid h
  clear h
  go_enter Tryz.func33, Tryz.ntmps33
  go_wp2_with fail
  go_loopw [4, 9] (fun o i wr => ∃ (k : Nat) (q : List Int) (A' : Option Addr) (c' : Nat), k ≤ l.length ∧ i = .int .i64 k ∧ o = .slice A' q.length c' ∧ Hid (q.length = k) ∧ Hid (q = ctL ((cvs l).take k)) ∧ Own 3 encI 1 wr w.heap.size A' c' q ∧ Below w.heap.size w wr) (fun _ i _ => l.length - (RowKit.intOf i).toNat)
  case atStart => exact ⟨0, [], none, 0, Nat.zero_le _, rfl, rfl, (by unfold Hid; simp), Lib.hid (by simp [ctL]), Own.nil _ _, Below.refl _ _⟩
  case round =>
    obtain ⟨k, q, A', c', hk, rfl, rfl, HQL, HQ, hown, bY⟩ := hrel
    by_cases hi : k < l.length
    · obtain ⟨b, off, x, rfl, hb, hx, d0, d1, d2, d3, d4, d5, d6⟩ := (HR.out.st bY).cg hi
      have HK := Lib.hid hi
      have HT := Lib.hid (ctL_tk (cvs_at hx))
      obtain ⟨⟨key, veh, sys, cls, tm, lns, cn⟩, lA, lc⟩ := x
      simp only at *
      obtain ⟨Y7, hY7⟩ : ∃ Y, wr.alloc (.cells #[.string key, .string veh, .string sys, .int .i64 cls, .int .i64 tm, .slice lA lns.length lc, .int .i64 cn] 66) = Y := ⟨_, rfl⟩
      have BX : Blk Y7 wr.heap.size #[.string key, .string veh, .string sys, .int .i64 cls, .int .i64 tm, .slice lA lns.length lc, .int .i64 cn] 66 := by rw [← hY7]; exact Blk.new wr _ _
      have b7 : Below wr.heap.size wr Y7 := by rw [← hY7]; exact (Below.refl _ wr).al _
      have hsz7 : w.heap.size ≤ wr.heap.size := bY.size
      have bY7 := bY.st b7
      have hown7 := hown.st b7
      have x6 := BX.cell 6 (v := .int .i64 cn) rfl
      have hql : q.length ≤ 1000 := by have := HQL.out; omega
      have R : Hid (q ++ [cn] = ctL ((cvs l).take (k + 1))) := Lib.hid (by rw [HT.out, ← HQ.out])
      clear hx hi hb hown b7 bY HT HQ
      go_wp2_with (at_builtin; refine wpList_app1b rfl (.tmp 13) (.tmp 16) tyI encI_ok rfl (cn : Int) rfl _ rfl (by simp) hown7 rfl (by first | rfl | simp) (by first | omega | (simp; omega)) (by first | omega | (simp; omega)) (by first | exact bY7.size | (have := bY7.size; omega)) ?_; intro A8 c8 w8 hown8 hb8 hs8 hf8; have hbel8 := bY7.trans hb8)
      clear hown7 hb8 hf8
      go_wp2_with fail
      go_roundw
      case rel => exact ⟨k + 1, q ++ [cn], A8, c8, HK.out, by go_num, by simp, Lib.hid (by have := HQL.out; simp; omega), R, hown8, hbel8⟩
      case measure => have := HK.out; simp [RowKit.intOf]; omega
    · obtain rfl : k = l.length := by omega
      have hq : q = ctL (cvs l) := by have := HQ.out; rwa [← cvs_len, List.take_length] at this
      subst hq
      have hql : (ctL (cvs l)).length ≤ 1024 := by have := HQL.out; omega
      have CS := Lib.hid (msumx_any c' (hown.rd encI_ok) hql)
      clear HQ hown
      go_wp2_with fail
      refine CS.out.mono ?_
      rintro e w3 ⟨rfl, hbn⟩
      have b3 := bY.st hbn
      go_wp2_with fail
      go_ret2
      exact ⟨rfl, b3⟩

end Go.Proofs.YtcpfiiapfggmpaaGreat
/- The order of charges, and price.Sort's comparison walked. -/
set_option linter.unusedSimpArgs false
set_option linter.unusedSimpArgs false
namespace Go.Proofs.YtcpfiiapfggmpaaGreat
open Go.RowKit Go.Lib Go.Sort

def cmpC (a b : CV) : Int := firstI [cmpI a.tm b.tm, cmpS a.key b.key]
theorem cmpC_pre : PreC cmpC := (cmpI_pre.on CV.tm).cons (pre_one (cmpS_pre.on CV.key))
def cmpCg (a b : Cg) : Int := cmpC a.c b.c
theorem cmpCg_pre : PreC cmpCg := cmpC_pre.on Cg.c
def ltC : CV → CV → Bool := ltOf cmpC
theorem swoC : SWO ltC := cmpC_pre.swo
theorem ltC_iff (x y : CV) : ltC x y = (decide (x.tm < y.tm) || decide (x.tm = y.tm) && sltB x.key y.key) := by
  show decide (cmpC x y < 0) = _
  rw [← cmp_slt]
  unfold cmpC firstI firstI
  by_cases h : x.tm < y.tm
  · have : cmpI x.tm y.tm = -1 := by unfold cmpI Lib.compareInt; rw [if_pos h]
    rw [this]; simp [h]
  · by_cases h2 : x.tm = y.tm
    · rw [h2]
      have : cmpI y.tm y.tm = 0 := by rw [cmpI_zero]
      rw [this]
      by_cases hc : Lib.compareBytes x.key.data.toList y.key.data.toList = 0 <;> simp [firstI, cmpS, hc]
    · have : cmpI x.tm y.tm = 1 := by unfold cmpI Lib.compareInt; rw [if_neg h, if_pos (by omega)]
      rw [this]; simp [h, h2]
/-- sorted as the program sorts -/
def SortC (l r : List CV) : Prop := StabOf ltC l r
theorem StabOf.sortC {o r : List Cg} (h : StabOf (ltOf cmpCg) o r) : SortC (cvs o) (cvs r) := h.map Cg.c (fun _ _ => rfl)
theorem StabOf.pw {β : Type} {lt : β → β → Bool} {l r : List β} (h : StabOf lt l r) : r.Pairwise (fun x y => lt y x = false) := by
  obtain ⟨t, _, hs, rfl⟩ := h
  rw [List.pairwise_map]
  exact hs.imp fun {a b} hab => ((lexB_no _ _).1 hab).1
theorem scmp_any (a b : ByteArray) (W : World) : Calls Tryz.prog 74 #[.string a, .string b] W fun e w' => e = .returned (.int .i64 (cmpS a b)) ∧ w' = W := Any.strings_Compare Tryz.lay_scmp_f74 a b W
set_option maxRecDepth 100000 in
set_option maxHeartbeats 8000000 in
theorem cgCmp_any (W : World) (x y : Cg) : Calls Tryz.prog 71 #[CgV x, CgV y] W fun e w' => e = .returned (.int .i64 (cmpCg x y)) ∧ Gr W w' := by
  obtain ⟨w, rfl⟩ : ∃ w, w = W := ⟨_, rfl⟩
  obtain ⟨⟨a1, a2, a3, a4, a5, as_, a7⟩, aA, ac⟩ := x
  obtain ⟨⟨b1, b2, b3, b4, b5, bs_, b7⟩, bA, bc⟩ := y
  simp only [CgV, CHV, cmpCg, cmpC]
  obtain ⟨Y1, hY1⟩ : ∃ Y, w.alloc (.cells #[.string a1, .string a2, .string a3, .int .i64 a4, .int .i64 a5, .slice aA as_.length ac, .int .i64 a7] 66) = Y := ⟨_, rfl⟩; obtain ⟨Y2, hY2⟩ : ∃ Y, Y1.alloc (.cells #[.string b1, .string b2, .string b3, .int .i64 b4, .int .i64 b5, .slice bA bs_.length bc, .int .i64 b7] 66) = Y := ⟨_, rfl⟩; have gY : Gr w Y2 := (by rw [← hY2, ← hY1]; exact (Gr.alloc _ _).trans (Gr.alloc _ _)); have BA : Blk Y2 w.heap.size #[.string a1, .string a2, .string a3, .int .i64 a4, .int .i64 a5, .slice aA as_.length ac, .int .i64 a7] 66 := (by rw [← hY2, ← hY1]; exact (Blk.new w _ _).alloc _); have BB : Blk Y2 Y1.heap.size #[.string b1, .string b2, .string b3, .int .i64 b4, .int .i64 b5, .slice bA bs_.length bc, .int .i64 b7] 66 := (by rw [← hY2]; exact Blk.new Y1 _ _)
  have HSS : Hid ((fun w' : World => w'.cell? ⟨w.heap.size, 0, none⟩ = some (.string a1) ∧ w'.cell? ⟨w.heap.size, 4, none⟩ = some (.int .i64 a5) ∧ w'.cell? ⟨Y1.heap.size, 0, none⟩ = some (.string b1) ∧ w'.cell? ⟨Y1.heap.size, 4, none⟩ = some (.int .i64 b5)) Y2) := Lib.hid ⟨BA.cell 0 rfl, BA.cell 4 rfl, BB.cell 0 rfl, BB.cell 4 rfl⟩; have HBA := Lib.hid BA; have HBB := Lib.hid BB; clear BA BB; go_enter Tryz.func71, Tryz.ntmps71; go_wp2_with fail; refine wp_region_held_drew (S := (fun w' : World => w'.cell? ⟨w.heap.size, 0, none⟩ = some (.string a1) ∧ w'.cell? ⟨w.heap.size, 4, none⟩ = some (.int .i64 a5) ∧ w'.cell? ⟨Y1.heap.size, 0, none⟩ = some (.string b1) ∧ w'.cell? ⟨Y1.heap.size, 4, none⟩ = some (.int .i64 b5))) (by kernel_rfl) ?_ (fun hHeld => ?_); (focus exact HSS.out); have hSS : (fun w' : World => w'.cell? ⟨w.heap.size, 0, none⟩ = some (.string a1) ∧ w'.cell? ⟨w.heap.size, 4, none⟩ = some (.int .i64 a5) ∧ w'.cell? ⟨Y1.heap.size, 0, none⟩ = some (.string b1) ∧ w'.cell? ⟨Y1.heap.size, 4, none⟩ = some (.int .i64 b5)) Y2.drew := HSS.out; have gW : Gr w Y2.drew := gY.drew; have HBA := Lib.hid HBA.out.drew; have HBB := Lib.hid HBB.out.drew; clear HSS hY1 hY2 gY; generalize Y2.drew = W0 at hSS gW hHeld HBA HBB ⊢; change wpAnyH _ _ _ _ _ 13 _ _ _
  refine wpAnyH_take (i := 0) (v := ?_) (by simp only [List.getElem?_toArray, List.getElem?_cons_zero, List.getElem?_cons_succ]; rfl) (by kernel_rfl) (by kernel_rfl) (by kernel_rfl) (by intro _ _ _ h; exact h) (Or.inl ⟨by rfl, ?_⟩) (by assumption) ?_; rotate_left; (focus (intro w1 hSw; (try dsimp only at hSw); go_simp; (try with_reducible rfl))); (try simp only [Act.put, List.setIfInBounds_toArray, List.set_cons_zero, List.set_cons_succ, List.getElem_toArray, List.getElem_cons_zero, List.getElem_cons_succ])
  refine wpAnyH_take (i := 1) (v := ?_) (by simp only [List.getElem?_toArray, List.getElem?_cons_zero, List.getElem?_cons_succ]; rfl) (by kernel_rfl) (by kernel_rfl) (by kernel_rfl) (by intro _ _ _ h; exact h) (Or.inl ⟨by rfl, ?_⟩) (by assumption) ?_; rotate_left; (focus (intro w1 hSw; (try dsimp only at hSw); go_simp; (try with_reducible rfl))); (try simp only [Act.put, List.setIfInBounds_toArray, List.set_cons_zero, List.set_cons_succ, List.getElem_toArray, List.getElem_cons_zero, List.getElem_cons_succ])
  refine wpAnyH_take (i := 2) (v := ?_) (by simp only [List.getElem?_toArray, List.getElem?_cons_zero, List.getElem?_cons_succ]; rfl) (by kernel_rfl) (by kernel_rfl) (by kernel_rfl) (by intro _ _ _ h; exact h) (Or.inl ⟨by rfl, ?_⟩) (by assumption) ?_; rotate_left; (focus (intro w1 hSw; (try dsimp only at hSw); go_simp; (try with_reducible rfl))); (try simp only [Act.put, List.setIfInBounds_toArray, List.set_cons_zero, List.set_cons_succ, List.getElem_toArray, List.getElem_cons_zero, List.getElem_cons_succ])
  refine wpAnyH_take (i := 3) (v := ?_) (by simp only [List.getElem?_toArray, List.getElem?_cons_zero, List.getElem?_cons_succ]; rfl) (by kernel_rfl) (by kernel_rfl) (by kernel_rfl) (by intro _ _ _ h; exact h) (Or.inl ⟨by rfl, ?_⟩) (by assumption) ?_; rotate_left; (focus (intro w1 hSw; (try dsimp only at hSw); go_simp; (try with_reducible rfl))); (try simp only [Act.put, List.setIfInBounds_toArray, List.set_cons_zero, List.set_cons_succ, List.getElem_toArray, List.getElem_cons_zero, List.getElem_cons_succ])
  refine wpAnyH_take (i := 5) (v := ?_) (by simp only [List.getElem?_toArray, List.getElem?_cons_zero, List.getElem?_cons_succ]; rfl) (by kernel_rfl) (by kernel_rfl) (by kernel_rfl) (by intro _ _ _ h; exact h) (Or.inl ⟨by rfl, ?_⟩) (by assumption) ?_; rotate_left; (focus (intro w1 hSw; (try dsimp only at hSw); go_simp; (try with_reducible rfl))); (try simp only [Act.put, List.setIfInBounds_toArray, List.set_cons_zero, List.set_cons_succ, List.getElem_toArray, List.getElem_cons_zero, List.getElem_cons_succ])
  refine wpAnyH_take (i := 6) (v := ?_) (by simp only [List.getElem?_toArray, List.getElem?_cons_zero, List.getElem?_cons_succ]; rfl) (by kernel_rfl) (by kernel_rfl) (by kernel_rfl) (by intro _ _ _ h; exact h) (Or.inl ⟨by rfl, ?_⟩) (by assumption) ?_; rotate_left; (focus (intro w1 hSw; (try dsimp only at hSw); go_simp; (try with_reducible rfl))); (try simp only [Act.put, List.setIfInBounds_toArray, List.set_cons_zero, List.set_cons_succ, List.getElem_toArray, List.getElem_cons_zero, List.getElem_cons_succ])
  refine wpAnyH_take (i := 7) (v := ?_) (by simp only [List.getElem?_toArray, List.getElem?_cons_zero, List.getElem?_cons_succ]; rfl) (by kernel_rfl) (by kernel_rfl) (by kernel_rfl) (by intro _ _ _ h; exact h) (Or.inl ⟨by rfl, ?_⟩) (by assumption) ?_; rotate_left; (focus (intro w1 hSw; (try dsimp only at hSw); go_simp; (try with_reducible rfl))); (try simp only [Act.put, List.setIfInBounds_toArray, List.set_cons_zero, List.set_cons_succ, List.getElem_toArray, List.getElem_cons_zero, List.getElem_cons_succ])
  refine wpAnyH_take (i := 8) (v := ?_) (by simp only [List.getElem?_toArray, List.getElem?_cons_zero, List.getElem?_cons_succ]; rfl) (by kernel_rfl) (by kernel_rfl) (by kernel_rfl) (by intro _ _ _ h; exact h) (Or.inl ⟨by rfl, ?_⟩) (by assumption) ?_; rotate_left; (focus (intro w1 hSw; (try dsimp only at hSw); go_simp; (try with_reducible rfl))); (try simp only [Act.put, List.setIfInBounds_toArray, List.set_cons_zero, List.set_cons_succ, List.getElem_toArray, List.getElem_cons_zero, List.getElem_cons_succ])
  refine wpAnyH_ready (rs := [4]) (by kernel_rfl) (by simp) ?_; refine AllReadyH.cons (by simp only [List.getElem?_toArray, List.getElem?_cons_zero, List.getElem?_cons_succ]; rfl) (fun K hK => ?_) AllReadyH.nil; rw [if_pos (by rfl)]; go_wp2_with fail; refine (cmpInt_any _ _ _).mono ?_; rintro e wn ⟨rfl, rfl⟩; go_wp2_with fail; refine hK.out _ _ ?_ (fun hHeld => ?_); (focus exact hSS); clear hK K; (try simp only [Act.put, List.setIfInBounds_toArray, List.set_cons_zero, List.set_cons_succ, List.getElem_toArray, List.getElem_cons_zero, List.getElem_cons_succ])
  refine wpAnyH_ready (rs := [9]) (by kernel_rfl) (by simp) ?_; refine AllReadyH.cons (by simp only [List.getElem?_toArray, List.getElem?_cons_zero, List.getElem?_cons_succ]; rfl) (fun K hK => ?_) AllReadyH.nil; rw [if_pos (by rfl)]; go_wp2_with fail; refine (scmp_any _ _ _).mono ?_; rintro e wn ⟨rfl, rfl⟩; go_wp2_with fail; refine hK.out _ _ ?_ (fun hHeld => ?_); (focus exact hSS); clear hK K; (try simp only [Act.put, List.setIfInBounds_toArray, List.set_cons_zero, List.set_cons_succ, List.getElem_toArray, List.getElem_cons_zero, List.getElem_cons_succ])
  (obtain ⟨Z, hZ⟩ : ∃ x, World.alloc wn (.cells #[.int .i64 (cmpI a5 b5), .int .i64 (cmpS a1 b1)] 3) = x := ⟨_, rfl⟩); have gZ : Gr w Z := (by rw [← hZ]; exact gW.trans (Gr.alloc _ _)); have hSS : (fun w' : World => w'.cell? ⟨w.heap.size, 0, none⟩ = some (.string a1) ∧ w'.cell? ⟨w.heap.size, 4, none⟩ = some (.int .i64 a5) ∧ w'.cell? ⟨Y1.heap.size, 0, none⟩ = some (.string b1) ∧ w'.cell? ⟨Y1.heap.size, 4, none⟩ = some (.int .i64 b5)) Z := (by have BA := HBA.out.alloc (.cells #[.int .i64 (cmpI a5 b5), .int .i64 (cmpS a1 b1)] 3); have BB := HBB.out.alloc (.cells #[.int .i64 (cmpI a5 b5), .int .i64 (cmpS a1 b1)] 3); rw [hZ] at BA BB; exact ⟨BA.cell 0 rfl, BA.cell 4 rfl, BB.cell 0 rfl, BB.cell 4 rfl⟩); have rdl : Rd encI 1 Z Z.heap.size (some ⟨wn.heap.size, 0, none⟩) [cmpI a5 b5, cmpS a1 b1] := (by rw [← hZ]; exact Rd.lit wn _ encI_ok rfl (by simp)); refine wpAnyH_ready (rs := [10]) (by kernel_rfl) (by simp) ?_; refine AllReadyH.cons (by simp only [List.getElem?_toArray, List.getElem?_cons_zero, List.getElem?_cons_succ]; rfl) (fun K hK => ?_) AllReadyH.nil; rw [if_pos (by rfl)]; go_wp2_with fail; refine hK.out _ _ ?_ (fun hHeld => ?_); (focus exact hSS); clear hK K hZ HBA HBB gW; (try simp only [Act.put, List.setIfInBounds_toArray, List.set_cons_zero, List.set_cons_succ, List.getElem_toArray, List.getElem_cons_zero, List.getElem_cons_succ]); refine wpAnyH_ready (rs := [11]) (by kernel_rfl) (by simp) ?_; refine AllReadyH.cons (by simp only [List.getElem?_toArray, List.getElem?_cons_zero, List.getElem?_cons_succ]; rfl) (fun K hK => ?_) AllReadyH.nil; rw [if_pos (by rfl)]; go_wp2_with fail; refine (or_any 2 rdl (by simp)).mono ?_; rintro e wn ⟨rfl, rfl⟩; go_wp2_with fail; refine hK.out _ _ ?_ (fun hHeld => ?_); (focus exact hSS); clear hK K; (try simp only [Act.put, List.setIfInBounds_toArray, List.set_cons_zero, List.set_cons_succ, List.getElem_toArray, List.getElem_cons_zero, List.getElem_cons_succ]); refine wpAnyH_take (i := 12) (v := ?_) (by simp only [List.getElem?_toArray, List.getElem?_cons_zero, List.getElem?_cons_succ]; rfl) (by kernel_rfl) (by kernel_rfl) (by kernel_rfl) (by intro _ _ _ h; exact h) (Or.inl ⟨by rfl, ?_⟩) (by assumption) ?_; rotate_left; (focus (intro w1 hSw; (try dsimp only at hSw); go_simp; (try with_reducible rfl))); (try simp only [Act.put, List.setIfInBounds_toArray, List.set_cons_zero, List.set_cons_succ, List.getElem_toArray, List.getElem_cons_zero, List.getElem_cons_succ]); refine wpAnyH_done (by kernel_rfl) ?_ _; go_wp2_with fail; go_ret; exact ⟨rfl, gZ⟩
end Go.Proofs.YtcpfiiapfggmpaaGreat
