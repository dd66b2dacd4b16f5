/- The reference's SameCharges at equal lists, walked. -/
import Derived.Test.YtlnnbkpcnhlfcaaDoorJCapRMath
import Derived.Test.YtlnnbkpcnhlfcaaDoorJMSortSm
set_option linter.unusedSimpArgs false
set_option linter.unusedSimpArgs false
namespace Go.Proofs.YtlnnbkpcnhlfcaaDoor
open Go.RowKit Go.Lib

set_option maxRecDepth 100000 in
set_option maxHeartbeats 2000000 in
theorem sames_true {A A2 : Option Addr} (c c2 : Nat) {l m : List Cg} {w : World} (h1 : Rd encCg 7 w w.heap.size A l) (h2 : Rd encCg 7 w w.heap.size A2 m) (r1 : CgRs w l) (r2 : CgRs w m) (he : cvs l = cvs m) (hl : l.length ≤ 1000000) :
    Calls Tryd.prog 21 #[.slice A l.length c, .slice A2 m.length c2] w fun e w' => e = .returned (.bool true) ∧ Below w.heap.size w w' := by
  have hml : m.length = l.length := by rw [← cvs_len m, ← he, cvs_len]
  have H1 := Lib.hid h1
  have H2 := Lib.hid h2
  have R1 := Lib.hid r1
  have R2 := Lib.hid r2
  have HE := Lib.hid he
  have HML := Lib.hid hml
  rw [hml]
  clear h1 h2 r1 r2 he hml
  go_enter Tryd.func21, Tryd.ntmps21
  go_wp2_with fail
  go_loopw [5] (fun i wr => ∃ k : Nat, k ≤ l.length ∧ i = .int .i64 k ∧ Below w.heap.size w wr) (fun i _ => l.length - (RowKit.intOf i).toNat)
  case atStart => exact ⟨0, Nat.zero_le _, rfl, Below.refl _ _⟩
  case round =>
    obtain ⟨k, hk, rfl, bW⟩ := hrel
    by_cases hi : k < l.length
    · obtain ⟨b1, o1, x, rfl, hb1, hx, d0, d1, d2, d3, d4, d5, d6⟩ := (H1.out.st bW).cg hi
      obtain ⟨b2, o2, y, rfl, hb2, hy, e0, e1, e2, e3, e4, e5, e6⟩ := (H2.out.st bW).cg (i := k) (by rw [HML.out]; exact hi)
      have hxy : y.c = x.c := by
        have q1 := cvs_at hx
        have q2 := cvs_at hy
        rw [← HE.out, q1] at q2
        exact (Option.some.inj q2).symm
      have HX := Lib.hid (R1.out.st bW x (List.mem_of_getElem? hx))
      have HY := Lib.hid (R2.out.st bW y (List.mem_of_getElem? hy))
      have CC := Lib.hid (fun (X : World) (hX : Below wr.heap.size wr X) => sameC_true x.c x.lc y.lc (HX.out.1.st hX) (by rw [← hxy]; exact HY.out.1.st hX) (by have := HX.out.2; omega))
      have HK := Lib.hid hi
      have k1 : (0 : Int) ≤ (k : Int) := by omega
      have k2 : (k : Int) < (l.length : Int) := by omega
      have HBW := Lib.hid bW
      obtain ⟨⟨key, veh, sys, cls, tm, lns, cn⟩, lA, lc⟩ := x
      obtain ⟨yc, mA, mc⟩ := y
      simp only at hxy
      subst hxy
      simp only [CHV] at *
      have HSS : Hid ((fun w' : World => w'.cell? ⟨b1, o1 + k * 7, none⟩ = some (.string key) ∧ w'.cell? ⟨b1, o1 + k * 7 + 1, none⟩ = some (.string veh) ∧ w'.cell? ⟨b1, o1 + k * 7 + 2, none⟩ = some (.string sys) ∧ w'.cell? ⟨b1, o1 + k * 7 + 3, none⟩ = some (.int .i64 cls) ∧ w'.cell? ⟨b1, o1 + k * 7 + 4, none⟩ = some (.int .i64 tm) ∧ w'.cell? ⟨b1, o1 + k * 7 + 5, none⟩ = some (.slice lA lns.length lc) ∧ w'.cell? ⟨b1, o1 + k * 7 + 6, none⟩ = some (.int .i64 cn) ∧ w'.cell? ⟨b2, o2 + k * 7, none⟩ = some (.string key) ∧ w'.cell? ⟨b2, o2 + k * 7 + 1, none⟩ = some (.string veh) ∧ w'.cell? ⟨b2, o2 + k * 7 + 2, none⟩ = some (.string sys) ∧ w'.cell? ⟨b2, o2 + k * 7 + 3, none⟩ = some (.int .i64 cls) ∧ w'.cell? ⟨b2, o2 + k * 7 + 4, none⟩ = some (.int .i64 tm) ∧ w'.cell? ⟨b2, o2 + k * 7 + 5, none⟩ = some (.slice mA lns.length mc) ∧ w'.cell? ⟨b2, o2 + k * 7 + 6, none⟩ = some (.int .i64 cn)) wr) := Lib.hid ⟨d0, d1, d2, d3, d4, d5, d6, e0, e1, e2, e3, e4, e5, e6⟩
      have HKP := Lib.hid (fun (X : World) (hX : Below wr.heap.size wr X) => show (fun w' : World => w'.cell? ⟨b1, o1 + k * 7, none⟩ = some (.string key) ∧ w'.cell? ⟨b1, o1 + k * 7 + 1, none⟩ = some (.string veh) ∧ w'.cell? ⟨b1, o1 + k * 7 + 2, none⟩ = some (.string sys) ∧ w'.cell? ⟨b1, o1 + k * 7 + 3, none⟩ = some (.int .i64 cls) ∧ w'.cell? ⟨b1, o1 + k * 7 + 4, none⟩ = some (.int .i64 tm) ∧ w'.cell? ⟨b1, o1 + k * 7 + 5, none⟩ = some (.slice lA lns.length lc) ∧ w'.cell? ⟨b1, o1 + k * 7 + 6, none⟩ = some (.int .i64 cn) ∧ w'.cell? ⟨b2, o2 + k * 7, none⟩ = some (.string key) ∧ w'.cell? ⟨b2, o2 + k * 7 + 1, none⟩ = some (.string veh) ∧ w'.cell? ⟨b2, o2 + k * 7 + 2, none⟩ = some (.string sys) ∧ w'.cell? ⟨b2, o2 + k * 7 + 3, none⟩ = some (.int .i64 cls) ∧ w'.cell? ⟨b2, o2 + k * 7 + 4, none⟩ = some (.int .i64 tm) ∧ w'.cell? ⟨b2, o2 + k * 7 + 5, none⟩ = some (.slice mA lns.length mc) ∧ w'.cell? ⟨b2, o2 + k * 7 + 6, none⟩ = some (.int .i64 cn)) X from ⟨(hX.cell (p := ⟨b1, o1 + k * 7, none⟩) hb1).trans d0, (hX.cell (p := ⟨b1, o1 + k * 7 + 1, none⟩) hb1).trans d1, (hX.cell (p := ⟨b1, o1 + k * 7 + 2, none⟩) hb1).trans d2, (hX.cell (p := ⟨b1, o1 + k * 7 + 3, none⟩) hb1).trans d3, (hX.cell (p := ⟨b1, o1 + k * 7 + 4, none⟩) hb1).trans d4, (hX.cell (p := ⟨b1, o1 + k * 7 + 5, none⟩) hb1).trans d5, (hX.cell (p := ⟨b1, o1 + k * 7 + 6, none⟩) hb1).trans d6, (hX.cell (p := ⟨b2, o2 + k * 7, none⟩) hb2).trans e0, (hX.cell (p := ⟨b2, o2 + k * 7 + 1, none⟩) hb2).trans e1, (hX.cell (p := ⟨b2, o2 + k * 7 + 2, none⟩) hb2).trans e2, (hX.cell (p := ⟨b2, o2 + k * 7 + 3, none⟩) hb2).trans e3, (hX.cell (p := ⟨b2, o2 + k * 7 + 4, none⟩) hb2).trans e4, (hX.cell (p := ⟨b2, o2 + k * 7 + 5, none⟩) hb2).trans e5, (hX.cell (p := ⟨b2, o2 + k * 7 + 6, none⟩) hb2).trans e6⟩)
      clear hx hy hi d0 d1 d2 d3 d4 d5 d6 e0 e1 e2 e3 e4 e5 e6 bW hb1 hb2
      go_wp2_with fail
      refine wp_region_held_drew (S := (fun w' : World => w'.cell? ⟨b1, o1 + k * 7, none⟩ = some (.string key) ∧ w'.cell? ⟨b1, o1 + k * 7 + 1, none⟩ = some (.string veh) ∧ w'.cell? ⟨b1, o1 + k * 7 + 2, none⟩ = some (.string sys) ∧ w'.cell? ⟨b1, o1 + k * 7 + 3, none⟩ = some (.int .i64 cls) ∧ w'.cell? ⟨b1, o1 + k * 7 + 4, none⟩ = some (.int .i64 tm) ∧ w'.cell? ⟨b1, o1 + k * 7 + 5, none⟩ = some (.slice lA lns.length lc) ∧ w'.cell? ⟨b1, o1 + k * 7 + 6, none⟩ = some (.int .i64 cn) ∧ w'.cell? ⟨b2, o2 + k * 7, none⟩ = some (.string key) ∧ w'.cell? ⟨b2, o2 + k * 7 + 1, none⟩ = some (.string veh) ∧ w'.cell? ⟨b2, o2 + k * 7 + 2, none⟩ = some (.string sys) ∧ w'.cell? ⟨b2, o2 + k * 7 + 3, none⟩ = some (.int .i64 cls) ∧ w'.cell? ⟨b2, o2 + k * 7 + 4, none⟩ = some (.int .i64 tm) ∧ w'.cell? ⟨b2, o2 + k * 7 + 5, none⟩ = some (.slice mA lns.length mc) ∧ w'.cell? ⟨b2, o2 + k * 7 + 6, none⟩ = some (.int .i64 cn))) (by kernel_rfl) ?_ (fun hHeld => ?_)
      · exact HSS.out
      have hSS : (fun w' : World => w'.cell? ⟨b1, o1 + k * 7, none⟩ = some (.string key) ∧ w'.cell? ⟨b1, o1 + k * 7 + 1, none⟩ = some (.string veh) ∧ w'.cell? ⟨b1, o1 + k * 7 + 2, none⟩ = some (.string sys) ∧ w'.cell? ⟨b1, o1 + k * 7 + 3, none⟩ = some (.int .i64 cls) ∧ w'.cell? ⟨b1, o1 + k * 7 + 4, none⟩ = some (.int .i64 tm) ∧ w'.cell? ⟨b1, o1 + k * 7 + 5, none⟩ = some (.slice lA lns.length lc) ∧ w'.cell? ⟨b1, o1 + k * 7 + 6, none⟩ = some (.int .i64 cn) ∧ w'.cell? ⟨b2, o2 + k * 7, none⟩ = some (.string key) ∧ w'.cell? ⟨b2, o2 + k * 7 + 1, none⟩ = some (.string veh) ∧ w'.cell? ⟨b2, o2 + k * 7 + 2, none⟩ = some (.string sys) ∧ w'.cell? ⟨b2, o2 + k * 7 + 3, none⟩ = some (.int .i64 cls) ∧ w'.cell? ⟨b2, o2 + k * 7 + 4, none⟩ = some (.int .i64 tm) ∧ w'.cell? ⟨b2, o2 + k * 7 + 5, none⟩ = some (.slice mA lns.length mc) ∧ w'.cell? ⟨b2, o2 + k * 7 + 6, none⟩ = some (.int .i64 cn)) wr.drew := HSS.out
      have HBr : Hid (Below wr.heap.size wr wr.drew) := Lib.hid (below_drewN (Below.refl _ wr) 1)
      generalize wr.drew = W0 at hSS hHeld HBr ⊢
      change wpAnyH _ _ _ _ _ 10 _ _ _
      refine wpAnyH_take (i := 0) (v := ?_) (by simp only [List.getElem?_toArray, List.getElem?_cons_zero, List.getElem?_cons_succ]; rfl) (by kernel_rfl) (by kernel_rfl) (by kernel_rfl) (by intro _ _ _ h; exact h) (Or.inl ⟨by rfl, ?_⟩) (by assumption) ?_; rotate_left; (focus (intro w1 hSw; (try dsimp only at hSw); go_simp; (try with_reducible rfl))); (try simp only [Act.put, List.setIfInBounds_toArray, List.set_cons_zero, List.set_cons_succ, List.getElem_toArray, List.getElem_cons_zero, List.getElem_cons_succ])
      refine wpAnyH_take (i := 1) (v := ?_) (by simp only [List.getElem?_toArray, List.getElem?_cons_zero, List.getElem?_cons_succ]; rfl) (by kernel_rfl) (by kernel_rfl) (by kernel_rfl) (by intro _ _ _ h; exact h) (Or.inl ⟨by rfl, ?_⟩) (by assumption) ?_; rotate_left; (focus (intro w1 hSw; (try dsimp only at hSw); go_simp; (try with_reducible rfl))); (try simp only [Act.put, List.setIfInBounds_toArray, List.set_cons_zero, List.set_cons_succ, List.getElem_toArray, List.getElem_cons_zero, List.getElem_cons_succ])
      refine wpAnyH_take (i := 2) (v := ?_) (by simp only [List.getElem?_toArray, List.getElem?_cons_zero, List.getElem?_cons_succ]; rfl) (by kernel_rfl) (by kernel_rfl) (by kernel_rfl) (by intro _ _ _ h; exact h) (Or.inl ⟨by rfl, ?_⟩) (by assumption) ?_; rotate_left; (focus (intro w1 hSw; (try dsimp only at hSw); go_simp; (try with_reducible rfl))); (try simp only [Act.put, List.setIfInBounds_toArray, List.set_cons_zero, List.set_cons_succ, List.getElem_toArray, List.getElem_cons_zero, List.getElem_cons_succ])
      refine wpAnyH_take (i := 3) (v := ?_) (by simp only [List.getElem?_toArray, List.getElem?_cons_zero, List.getElem?_cons_succ]; rfl) (by kernel_rfl) (by kernel_rfl) (by kernel_rfl) (by intro _ _ _ h; exact h) (Or.inl ⟨by rfl, ?_⟩) (by assumption) ?_; rotate_left; (focus (intro w1 hSw; (try dsimp only at hSw); go_simp; (try with_reducible rfl))); (try simp only [Act.put, List.setIfInBounds_toArray, List.set_cons_zero, List.set_cons_succ, List.getElem_toArray, List.getElem_cons_zero, List.getElem_cons_succ])
      refine wpAnyH_take (i := 4) (v := ?_) (by simp only [List.getElem?_toArray, List.getElem?_cons_zero, List.getElem?_cons_succ]; rfl) (by kernel_rfl) (by kernel_rfl) (by kernel_rfl) (by intro _ _ _ h; exact h) (Or.inl ⟨by rfl, ?_⟩) (by assumption) ?_; rotate_left; (focus (intro w1 hSw; (try dsimp only at hSw); go_simp; (try with_reducible rfl))); (try simp only [Act.put, List.setIfInBounds_toArray, List.set_cons_zero, List.set_cons_succ, List.getElem_toArray, List.getElem_cons_zero, List.getElem_cons_succ])
      refine wpAnyH_take (i := 5) (v := ?_) (by simp only [List.getElem?_toArray, List.getElem?_cons_zero, List.getElem?_cons_succ]; rfl) (by kernel_rfl) (by kernel_rfl) (by kernel_rfl) (by intro _ _ _ h; exact h) (Or.inl ⟨by rfl, ?_⟩) (by assumption) ?_; rotate_left; (focus (intro w1 hSw; (try dsimp only at hSw); go_simp; (try with_reducible rfl))); (try simp only [Act.put, List.setIfInBounds_toArray, List.set_cons_zero, List.set_cons_succ, List.getElem_toArray, List.getElem_cons_zero, List.getElem_cons_succ])
      refine wpAnyH_take (i := 6) (v := ?_) (by simp only [List.getElem?_toArray, List.getElem?_cons_zero, List.getElem?_cons_succ]; rfl) (by kernel_rfl) (by kernel_rfl) (by kernel_rfl) (by intro _ _ _ h; exact h) (Or.inl ⟨by rfl, ?_⟩) (by assumption) ?_; rotate_left; (focus (intro w1 hSw; (try dsimp only at hSw); go_simp; (try with_reducible rfl))); (try simp only [Act.put, List.setIfInBounds_toArray, List.set_cons_zero, List.set_cons_succ, List.getElem_toArray, List.getElem_cons_zero, List.getElem_cons_succ])
      refine wpAnyH_take (i := 7) (v := ?_) (by simp only [List.getElem?_toArray, List.getElem?_cons_zero, List.getElem?_cons_succ]; rfl) (by kernel_rfl) (by kernel_rfl) (by kernel_rfl) (by intro _ _ _ h; exact h) (Or.inl ⟨by rfl, ?_⟩) (by assumption) ?_; rotate_left; (focus (intro w1 hSw; (try dsimp only at hSw); go_simp; (try with_reducible rfl))); (try simp only [Act.put, List.setIfInBounds_toArray, List.set_cons_zero, List.set_cons_succ, List.getElem_toArray, List.getElem_cons_zero, List.getElem_cons_succ])
      refine wpAnyH_ready (rs := [8]) (by kernel_rfl) (by simp) ?_; refine AllReadyH.cons (by simp only [List.getElem?_toArray, List.getElem?_cons_zero, List.getElem?_cons_succ]; rfl) (fun K hK => ?_) AllReadyH.nil
      rw [if_pos (by rfl)]; go_wp2_with fail
      refine (CC.out _ HBr.out).mono ?_
      rintro e wn ⟨rfl, hbn⟩
      have HBn := Lib.hid (HBr.out.st hbn)
      have hSS : (fun w' : World => w'.cell? ⟨b1, o1 + k * 7, none⟩ = some (.string key) ∧ w'.cell? ⟨b1, o1 + k * 7 + 1, none⟩ = some (.string veh) ∧ w'.cell? ⟨b1, o1 + k * 7 + 2, none⟩ = some (.string sys) ∧ w'.cell? ⟨b1, o1 + k * 7 + 3, none⟩ = some (.int .i64 cls) ∧ w'.cell? ⟨b1, o1 + k * 7 + 4, none⟩ = some (.int .i64 tm) ∧ w'.cell? ⟨b1, o1 + k * 7 + 5, none⟩ = some (.slice lA lns.length lc) ∧ w'.cell? ⟨b1, o1 + k * 7 + 6, none⟩ = some (.int .i64 cn) ∧ w'.cell? ⟨b2, o2 + k * 7, none⟩ = some (.string key) ∧ w'.cell? ⟨b2, o2 + k * 7 + 1, none⟩ = some (.string veh) ∧ w'.cell? ⟨b2, o2 + k * 7 + 2, none⟩ = some (.string sys) ∧ w'.cell? ⟨b2, o2 + k * 7 + 3, none⟩ = some (.int .i64 cls) ∧ w'.cell? ⟨b2, o2 + k * 7 + 4, none⟩ = some (.int .i64 tm) ∧ w'.cell? ⟨b2, o2 + k * 7 + 5, none⟩ = some (.slice mA lns.length mc) ∧ w'.cell? ⟨b2, o2 + k * 7 + 6, none⟩ = some (.int .i64 cn)) wn := HKP.out wn HBn.out
      clear hbn
      go_wp2_with fail
      refine hK.out _ _ ?_ (fun hHeld => ?_)
      · exact hSS
      clear hK K
      (try simp only [Act.put, List.setIfInBounds_toArray, List.set_cons_zero, List.set_cons_succ, List.getElem_toArray, List.getElem_cons_zero, List.getElem_cons_succ])
      refine wpAnyH_take (i := 9) (v := ?_) (by simp only [List.getElem?_toArray, List.getElem?_cons_zero, List.getElem?_cons_succ]; rfl) (by kernel_rfl) (by kernel_rfl) (by kernel_rfl) (by intro _ _ _ h; exact h) (Or.inl ⟨by rfl, ?_⟩) (by assumption) ?_; rotate_left; (focus (intro w1 hSw; (try dsimp only at hSw); go_simp; (try with_reducible rfl))); (try simp only [Act.put, List.setIfInBounds_toArray, List.set_cons_zero, List.set_cons_succ, List.getElem_toArray, List.getElem_cons_zero, List.getElem_cons_succ])
      refine wpAnyH_done (by kernel_rfl) ?_ _
      clear hSS hHeld HSS HKP CC HBr
      have bW := HBW.out.st HBn.out
      go_wp2_with fail
      go_roundw
      case rel => exact ⟨k + 1, HK.out, by go_num, bW⟩
      case measure => have := HK.out; simp [RowKit.intOf]; omega
    · obtain rfl : k = l.length := by omega
      go_wp2_with fail
      go_ret
      exact ⟨rfl, bW⟩
end Go.Proofs.YtlnnbkpcnhlfcaaDoor
