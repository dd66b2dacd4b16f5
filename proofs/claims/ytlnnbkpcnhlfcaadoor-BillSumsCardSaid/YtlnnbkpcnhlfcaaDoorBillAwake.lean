/- The law's example, walked. -/
import Derived.Test.YtlnnbkpcnhlfcaaDoorJBillAwM
import Derived.Test.YtlnnbkpcnhlfcaaDoorBillCap1
import Derived.Test.YtlnnbkpcnhlfcaaDoorJMSortOwn
set_option linter.unusedSimpArgs false
set_option linter.unusedSimpArgs false
namespace Go.Proofs.YtlnnbkpcnhlfcaaDoor
open Go.RowKit Go.Lib

def exA (g : Nat) : List Ac := [⟨awA, some ⟨g, 0, none⟩, 1⟩]
def exC : List Cg := [⟨⟨⟨#[97]⟩, sAB, s0, 0, 100, [], 300⟩, none, 0⟩, ⟨⟨⟨#[98]⟩, sAB, s0, 0, 200, [], 300⟩, none, 0⟩, ⟨⟨⟨#[99]⟩, sAB, s0, 0, 90000, [], 300⟩, none, 0⟩]
theorem exA_len (g : Nat) : (exA g).length = 1 := rfl
theorem exA_vals (g : Nat) : vals (exA g) = [awA] := rfl
theorem exC_len : exC.length = 3 := rfl
theorem exC_cvs : cvs exC = awL := rfl
theorem exP_len : [awP].length = 1 := rfl
def exR (a0 : Option Addr) (k0 : Nat) (a1 : Option Addr) (k1 : Nat) (a2 : Option Addr) (k2 : Nat) : List Cg := [⟨⟨⟨#[97]⟩, sAB, s0, 0, 100, [], 300⟩, a0, k0⟩, ⟨⟨⟨#[98]⟩, sAB, s0, 0, 200, [(capS, -100)], 200⟩, a1, k1⟩, ⟨⟨⟨#[99]⟩, sAB, s0, 0, 90000, [], 300⟩, a2, k2⟩]
theorem exR_of {r : List Cg} (h : cvs r = awR) : ∃ a0 k0 a1 k1 a2 k2, r = exR a0 k0 a1 k1 a2 k2 := by
  match r, h with
  | [], h => simp [cvs, awR] at h
  | [_], h => simp [cvs, awR] at h
  | [_, _], h => simp [cvs, awR] at h
  | [⟨c0, a0, k0⟩, ⟨c1, a1, k1⟩, ⟨c2, a2, k2⟩], h =>
    simp only [cvs, awR, List.map_cons, List.map_nil, List.cons.injEq, and_true] at h
    obtain ⟨rfl, rfl, rfl⟩ := h
    exact ⟨a0, k0, a1, k1, a2, k2, rfl⟩
  | _ :: _ :: _ :: _ :: _, h => simp [cvs, awR] at h
theorem capR_ex {w w' : World} {e : Ending} (H : CapR [awA] [awP] awL w w' e) : ∃ A c a0 k0 a1 k1 a2 k2, e = .returned (.tuple #[.slice A 3 c, .int .i64 0]) ∧ Own 82 encCg 7 w' w.heap.size A c (exR a0 k0 a1 k1 a2 k2) ∧ CgRs w' (exR a0 k0 a1 k1 a2 k2) ∧ Below w.heap.size w w' := by
  obtain ⟨A, c, r, he, h1, h2, ho, hc, hb⟩ := H
  rw [aw1] at he
  obtain ⟨a0, k0, a1, k1, a2, k2, rfl⟩ := exR_of ((h1 aw1).trans aw2)
  exact ⟨A, c, a0, k0, a1, k1, a2, k2, he, ho, hc, hb⟩
theorem exR_len (a0 : Option Addr) (k0 : Nat) (a1 : Option Addr) (k1 : Nat) (a2 : Option Addr) (k2 : Nat) : (exR a0 k0 a1 k1 a2 k2).length = 3 := rfl
theorem exR_cvs (a0 : Option Addr) (k0 : Nat) (a1 : Option Addr) (k1 : Nat) (a2 : Option Addr) (k2 : Nat) : cvs (exR a0 k0 a1 k1 a2 k2) = awR := rfl
theorem exA_blo {X : World} {g b c : Nat} {A : Option Addr} {l : List Cg} (ho : Rd encOw 4 X X.heap.size (some ⟨g, 0, none⟩) awA.os) (ha : Rd encAc 9 X X.heap.size (some ⟨b, 0, none⟩) (exA g)) (hc : Rd encCp 4 X X.heap.size (some ⟨c, 0, none⟩) [awP]) (hl : Rd encCg 7 X X.heap.size A l) (hr : CgRs X l) (hm : Mon X) (hll : l.length ≤ 1000) :
    BLO X (some ⟨b, 0, none⟩) 1 (exA g) (some ⟨c, 0, none⟩) [awP] A l := by
  refine ⟨⟨ha, fun a h => ?_, by simp [exA], by omega⟩, ⟨by simp [exA], fun a h => ?_⟩, hc, hl, hr, hm, by simp, hll, fun a h => ?_⟩
  all_goals
    simp only [exA, List.mem_singleton] at h
    subst h
  · exact ⟨ho, by show 1 ≤ 1; omega, by show 1 ≤ _; omega⟩
  · refine ⟨by show 1 ≤ 1000; omega, fun o h => ?_⟩
    simp only [awA, List.mem_singleton] at h
    subst h
    exact ⟨by show 0 ≤ 1000; omega, by show 3 ≤ 1000; omega⟩
  · show 3 ≤ 1000; omega

set_option maxRecDepth 100000 in
set_option maxHeartbeats 16000000 in
theorem awake_any {w : World} (hm : Mon w) : Calls Tryd.prog 14 #[] w fun e w' => e = .returned (.bool true) ∧ Below w.heap.size w w' := by
  obtain ⟨Y1, hY1⟩ : ∃ Y, w.alloc (.cells #[.string ⟨#[]⟩, .string ⟨#[65, 66, 49]⟩, .int .i64 0, .int .i64 1000000] 95) = Y := ⟨_, rfl⟩
  obtain ⟨Y2, hY2⟩ : ∃ Y, Y1.alloc (.cells #[.string ⟨#[97, 110, 110]⟩, .string ⟨#[]⟩, .bool false, .slice (some ⟨w.heap.size, 0, none⟩) 1 1, .int .i64 0, .int .i64 0, .int .i64 0, .int .i64 0, .bool false] 91) = Y := ⟨_, rfl⟩
  obtain ⟨Y3, hY3⟩ : ∃ Y, Y2.alloc (.cells #[.string ⟨#[100, 97, 121]⟩, .string ⟨#[]⟩, .int .i64 1, .int .i64 500] 97) = Y := ⟨_, rfl⟩
  obtain ⟨Y4, hY4⟩ : ∃ Y, Y3.alloc (.cells #[.string ⟨#[97]⟩, .string ⟨#[65, 66, 49]⟩, .string ⟨#[]⟩, .int .i64 0, .int .i64 100, .slice none 0 0, .int .i64 300, .string ⟨#[98]⟩, .string ⟨#[65, 66, 49]⟩, .string ⟨#[]⟩, .int .i64 0, .int .i64 200, .slice none 0 0, .int .i64 300, .string ⟨#[99]⟩, .string ⟨#[65, 66, 49]⟩, .string ⟨#[]⟩, .int .i64 0, .int .i64 90000, .slice none 0 0, .int .i64 300] 82) = Y := ⟨_, rfl⟩
  obtain ⟨Y5, hY5⟩ : ∃ Y, Y4.alloc (.cells #[.slice (some ⟨w.heap.size + 1, 0, none⟩) 1 1, .slice (some ⟨w.heap.size + 2, 0, none⟩) 1 1, .slice (some ⟨w.heap.size + 3, 0, none⟩) 3 3] 35) = Y := ⟨_, rfl⟩
  have s1 : Y1.heap.size = w.heap.size + 1 := by rw [← hY1]; simp
  have s2 : Y2.heap.size = w.heap.size + 1 + 1 := by rw [← hY2]; simp [s1]
  have s3 : Y3.heap.size = w.heap.size + 1 + 1 + 1 := by rw [← hY3]; simp [s2]
  have s4 : Y4.heap.size = w.heap.size + 1 + 1 + 1 + 1 := by rw [← hY4]; simp [s3]
  have b1 : Below w.heap.size w Y1 := by rw [← hY1]; exact (Below.refl _ w).al _
  have b2 : Below Y1.heap.size Y1 Y2 := by rw [← hY2]; exact (Below.refl _ _).al _
  have b3 : Below Y2.heap.size Y2 Y3 := by rw [← hY3]; exact (Below.refl _ _).al _
  have b4 : Below Y3.heap.size Y3 Y4 := by rw [← hY4]; exact (Below.refl _ _).al _
  have b5 : Below Y4.heap.size Y4 Y5 := by rw [← hY5]; exact (Below.refl _ _).al _
  have r1 : Rd encOw 4 Y1 Y1.heap.size (some ⟨w.heap.size, 0, none⟩) awA.os := by rw [← hY1]; exact Rd.lit w _ encOw_ok rfl (by simp [awA])
  have r2 : Rd encAc 9 Y2 Y2.heap.size (some ⟨w.heap.size + 1, 0, none⟩) (exA w.heap.size) := by rw [← hY2, ← s1]; exact Rd.lit Y1 _ encAc_ok rfl (by simp [exA])
  have r3 : Rd encCp 4 Y3 Y3.heap.size (some ⟨w.heap.size + 2, 0, none⟩) [awP] := by rw [← hY3, ← s2]; exact Rd.lit Y2 _ encCp_ok rfl (by simp)
  have r4 : Rd encCg 7 Y4 Y4.heap.size (some ⟨w.heap.size + 3, 0, none⟩) exC := by rw [← hY4, ← s3]; exact Rd.lit Y3 _ encCg_ok rfl (by simp [exC])
  have BP : Blk Y5 (w.heap.size + 4) #[.slice (some ⟨w.heap.size + 1, 0, none⟩) 1 1, .slice (some ⟨w.heap.size + 2, 0, none⟩) 1 1, .slice (some ⟨w.heap.size + 3, 0, none⟩) 3 3] 35 := by rw [← hY5, ← s4]; exact Blk.new Y4 _ _
  have bW := ((((b1.st b2).st b3).st b4).st b5)
  have r1 := (((r1.st b2).st b3).st b4).st b5
  have r2 := ((r2.st b3).st b4).st b5
  have r3 := (r3.st b4).st b5
  have r4 := r4.st b5
  have HL := Lib.hid (exA_blo r1 r2 r3 r4 (fun x hx => (by simp only [exC, List.mem_cons, List.not_mem_nil, or_false] at hx; rcases hx with rfl | rfl | rfl <;> exact ⟨Rd.nil, by show 0 ≤ 1000; omega⟩)) (hm.st bW hm.1) (by rw [exC_len]; omega))
  have C0 := Lib.hid (fun (l : List Cg) (A : Option Addr) (c : Nat) (W : World) => conf_any (aA := some ⟨w.heap.size + 1, 0, none⟩) (cA := some ⟨w.heap.size + 2, 0, none⟩) (A := A) (acs := exA w.heap.size) (caps := [awP]) (l := l) 1 1 c W)
  have CC := Lib.hid (fun (W : World) (hW : Below Y5.heap.size Y5 W) => capped_any 1 1 3 (HL.out.st hW) (fun x hx => (by simp only [exC, List.mem_cons, List.not_mem_nil, or_false] at hx; rcases hx with rfl | rfl | rfl <;> (show 0 ≤ 900; omega))))
  have R1 := Lib.hid r1
  have R2 := Lib.hid r2
  have R3 := Lib.hid r3
  rw [exA_vals, exC_cvs, exC_len] at CC
  simp only [exA_len, exP_len] at CC C0
  have HM := Lib.hid hm
  clear b1 b2 b3 b4 b5 r1 r2 r3 r4 hm
  go_enter Tryd.func14, Tryd.ntmps14
  go_wp2_with fail
  clear hY1 hY2 hY3 hY4 hY5 s1 s2 s3 s4
  have HBP := Lib.hid BP
  have HBW := Lib.hid bW
  refine wp_region_held_drew (S := (fun w' : World => Blk w' (w.heap.size + 4) #[.slice (some ⟨w.heap.size + 1, 0, none⟩) 1 1, .slice (some ⟨w.heap.size + 2, 0, none⟩) 1 1, .slice (some ⟨w.heap.size + 3, 0, none⟩) 3 3] 35 ∧ w'.cell? ⟨w.heap.size + 1 + 1 + 1 + 1, 2, none⟩ = some (.slice (some ⟨w.heap.size + 3, 0, none⟩) 3 3))) (by kernel_rfl) ?_ (fun hHeld => ?_)
  · exact ⟨HBP.out, HBP.out.cell 2 rfl⟩
  have hSS : (fun w' : World => Blk w' (w.heap.size + 4) #[.slice (some ⟨w.heap.size + 1, 0, none⟩) 1 1, .slice (some ⟨w.heap.size + 2, 0, none⟩) 1 1, .slice (some ⟨w.heap.size + 3, 0, none⟩) 3 3] 35 ∧ w'.cell? ⟨w.heap.size + 1 + 1 + 1 + 1, 2, none⟩ = some (.slice (some ⟨w.heap.size + 3, 0, none⟩) 3 3)) Y5.drew := ⟨HBP.out.drew, HBP.out.drew.cell 2 rfl⟩
  have HBP := Lib.hid HBP.out.drew
  have HBR := Lib.hid (below_drewN (Below.refl Y5.heap.size Y5) 1)
  change Hid (Below Y5.heap.size Y5 Y5.drew) at HBR
  clear BP bW
  generalize Y5.drew = W0 at hSS hHeld HBP HBR ⊢
  change wpAnyH _ _ _ _ _ 10 _ _ _
  refine wpAnyH_take (i := 0) (v := .agg #[.slice (some ⟨w.heap.size + 1, 0, none⟩) 1 1, .slice (some ⟨w.heap.size + 2, 0, none⟩) 1 1, .slice (some ⟨w.heap.size + 3, 0, none⟩) 3 3]) (by simp only [List.getElem?_toArray, List.getElem?_cons_zero, List.getElem?_cons_succ]; rfl) (by kernel_rfl) (by kernel_rfl) (by kernel_rfl) (by intro _ _ _ h; exact h) (yieldsIf_boxLoad (by rfl) rfl rfl (fun _ hw => hw.1) ⟨_, Tryd.underlying35, by kernel_rfl⟩) (by assumption) ?_; (try simp only [Act.put, List.setIfInBounds_toArray, List.set_cons_zero, List.set_cons_succ, List.getElem_toArray, List.getElem_cons_zero, List.getElem_cons_succ])
  refine wpAnyH_take (i := 2) (v := ?_) (by simp only [List.getElem?_toArray, List.getElem?_cons_zero, List.getElem?_cons_succ]; rfl) (by kernel_rfl) (by kernel_rfl) (by kernel_rfl) (by intro _ _ _ h; exact h) (Or.inl ⟨by rfl, ?_⟩) (by assumption) ?_; rotate_left; (focus (intro w1 hSw; (try dsimp only at hSw); go_simp; (try with_reducible rfl))); (try simp only [Act.put, List.setIfInBounds_toArray, List.set_cons_zero, List.set_cons_succ, List.getElem_toArray, List.getElem_cons_zero, List.getElem_cons_succ])
  refine wpAnyH_take (i := 3) (v := ?_) (by simp only [List.getElem?_toArray, List.getElem?_cons_zero, List.getElem?_cons_succ]; rfl) (by kernel_rfl) (by kernel_rfl) (by kernel_rfl) (by intro _ _ _ h; exact h) (Or.inl ⟨by rfl, ?_⟩) (by assumption) ?_; rotate_left; (focus (intro w1 hSw; (try dsimp only at hSw); go_simp; (try with_reducible rfl))); (try simp only [Act.put, List.setIfInBounds_toArray, List.set_cons_zero, List.set_cons_succ, List.getElem_toArray, List.getElem_cons_zero, List.getElem_cons_succ])
  refine wpAnyH_ready (rs := [1]) (by kernel_rfl) (by simp) ?_; refine AllReadyH.cons (by simp only [List.getElem?_toArray, List.getElem?_cons_zero, List.getElem?_cons_succ]; rfl) (fun K hK => ?_) AllReadyH.nil
  rw [if_pos (by rfl)]; go_wp2_with fail
  refine (C0.out exC _ 3 _).mono ?_
  rintro e W1 ⟨rfl, hbn⟩
  have HBP := Lib.hid (HBP.out.below hbn HBP.out.lt)
  have HBR := Lib.hid (HBR.out.st hbn)
  have hSS : (fun w' : World => Blk w' (w.heap.size + 4) #[.slice (some ⟨w.heap.size + 1, 0, none⟩) 1 1, .slice (some ⟨w.heap.size + 2, 0, none⟩) 1 1, .slice (some ⟨w.heap.size + 3, 0, none⟩) 3 3] 35 ∧ w'.cell? ⟨w.heap.size + 1 + 1 + 1 + 1, 2, none⟩ = some (.slice (some ⟨w.heap.size + 3, 0, none⟩) 3 3)) W1 := ⟨HBP.out, HBP.out.cell 2 rfl⟩
  clear hbn
  go_wp2_with fail
  refine hK.out _ _ ?_ (fun hHeld => ?_)
  · exact hSS
  clear hK K
  (try simp only [Act.put, List.setIfInBounds_toArray, List.set_cons_zero, List.set_cons_succ, List.getElem_toArray, List.getElem_cons_zero, List.getElem_cons_succ])
  refine wpAnyH_ready (rs := [4]) (by kernel_rfl) (by simp) ?_; refine AllReadyH.cons (by simp only [List.getElem?_toArray, List.getElem?_cons_zero, List.getElem?_cons_succ]; rfl) (fun K hK => ?_) AllReadyH.nil
  rw [if_pos (by rfl)]; go_wp2_with fail
  refine (CC.out _ HBR.out).mono ?_
  rintro e W2 hcap
  obtain ⟨AR, cR, a0, k0, a1, k1, a2, k2, rfl, ho, hcr, hbn⟩ := capR_ex hcap
  have HBP := Lib.hid (HBP.out.below hbn HBP.out.lt)
  have HBR := Lib.hid (HBR.out.st hbn)
  have HO := Lib.hid ho
  have HCR := Lib.hid hcr
  have hSS : (fun w' : World => Blk w' (w.heap.size + 4) #[.slice (some ⟨w.heap.size + 1, 0, none⟩) 1 1, .slice (some ⟨w.heap.size + 2, 0, none⟩) 1 1, .slice (some ⟨w.heap.size + 3, 0, none⟩) 3 3] 35 ∧ w'.cell? ⟨w.heap.size + 1 + 1 + 1 + 1, 2, none⟩ = some (.slice (some ⟨w.heap.size + 3, 0, none⟩) 3 3)) W2 := ⟨HBP.out, HBP.out.cell 2 rfl⟩
  clear hbn hcap ho hcr CC
  go_wp2_with fail
  refine hK.out _ _ ?_ (fun hHeld => ?_)
  · exact hSS
  clear hK K
  (try simp only [Act.put, List.setIfInBounds_toArray, List.set_cons_zero, List.set_cons_succ, List.getElem_toArray, List.getElem_cons_zero, List.getElem_cons_succ])
  refine wpAnyH_take (i := 5) (v := ?_) (by simp only [List.getElem?_toArray, List.getElem?_cons_zero, List.getElem?_cons_succ]; rfl) (by kernel_rfl) (by kernel_rfl) (by kernel_rfl) (by intro _ _ _ h; exact h) (Or.inl ⟨by rfl, ?_⟩) (by assumption) ?_; rotate_left; (focus (intro w1 hSw; (try dsimp only at hSw); go_simp; (try with_reducible rfl))); (try simp only [Act.put, List.setIfInBounds_toArray, List.set_cons_zero, List.set_cons_succ, List.getElem_toArray, List.getElem_cons_zero, List.getElem_cons_succ])
  refine wpAnyH_take (i := 6) (v := ?_) (by simp only [List.getElem?_toArray, List.getElem?_cons_zero, List.getElem?_cons_succ]; rfl) (by kernel_rfl) (by kernel_rfl) (by kernel_rfl) (by intro _ _ _ h; exact h) (Or.inl ⟨by rfl, ?_⟩) (by assumption) ?_; rotate_left; (focus (intro w1 hSw; (try dsimp only at hSw); go_simp; (try with_reducible rfl))); (try simp only [Act.put, List.setIfInBounds_toArray, List.set_cons_zero, List.set_cons_succ, List.getElem_toArray, List.getElem_cons_zero, List.getElem_cons_succ])
  refine wpAnyH_take (i := 7) (v := ?_) (by simp only [List.getElem?_toArray, List.getElem?_cons_zero, List.getElem?_cons_succ]; rfl) (by kernel_rfl) (by kernel_rfl) (by kernel_rfl) (by intro _ _ _ h; exact h) (Or.inl ⟨by rfl, ?_⟩) (by assumption) ?_; rotate_left; (focus (intro w1 hSw; (try dsimp only at hSw); go_simp; (try with_reducible rfl))); (try simp only [Act.put, List.setIfInBounds_toArray, List.set_cons_zero, List.set_cons_succ, List.getElem_toArray, List.getElem_cons_zero, List.getElem_cons_succ])
  refine wpAnyH_take (i := 8) (v := ?_) (by simp only [List.getElem?_toArray, List.getElem?_cons_zero, List.getElem?_cons_succ]; rfl) (by kernel_rfl) (by kernel_rfl) (by kernel_rfl) (by intro _ _ _ h; exact h) (Or.inl ⟨by rfl, ?_⟩) (by assumption) ?_; rotate_left; (focus (intro w1 hSw; (try dsimp only at hSw); go_simp; (try with_reducible rfl))); (try simp only [Act.put, List.setIfInBounds_toArray, List.set_cons_zero, List.set_cons_succ, List.getElem_toArray, List.getElem_cons_zero, List.getElem_cons_succ])
  refine wpAnyH_take (i := 9) (v := ?_) (by simp only [List.getElem?_toArray, List.getElem?_cons_zero, List.getElem?_cons_succ]; rfl) (by kernel_rfl) (by kernel_rfl) (by kernel_rfl) (by intro _ _ _ h; exact h) (Or.inl ⟨by rfl, ?_⟩) (by assumption) ?_; rotate_left; (focus (intro w1 hSw; (try dsimp only at hSw); go_simp; (try with_reducible rfl))); (try simp only [Act.put, List.setIfInBounds_toArray, List.set_cons_zero, List.set_cons_succ, List.getElem_toArray, List.getElem_cons_zero, List.getElem_cons_succ])
  refine wpAnyH_done (by kernel_rfl) ?_ _
  have rr := HO.out.rd encCg_ok
  have BP := HBP.out
  have rO := R1.out.st HBR.out
  have rA := R2.out.st HBR.out
  have rP := R3.out.st HBR.out
  have hmW := HM.out.st (HBW.out.st HBR.out) HM.out.1
  have bW := Lib.hid (HBW.out.st HBR.out)
  have HL2 := Lib.hid (exA_blo rO rA rP rr HCR.out hmW (by rw [exR_len]; omega))
  have HM2 := Lib.hid hmW
  obtain ⟨b, off, x0, hA, hb, hx, d0, d1, d2, d3, d4, d5, d6⟩ := rr.cg (i := 0) (by rw [exR_len]; omega)
  obtain ⟨b', off', x1, hA', hb', hx', e0, e1, e2, e3, e4, e5, e6⟩ := rr.cg (i := 1) (by rw [exR_len]; omega)
  obtain ⟨b'', off'', x2, hA'', hb'', hx'', f0, f1, f2, f3, f4, f5, f6⟩ := rr.cg (i := 2) (by rw [exR_len]; omega)
  obtain rfl := Option.some.inj hx
  obtain rfl := Option.some.inj hx'
  obtain rfl := Option.some.inj hx''
  rw [hA] at hA' hA''
  injection hA' with hA'; injection hA' with q1 q2; subst q1 q2
  injection hA'' with hA''; injection hA'' with q1 q2; subst q1 q2
  obtain ⟨b3, off3, ln, hA3, hb3, hx3, hc3⟩ := (HCR.out _ (List.mem_of_getElem? hx')).1.at_ (i := 0) (by show 0 < 1; omega)
  obtain rfl := Option.some.inj hx3
  have g0 : W2.cell? ⟨b3, off3, none⟩ = some (.string ⟨#[99, 97, 112]⟩) := hc3 0 _ rfl
  have g1 : W2.cell? ⟨b3, off3 + 1, none⟩ = some (.int .i64 (-100)) := hc3 1 _ rfl
  subst hA
  subst hA3
  simp only [List.length_cons, List.length_nil, Nat.zero_add] at e5
  clear d0 d1 d2 d3 d4 d5 e0 e1 e2 e3 e4 f0 f1 f2 f3 f4 f5 hb hb' hb'' hx hx' hx'' hb3 hx3 hc3 rO rA rP hmW HBP HBR HBW hSS hHeld R1 R2 R3 HM HL
  have CT := Lib.hid (fun (nm : ByteArray) (W : World) (hW : Below W2.heap.size W2 W) => tot_any 1 1 cR nm 0 86400 (HL2.out.st hW))
  have CO := Lib.hid (fun (nm : ByteArray) (W : World) (hW : Below W2.heap.size W2 W) => of_any 1 1 cR nm (HL2.out.st hW))
  have CD := Lib.hid (fun (W : World) (hW : Below W2.heap.size W2 W) => days_any cR (HL2.out.st hW).cl (by rw [exR_len]; omega))
  rw [exA_vals, exR_cvs, exR_len] at CT CO
  rw [exR_cvs, exR_len] at CD
  simp only [exA_len, exP_len] at CT CO
  have CA := Lib.hid (CT.out sAnn)
  have CB := Lib.hid (CT.out sBob)
  rw [aw3.1, aw3.2] at CA
  rw [aw4.1, aw4.2] at CB
  clear CT
  have bR := Below.refl W2.heap.size W2
  have z0 := BP.cell 0 (v := .slice (some ⟨w.heap.size + 1, 0, none⟩) 1 1) rfl; have z1 := BP.cell 1 (v := .slice (some ⟨w.heap.size + 2, 0, none⟩) 1 1) rfl; have z2 := BP.cell 2 (v := .slice (some ⟨w.heap.size + 3, 0, none⟩) 3 3) rfl
  clear rr
  go_wp2_with fail; refine (C0.out exC _ 3 _).mono ?_; rintro e W3 ⟨rfl, hbn⟩; have bR := bR.st hbn; have BP := BP.below hbn BP.lt; clear z0 z1 z2 hbn; have z0 := BP.cell 0 (v := .slice (some ⟨w.heap.size + 1, 0, none⟩) 1 1) rfl; have z1 := BP.cell 1 (v := .slice (some ⟨w.heap.size + 2, 0, none⟩) 1 1) rfl; have z2 := BP.cell 2 (v := .slice (some ⟨w.heap.size + 3, 0, none⟩) 3 3) rfl
  go_wp2_with fail
  refine (CA.out _ bR).mono ?_
  rintro e W4 ⟨rfl, hbn⟩
  have bR := bR.st hbn; have BP := BP.below hbn BP.lt; clear z0 z1 z2 hbn; have z0 := BP.cell 0 (v := .slice (some ⟨w.heap.size + 1, 0, none⟩) 1 1) rfl; have z1 := BP.cell 1 (v := .slice (some ⟨w.heap.size + 2, 0, none⟩) 1 1) rfl; have z2 := BP.cell 2 (v := .slice (some ⟨w.heap.size + 3, 0, none⟩) 3 3) rfl
  go_wp2_with fail; refine (C0.out exC _ 3 _).mono ?_; rintro e W5 ⟨rfl, hbn⟩; have bR := bR.st hbn; have BP := BP.below hbn BP.lt; clear z0 z1 z2 hbn; have z0 := BP.cell 0 (v := .slice (some ⟨w.heap.size + 1, 0, none⟩) 1 1) rfl; have z1 := BP.cell 1 (v := .slice (some ⟨w.heap.size + 2, 0, none⟩) 1 1) rfl; have z2 := BP.cell 2 (v := .slice (some ⟨w.heap.size + 3, 0, none⟩) 3 3) rfl
  go_wp2_with fail
  refine (CB.out _ bR).mono ?_
  rintro e W6 ⟨rfl, hbn⟩
  have bR := bR.st hbn; have BP := BP.below hbn BP.lt; clear z0 z1 z2 hbn; have z0 := BP.cell 0 (v := .slice (some ⟨w.heap.size + 1, 0, none⟩) 1 1) rfl; have z1 := BP.cell 1 (v := .slice (some ⟨w.heap.size + 2, 0, none⟩) 1 1) rfl; have z2 := BP.cell 2 (v := .slice (some ⟨w.heap.size + 3, 0, none⟩) 3 3) rfl
  go_wp2_with fail
  refine (CD.out _ bR).mono ?_
  rintro e W7 ⟨A1, c1, A2, c2, ds, ss, rfl, hd, o1, o2, hbn⟩
  obtain ⟨rfl, rfl⟩ := hd.unique aw6
  have p1 := o1.rd encI_ok
  have p2 := o2.rd encI_ok
  clear hd o1 o2
  have bR := bR.st hbn; have BP := BP.below hbn BP.lt; clear z0 z1 z2 hbn; have z0 := BP.cell 0 (v := .slice (some ⟨w.heap.size + 1, 0, none⟩) 1 1) rfl; have z1 := BP.cell 1 (v := .slice (some ⟨w.heap.size + 2, 0, none⟩) 1 1) rfl; have z2 := BP.cell 2 (v := .slice (some ⟨w.heap.size + 3, 0, none⟩) 3 3) rfl
  obtain ⟨X1, hX1⟩ : ∃ Y, W7.alloc (.cells #[.string ⟨#[]⟩, .int .i64 5000, .string ⟨#[]⟩] 101) = Y := ⟨_, rfl⟩
  obtain ⟨X2, hX2⟩ : ∃ Y, X1.alloc (.cells #[.string ⟨#[120]⟩, .string ⟨#[65, 66, 49]⟩, .string ⟨#[]⟩, .int .i64 0, .slice (some ⟨W7.heap.size, 0, none⟩) 1 1] 28) = Y := ⟨_, rfl⟩
  obtain ⟨X3, hX3⟩ : ∃ Y, X2.alloc (.cells #[.string ⟨#[]⟩, .int .i64 5000, .string ⟨#[]⟩] 101) = Y := ⟨_, rfl⟩
  obtain ⟨X4, hX4⟩ : ∃ Y, X3.alloc (.cells #[.string ⟨#[119]⟩, .string ⟨#[65, 66, 49]⟩, .string ⟨#[]⟩, .int .i64 0, .slice (some ⟨W7.heap.size + 1 + 1, 0, none⟩) 1 1] 28) = Y := ⟨_, rfl⟩
  have t1 : X1.heap.size = W7.heap.size + 1 := by rw [← hX1]; simp
  have t2 : X2.heap.size = W7.heap.size + 1 + 1 := by rw [← hX2]; simp [t1]
  have t3 : X3.heap.size = W7.heap.size + 1 + 1 + 1 := by rw [← hX3]; simp [t2]
  have v1 : Below W7.heap.size W7 X1 := by rw [← hX1]; exact (Below.refl _ _).al _
  have v2 : Below X1.heap.size X1 X2 := by rw [← hX2]; exact (Below.refl _ _).al _
  have v3 : Below X2.heap.size X2 X3 := by rw [← hX3]; exact (Below.refl _ _).al _
  have v4 : Below X3.heap.size X3 X4 := by rw [← hX4]; exact (Below.refl _ _).al _
  have rx : Rd encSp 3 X1 X1.heap.size (some ⟨W7.heap.size, 0, none⟩) [awS] := by rw [← hX1]; exact Rd.lit W7 _ encSp_ok rfl (by simp)
  have ry : Rd encSp 3 X3 X3.heap.size (some ⟨W7.heap.size + 1 + 1, 0, none⟩) [awS] := by rw [← hX3, ← t2]; exact Rd.lit X2 _ encSp_ok rfl (by simp)
  have rx := ((rx.st v2).st v3).st v4
  have ry := ry.st v4
  have BX : Blk X2 (W7.heap.size + 1) #[.string ⟨#[120]⟩, .string ⟨#[65, 66, 49]⟩, .string ⟨#[]⟩, .int .i64 0, .slice (some ⟨W7.heap.size, 0, none⟩) 1 1] 28 := by rw [← hX2, ← t1]; exact Blk.new X1 _ _
  have BX := BX.below v3 BX.lt
  have BX := BX.below v4 BX.lt
  have BY : Blk X4 (W7.heap.size + 1 + 1 + 1) #[.string ⟨#[119]⟩, .string ⟨#[65, 66, 49]⟩, .string ⟨#[]⟩, .int .i64 0, .slice (some ⟨W7.heap.size + 1 + 1, 0, none⟩) 1 1] 28 := by rw [← hX4, ← t3]; exact Blk.new X3 _ _
  have hbn := ((v1.st v2).st v3).st v4
  have p1 := p1.st hbn
  have p2 := p2.st hbn
  have bR := bR.st hbn; have BP := BP.below hbn BP.lt; clear z0 z1 z2 hbn; have z0 := BP.cell 0 (v := .slice (some ⟨w.heap.size + 1, 0, none⟩) 1 1) rfl; have z1 := BP.cell 1 (v := .slice (some ⟨w.heap.size + 2, 0, none⟩) 1 1) rfl; have z2 := BP.cell 2 (v := .slice (some ⟨w.heap.size + 3, 0, none⟩) 3 3) rfl
  clear v1 v2 v3 v4
  obtain ⟨X5, hXX⟩ : ∃ Y, World.alloc X4 (.cells #[.int .i64 0, .int .i64 1] 3) = Y := ⟨_, rfl⟩; have hbn : Below (X4).heap.size X4 X5 := (by rw [← hXX]; exact (Below.refl _ _).al _); have rn : Rd encI 1 X5 (X5).heap.size (some ⟨(X4).heap.size, 0, none⟩) [0, 1] := (by rw [← hXX]; exact Rd.lit X4 _ encI_ok rfl (by simp)); have BX := BX.below hbn BX.lt; have BY := BY.below hbn BY.lt; have rx := rx.st hbn; have ry := ry.st hbn; (try have p1 := p1.st hbn); (try have p2 := p2.st hbn); have bR := bR.st hbn; have BP := BP.below hbn BP.lt; clear z0 z1 z2 hbn; have z0 := BP.cell 0 (v := .slice (some ⟨w.heap.size + 1, 0, none⟩) 1 1) rfl; have z1 := BP.cell 1 (v := .slice (some ⟨w.heap.size + 2, 0, none⟩) 1 1) rfl; have z2 := BP.cell 2 (v := .slice (some ⟨w.heap.size + 3, 0, none⟩) 3 3) rfl
  have CS := Lib.hid (sameN_true (l := [0, 1]) c1 2 p1 rn (by simp))
  simp only [List.length_cons, List.length_nil, Nat.zero_add] at CS
  clear rn p1
  go_wp2_with fail
  clear hXX hX1 hX2 hX3 hX4 t1 t2 t3
  refine CS.out.mono ?_
  rintro e W8 ⟨rfl, hbn⟩
  have BX := BX.below hbn BX.lt; have BY := BY.below hbn BY.lt; have rx := rx.st hbn; have ry := ry.st hbn; (try have p1 := p1.st hbn); (try have p2 := p2.st hbn); have bR := bR.st hbn; have BP := BP.below hbn BP.lt; clear z0 z1 z2 hbn; have z0 := BP.cell 0 (v := .slice (some ⟨w.heap.size + 1, 0, none⟩) 1 1) rfl; have z1 := BP.cell 1 (v := .slice (some ⟨w.heap.size + 2, 0, none⟩) 1 1) rfl; have z2 := BP.cell 2 (v := .slice (some ⟨w.heap.size + 3, 0, none⟩) 3 3) rfl
  clear CS
  obtain ⟨X6, hXX⟩ : ∃ Y, World.alloc W8 (.cells #[.int .i64 500, .int .i64 300] 3) = Y := ⟨_, rfl⟩; have hbn : Below (W8).heap.size W8 X6 := (by rw [← hXX]; exact (Below.refl _ _).al _); have rn : Rd encI 1 X6 (X6).heap.size (some ⟨(W8).heap.size, 0, none⟩) [500, 300] := (by rw [← hXX]; exact Rd.lit W8 _ encI_ok rfl (by simp)); have BX := BX.below hbn BX.lt; have BY := BY.below hbn BY.lt; have rx := rx.st hbn; have ry := ry.st hbn; (try have p1 := p1.st hbn); (try have p2 := p2.st hbn); have bR := bR.st hbn; have BP := BP.below hbn BP.lt; clear z0 z1 z2 hbn; have z0 := BP.cell 0 (v := .slice (some ⟨w.heap.size + 1, 0, none⟩) 1 1) rfl; have z1 := BP.cell 1 (v := .slice (some ⟨w.heap.size + 2, 0, none⟩) 1 1) rfl; have z2 := BP.cell 2 (v := .slice (some ⟨w.heap.size + 3, 0, none⟩) 3 3) rfl
  have CS := Lib.hid (sameN_true (l := [500, 300]) c2 2 p2 rn (by simp))
  simp only [List.length_cons, List.length_nil, Nat.zero_add] at CS
  clear rn p2
  go_wp2_with fail
  clear hXX
  refine CS.out.mono ?_
  rintro e W9 ⟨rfl, hbn⟩
  have BX := BX.below hbn BX.lt; have BY := BY.below hbn BY.lt; have rx := rx.st hbn; have ry := ry.st hbn; (try have p1 := p1.st hbn); (try have p2 := p2.st hbn); have bR := bR.st hbn; have BP := BP.below hbn BP.lt; clear z0 z1 z2 hbn; have z0 := BP.cell 0 (v := .slice (some ⟨w.heap.size + 1, 0, none⟩) 1 1) rfl; have z1 := BP.cell 1 (v := .slice (some ⟨w.heap.size + 2, 0, none⟩) 1 1) rfl; have z2 := BP.cell 2 (v := .slice (some ⟨w.heap.size + 3, 0, none⟩) 3 3) rfl
  clear CS
  go_wp2_with fail; refine (C0.out exC _ 3 _).mono ?_; rintro e Wa ⟨rfl, hbn⟩; have BX := BX.below hbn BX.lt; have BY := BY.below hbn BY.lt; have rx := rx.st hbn; have ry := ry.st hbn; (try have p1 := p1.st hbn); (try have p2 := p2.st hbn); have bR := bR.st hbn; have BP := BP.below hbn BP.lt; clear z0 z1 z2 hbn; have z0 := BP.cell 0 (v := .slice (some ⟨w.heap.size + 1, 0, none⟩) 1 1) rfl; have z1 := BP.cell 1 (v := .slice (some ⟨w.heap.size + 2, 0, none⟩) 1 1) rfl; have z2 := BP.cell 2 (v := .slice (some ⟨w.heap.size + 3, 0, none⟩) 3 3) rfl
  go_wp2_with fail
  refine (CO.out sAnn _ bR).mono ?_
  rintro e Wb ⟨A3, c3, r3, rfl, hr3, -, -, hbn⟩
  have hl3 : r3.length = 3 := by rw [← cvs_len, hr3, aw7.1]; rfl
  rw [hl3]
  clear hl3 hr3
  have BX := BX.below hbn BX.lt; have BY := BY.below hbn BY.lt; have rx := rx.st hbn; have ry := ry.st hbn; (try have p1 := p1.st hbn); (try have p2 := p2.st hbn); have bR := bR.st hbn; have BP := BP.below hbn BP.lt; clear z0 z1 z2 hbn; have z0 := BP.cell 0 (v := .slice (some ⟨w.heap.size + 1, 0, none⟩) 1 1) rfl; have z1 := BP.cell 1 (v := .slice (some ⟨w.heap.size + 2, 0, none⟩) 1 1) rfl; have z2 := BP.cell 2 (v := .slice (some ⟨w.heap.size + 3, 0, none⟩) 3 3) rfl
  go_wp2_with fail; refine (C0.out exC _ 3 _).mono ?_; rintro e Wc ⟨rfl, hbn⟩; have BX := BX.below hbn BX.lt; have BY := BY.below hbn BY.lt; have rx := rx.st hbn; have ry := ry.st hbn; (try have p1 := p1.st hbn); (try have p2 := p2.st hbn); have bR := bR.st hbn; have BP := BP.below hbn BP.lt; clear z0 z1 z2 hbn; have z0 := BP.cell 0 (v := .slice (some ⟨w.heap.size + 1, 0, none⟩) 1 1) rfl; have z1 := BP.cell 1 (v := .slice (some ⟨w.heap.size + 2, 0, none⟩) 1 1) rfl; have z2 := BP.cell 2 (v := .slice (some ⟨w.heap.size + 3, 0, none⟩) 3 3) rfl
  go_wp2_with fail
  refine (CO.out sBob _ bR).mono ?_
  rintro e Wd ⟨A4, c4, r4, rfl, hr4, -, -, hbn⟩
  have hl4 : r4.length = 0 := by rw [← cvs_len, hr4, aw7.2]; rfl
  rw [hl4]
  clear hl4 hr4
  have BX := BX.below hbn BX.lt; have BY := BY.below hbn BY.lt; have rx := rx.st hbn; have ry := ry.st hbn; (try have p1 := p1.st hbn); (try have p2 := p2.st hbn); have bR := bR.st hbn; have BP := BP.below hbn BP.lt; clear z0 z1 z2 hbn; have z0 := BP.cell 0 (v := .slice (some ⟨w.heap.size + 1, 0, none⟩) 1 1) rfl; have z1 := BP.cell 1 (v := .slice (some ⟨w.heap.size + 2, 0, none⟩) 1 1) rfl; have z2 := BP.cell 2 (v := .slice (some ⟨w.heap.size + 3, 0, none⟩) 3 3) rfl
  have hmd := HM2.out.st bR HM2.out.1
  have CM := Lib.hid (month_any 31536000 hmd)
  rw [aw8] at CM
  go_wp2_with fail
  refine CM.out.mono ?_
  rintro e we ⟨rfl, hwe⟩
  rw [hwe]
  clear hwe we CM
  have x0 := BX.cell 0 (v := .string ⟨#[120]⟩) rfl
  have x1 := BX.cell 1 (v := .string ⟨#[65, 66, 49]⟩) rfl
  have x2 := BX.cell 2 (v := .string ⟨#[]⟩) rfl
  have x3 := BX.cell 3 (v := .int .i64 0) rfl
  have x4 := BX.cell 4 (v := .slice (some ⟨W7.heap.size, 0, none⟩) 1 1) rfl
  have y0 := BY.cell 0 (v := .string ⟨#[119]⟩) rfl
  have y1 := BY.cell 1 (v := .string ⟨#[65, 66, 49]⟩) rfl
  have y2 := BY.cell 2 (v := .string ⟨#[]⟩) rfl
  have y3 := BY.cell 3 (v := .int .i64 0) rfl
  have y4 := BY.cell 4 (v := .slice (some ⟨W7.heap.size + 1 + 1, 0, none⟩) 1 1) rfl
  obtain ⟨X7, hXX⟩ : ∃ Y, Wd.alloc (.cells #[.string ⟨#[120]⟩, .string ⟨#[65, 66, 49]⟩, .string ⟨#[]⟩, .int .i64 0, .slice (some ⟨W7.heap.size, 0, none⟩) 1 1, .string ⟨#[119]⟩, .string ⟨#[65, 66, 49]⟩, .string ⟨#[]⟩, .int .i64 0, .slice (some ⟨W7.heap.size + 1 + 1, 0, none⟩) 1 1] 28) = Y := ⟨_, rfl⟩
  have hbn : Below Wd.heap.size Wd X7 := by rw [← hXX]; exact (Below.refl _ _).al _
  have rt : Rd encTr 5 X7 X7.heap.size (some ⟨Wd.heap.size, 0, none⟩) (awX (some ⟨W7.heap.size, 0, none⟩) (some ⟨W7.heap.size + 1 + 1, 0, none⟩)) := by rw [← hXX]; exact Rd.lit Wd _ encTr_ok rfl (by simp [awX])
  have tx : TrOk X7 ⟨⟨#[120]⟩, sAB, s0, 0, some ⟨W7.heap.size, 0, none⟩, 1, [awS]⟩ := ⟨rx.st hbn, by show 1 ≤ _; omega⟩
  have ty : TrOk X7 ⟨⟨#[119]⟩, sAB, s0, 0, some ⟨W7.heap.size + 1 + 1, 0, none⟩, 1, [awS]⟩ := ⟨ry.st hbn, by show 1 ≤ _; omega⟩
  have bF := bW.out.st (bR.st hbn)
  have BV := BX.below hbn BX.lt
  have v0 := BV.cell 0 (v := .string ⟨#[120]⟩) rfl
  have v1 := BV.cell 1 (v := .string ⟨#[65, 66, 49]⟩) rfl
  have v2 := BV.cell 2 (v := .string ⟨#[]⟩) rfl
  have v3 := BV.cell 3 (v := .int .i64 0) rfl
  have v4 := BV.cell 4 (v := .slice (some ⟨W7.heap.size, 0, none⟩) 1 1) rfl
  have CE := Lib.hid (earlier_any 2 _ rt (fun t ht => (by simp only [awX, List.mem_cons, List.not_mem_nil, or_false] at ht; rcases ht with rfl | rfl <;> first | exact tx | exact ty)) tx (hmd.st hbn hmd.1) (by simp [awX]))
  rw [aw9] at CE
  have hxl : (awX (some ⟨W7.heap.size, 0, none⟩) (some ⟨W7.heap.size + 1 + 1, 0, none⟩)).length = 2 := rfl
  rw [hxl] at CE
  simp only [TrV, List.length_cons, List.length_nil, Nat.zero_add] at CE
  clear hxl rt tx ty hmd
  go_wp2_with fail
  refine CE.out.mono ?_
  rintro e Wf ⟨rfl, hbf⟩
  go_wp2_with fail
  go_ret
  exact ⟨rfl, bF.st hbf⟩
end Go.Proofs.YtlnnbkpcnhlfcaaDoor
