/- The chapter's examples, walked. -/
import Derived.Test.YtbeoopofckbijaaPerCov
import Derived.Test.YtbeoopofckbijaaPerExc
import Derived.Test.YtbeoopofckbijaaPerChk
set_option linter.unusedSimpArgs false
namespace Go.Proofs.Ytbeoopofckbijaa
open Go.RowKit Go.Lib Go.Sort

theorem below_drew {B : Nat} {a w : World} (h : Below B a w) : Below B a w.drew := below_drewN h 1
theorem rd_drew {α : Type} {enc : α → List Value} {k : Nat} {w : World} {A : Option Addr} {l : List α} (h : Rd enc k w w.heap.size A l) : Rd enc k w.drew w.drew.heap.size A l := h
abbrev sAB : ByteArray := ⟨#[65, 66, 49, 50]⟩
abbrev sA3 : ByteArray := ⟨#[65, 66, 49, 51]⟩
abbrev sab : ByteArray := ⟨#[97, 98, 45, 49, 50]⟩
abbrev sa : ByteArray := ⟨#[97]⟩
abbrev sp : ByteArray := ⟨#[112]⟩
def exP (b : Nat) : Pm := ⟨sp, sa, some ⟨b, 0, none⟩, 1, [sAB], 0, 172800, some ⟨b + 1, 0, none⟩, 1, [(1, 0, 720)], 1⟩
def st (id : ByteArray) (f t : Int) : St := ⟨id, sa, sAB, f, t⟩
def exS : List St := [st ⟨#[122]⟩ 100 200, st ⟨#[121]⟩ 50 150, st ⟨#[120]⟩ 0 100]
def exZ : List Zn := [⟨sa, none, 0, [], none, 0, [], 0, 0, 0, 0⟩]
theorem ex1 : nameB sp = true ∧ plB sAB = true ∧ plS sAB = sAB ∧ vw (1, 0, 720) = true ∧ validB 0 172800 = true := ⟨by kernel_rfl, by kernel_rfl, by kernel_rfl, by kernel_rfl, by kernel_rfl⟩
theorem ex2 (b : Nat) : validP (exP b) sab 43199 = true ∧ validP (exP b) sAB 43200 = false ∧ validP (exP b) sA3 0 = false := ⟨by kernel_rfl, by kernel_rfl, by kernel_rfl⟩
theorem ex3 (b : Nat) : listB (exP b).ps sAB = true := by kernel_rfl
theorem ex4 : (findZ exZ sa).isSome = true := by kernel_rfl
theorem ex5 (b : Nat) : exS.filter (okS (exP b)) = exS := by kernel_rfl
theorem ex6 {l2 : List St} (h : StabOf (ltOf cmpSt) exS l2) : (exF 1 l2).2 = [⟨#[121]⟩] := by
  have hS := cmpSt_pre.swo
  have k := StabOf.snoc hS (StabOf.snoc hS (StabOf.snoc hS StabOf.nil (st ⟨#[122]⟩ 100 200)) (st ⟨#[121]⟩ 50 150)) (st ⟨#[120]⟩ 0 100)
  have e := h.unique k
  rw [e]
  have : (exF 1 (insS (ltOf cmpSt) (st ⟨#[120]⟩ 0 100) (insS (ltOf cmpSt) (st ⟨#[121]⟩ 50 150) (insS (ltOf cmpSt) (st ⟨#[122]⟩ 100 200) [])))).2 = [⟨#[121]⟩] := by kernel_rfl
  exact this
theorem ex7 (b : Nat) (t : Int) : Pa (exP b) sAB (3600, 172800) t ↔ Mem [((3600, 43200) : Iv)] t := by
  rw [mem_one (by unfold vld; simp)]
  unfold Pa
  have e : validP (exP b) sAB t = (hasB [(0, 172800)] t && hrsB [(1, 0, 720)] t) := by
    unfold validP; rw [ex3]; rfl
  rw [e, Bool.and_eq_true]
  constructor
  · rintro ⟨h1, h2, -, h4⟩
    unfold hrsB wAtB wAt at h4
    simp at h4
    obtain ⟨-, -, h5, -, h6⟩ := h4
    refine ⟨h1, ?_⟩
    have hd : t / 86400 = 0 ∨ t / 86400 = 1 := by omega
    rcases hd with hd | hd
    · omega
    · rw [hd] at h5; exact absurd h5 (by decide)
  · rintro ⟨h1, h2⟩
    refine ⟨h1, by simp only; omega, ?_, ?_⟩
    · rw [hasB_mem, mem_one (by unfold vld; simp)]; omega
    · unfold hrsB wAtB wAt
      have hd : t / 86400 = 0 := by omega
      simp only [List.any_cons, List.any_nil, hd, Bool.or_eq_true, Bool.and_eq_true, decide_eq_true_eq]
      right; left
      refine ⟨by omega, by decide, by decide, by omega, by omega⟩
theorem ex8 (b : Nat) (t : Int) : Co [exP b] sAB sa (3600, 172800) t ↔ Mem [((3600, 43200) : Iv)] t := by
  rw [← ex7 b]
  unfold Co
  constructor
  · rintro ⟨p, hp, -, h⟩; simp only [List.mem_singleton] at hp; subst hp; exact h
  · intro h; exact ⟨exP b, by simp, by kernel_rfl, h⟩
theorem nf1 : NF [((3600, 43200) : Iv)] := by
  refine ⟨by simp [vld], by simp⟩

set_option maxRecDepth 100000 in
set_option maxHeartbeats 4000000 in
theorem stay_any (id : ByteArray) (f t : Int) (w : World) : Calls Try.prog 10 #[.string id, .int .i64 f, .int .i64 t] w fun e w' => e = .returned (StV (st id f t)) ∧ Below w.heap.size w w' := by
  obtain ⟨Y1, hY1⟩ : ∃ Y, w.alloc (.cells #[.string ⟨#[]⟩, .string ⟨#[]⟩, .string ⟨#[]⟩, .int .i64 0, .int .i64 0] 44) = Y := ⟨_, rfl⟩
  have bW : Below w.heap.size w Y1 := by rw [← hY1]; exact (Below.refl _ w).al _
  have BZ : Blk Y1 w.heap.size #[.string ⟨#[]⟩, .string ⟨#[]⟩, .string ⟨#[]⟩, .int .i64 0, .int .i64 0] 44 := by rw [← hY1]; exact Blk.new w _ _
  go_enter Try.func10, Try.ntmps10
  go_wp2_with (first | (refine wpList_boxStore rfl (ty := 44) (x := .tmp 6) (y := .tmp 11) (cells := #[.string id, .string ⟨#[97]⟩, .string ⟨#[65, 66, 49, 50]⟩, .int .i64 f, .int .i64 t]) rfl BZ rfl rfl (by kernel_rfl) rfl (by kernel_rfl) ?_; intro w6 BZ6 hoz6 hbz6))
  refine bodyPost_ret (v := .agg #[.string id, .string ⟨#[97]⟩, .string ⟨#[65, 66, 49, 50]⟩, .int .i64 f, .int .i64 t]) (results_box Try.results10 _ rfl BZ6 ⟨_, Try.underlying44, by kernel_rfl⟩) rfl ?_
  exact ⟨rfl, hbz6 _ _ (Nat.le_refl _) bW⟩

set_option maxRecDepth 100000 in
set_option maxHeartbeats 16000000 in
theorem awake_any (w : World) : Calls Try.prog 4 #[] w fun e w' => e = .returned (.bool true) ∧ Below w.heap.size w w' := by
  obtain ⟨Y1, hY1⟩ : ∃ Y, w.alloc (.cells #[.string ⟨#[65, 66, 49, 50]⟩] 9) = Y := ⟨_, rfl⟩
  have s1 : Y1.heap.size = w.heap.size + 1 := by rw [← hY1]; simp
  obtain ⟨Y2, hY2⟩ : ∃ Y, Y1.alloc (.cells #[.int .i64 1, .int .i64 0, .int .i64 720] 42) = Y := ⟨_, rfl⟩
  have s2 : Y2.heap.size = w.heap.size + 2 := by rw [← hY2]; simp [s1]
  obtain ⟨Y3, hY3⟩ : ∃ Y, Y2.alloc (.cells #[.string ⟨#[]⟩, .string ⟨#[]⟩, .slice none 0 0, .int .i64 0, .int .i64 0, .slice none 0 0, .int .i64 0] 31) = Y := ⟨_, rfl⟩
  have BZ : Blk Y3 (w.heap.size + 2) #[.string ⟨#[]⟩, .string ⟨#[]⟩, .slice none 0 0, .int .i64 0, .int .i64 0, .slice none 0 0, .int .i64 0] 31 := by rw [← hY3, ← s2]; exact Blk.new _ _ _
  have r1 : Rd encStr 1 Y1 Y1.heap.size (some ⟨w.heap.size, 0, none⟩) [sAB] := by rw [← hY1]; exact Rd.lit w _ encStr_ok rfl (by simp)
  have r2 : Rd encW 3 Y2 Y2.heap.size (some ⟨w.heap.size + 1, 0, none⟩) [(1, 0, 720)] := by rw [← hY2, ← s1]; exact Rd.lit Y1 _ encW_ok rfl (by simp)
  have b12 : Below Y1.heap.size Y1 Y2 := by rw [← hY2]; exact (Below.refl _ _).al _
  have b23 : Below Y2.heap.size Y2 Y3 := by rw [← hY3]; exact (Below.refl _ _).al _
  have bW : Below w.heap.size w Y3 := ((show Below w.heap.size w Y1 by rw [← hY1]; exact (Below.refl _ _).al _).st b12).st b23
  have HQ : Hid (∀ w4, Blk w4 (w.heap.size + 2) #[.string ⟨#[112]⟩, .string ⟨#[97]⟩, .slice (some ⟨w.heap.size, 0, none⟩) 1 1, .int .i64 0, .int .i64 172800, .slice (some ⟨w.heap.size + 1, 0, none⟩) 1 1, .int .i64 1] 31 → (∀ B w0, B ≤ w.heap.size + 2 → Below B w0 Y3 → Below B w0 w4) → POk w4 (exP w.heap.size) ∧ Below w.heap.size w w4) := Lib.hid (by
    intro w4 hB hb
    have b24 : Below Y2.heap.size Y2 w4 := hb _ _ (by omega) b23
    exact ⟨⟨(r1.st b12).st b24, r2.st b24, ⟨by simp [exP], by simp [exP]⟩, by simp [exP]⟩, hb _ _ (by omega) bW⟩)
  have hz2 : w.heap.size + 1 + 1 = w.heap.size + 2 := rfl
  clear r1 r2 b12 b23 bW
  go_enter Try.func4, Try.ntmps4
  go_wp2_with (first | (refine wpList_boxStore rfl (ty := 31) (x := .tmp 1) (y := .tmp 12) (cells := #[.string ⟨#[112]⟩, .string ⟨#[97]⟩, .slice (some ⟨w.heap.size, 0, none⟩) 1 1, .int .i64 0, .int .i64 172800, .slice (some ⟨w.heap.size + 1, 0, none⟩) 1 1, .int .i64 1]) rfl BZ rfl rfl (by kernel_rfl) rfl (by kernel_rfl) ?_; intro w4 BP hoz6 hbz6; have p0 := BP.cell 0 (v := .string ⟨#[112]⟩) rfl; have p1 := BP.cell 1 (v := .string ⟨#[97]⟩) rfl; have p2 := BP.cell 2 (v := .slice (some ⟨w.heap.size, 0, none⟩) 1 1) rfl; have p3 := BP.cell 3 (v := .int .i64 0) rfl; have p4 := BP.cell 4 (v := .int .i64 172800) rfl; have p5 := BP.cell 5 (v := .slice (some ⟨w.heap.size + 1, 0, none⟩) 1 1) rfl; have p6 := BP.cell 6 (v := .int .i64 1) rfl))
  obtain ⟨hP, bW⟩ := HQ.out w4 BP hbz6
  have HP := Lib.hid hP
  have CA := Lib.hid (fun (X : World) (hX : Below w4.heap.size w4 X) => allowed_any (exP w.heap.size) sAB 3600 172800 (by show 4 ≤ 1000000; omega) (hP.st hX) (by show 1 ≤ 100000; omega) (by omega) (by omega) (by omega) (by omega))
  have CC := Lib.hid (fun (X : World) (hX : Below w4.heap.size w4 X) (g : Nat) (hg : Rd encPm 7 X X.heap.size (some ⟨g, 0, none⟩) [exP w.heap.size]) => covered_any (A := some ⟨g, 0, none⟩) 1 sAB sa 3600 172800 (by show 4 ≤ 1000000; omega) hg (fun p hp => by simp only [List.mem_singleton] at hp; subst hp; exact hP.st hX) (by simp) (fun p hp => by simp only [List.mem_singleton] at hp; subst hp; show 1 ≤ 100000; omega) (by omega) (by omega) (by omega) (by omega))
  have CX := Lib.hid (fun (X : World) (hX : Below w4.heap.size w4 X) (g : Nat) (hg : Rd encSt 5 X X.heap.size (some ⟨g, 0, none⟩) exS) => excess1 (exP w.heap.size) (A := some ⟨g, 0, none⟩) 3 (hP.st hX) (by show 1 ≤ 100000; omega) hg (by simp [exS]) (fun s hs => by simp only [exS, List.mem_cons, List.not_mem_nil, or_false] at hs; rcases hs with rfl | rfl | rfl <;> (show 4 ≤ 1000000; omega)))
  have CK := Lib.hid (fun (X : World) (hX : Below w4.heap.size w4 X) (B : Option Addr) (c : Nat) (l : List Zn) (hZ : Rd encZ 7 X X.heap.size B l) (hZo : ZsOk X l) (hZs : ∀ z ∈ l, small z) (hZl : l.length ≤ 1000) => check_ex sp sa sAB (some ⟨w.heap.size, 0, none⟩) 1 0 172800 (some ⟨w.heap.size + 1, 0, none⟩) 1 (1, 0, 720) 1 c ex1.1 ex1.2.1 ex1.2.2.1 (by show 4 ≤ 1000000; omega) (hP.st hX).1 (by omega) ex1.2.2.2.2 (hP.st hX).2.1 ex1.2.2.2.1 (by omega) hZ hZo hZs hZl)
  have CV := Lib.hid (fun (s : ByteArray) (q : s.size ≤ 1000000) (t : Int) (X : World) (hX : Below w4.heap.size w4 X) => validP_any (exP w.heap.size) s t q (hP.st hX) (by show 1 ≤ 100000; omega))
  have CS := Lib.hid stay_any
  simp only [PmV, exP, StV, st, List.length_cons, List.length_nil, Nat.zero_add] at CA CC CX CK CV CS
  have bM := Below.refl w4.heap.size w4
  clear hP HQ hoz6 hbz6 hY1 hY2 hY3 BZ HP
  refine (CA.out _ bM).mono ?_
  rintro e w5 ⟨A5, c5, n5, rfl, nf5, hm5, r5, hbn⟩
  have bM := bM.st hbn
  have BP := BP.below hbn BP.lt
  have p0 := BP.cell 0 (v := .string ⟨#[112]⟩) rfl; have p1 := BP.cell 1 (v := .string ⟨#[97]⟩) rfl; have p2 := BP.cell 2 (v := .slice (some ⟨w.heap.size, 0, none⟩) 1 1) rfl; have p3 := BP.cell 3 (v := .int .i64 0) rfl; have p4 := BP.cell 4 (v := .int .i64 172800) rfl; have p5 := BP.cell 5 (v := .slice (some ⟨w.heap.size + 1, 0, none⟩) 1 1) rfl; have p6 := BP.cell 6 (v := .int .i64 1) rfl
  obtain rfl : n5 = [((3600, 43200) : Iv)] := nf5.unique nf1 fun t => (hm5 t).trans (ex7 w.heap.size t)
  clear hbn nf5 hm5 CA
  obtain ⟨Y6, hY6⟩ : ∃ Y, w5.alloc (.cells #[.string ⟨#[112]⟩, .string ⟨#[97]⟩, .slice (some ⟨w.heap.size, 0, none⟩) 1 1, .int .i64 0, .int .i64 172800, .slice (some ⟨w.heap.size + 1, 0, none⟩) 1 1, .int .i64 1] 31) = Y := ⟨_, rfl⟩
  have r6 : Rd encPm 7 Y6 Y6.heap.size (some ⟨w5.heap.size, 0, none⟩) [exP w.heap.size] := by rw [← hY6]; exact Rd.lit w5 _ encPm_ok rfl (by simp)
  have hbn : Below w5.heap.size w5 Y6 := by rw [← hY6]; exact (Below.refl _ _).al _
  have bM := bM.st hbn
  have BP := BP.below hbn BP.lt
  have r5 := r5.st hbn
  have CC := Lib.hid (CC.out _ bM _ r6)
  clear hbn r6
  go_wp2_with fail
  refine CC.out.mono ?_
  rintro e w7 ⟨A7, c7, n7, rfl, nf7, hm7, r7, hbn⟩
  have bM := bM.st hbn
  have BP := BP.below hbn BP.lt
  have r5 := r5.st hbn
  obtain rfl : n7 = [((3600, 43200) : Iv)] := nf7.unique nf1 fun t => (hm7 t).trans (ex8 w.heap.size t)
  clear hbn nf7 hm7 CC hY6
  go_wp2_with fail
  have HBP := Lib.hid BP
  have HR5 := Lib.hid r5
  have HR7 := Lib.hid r7
  have HBM := Lib.hid bM
  refine wp_region_held_drew (S := (fun w' : World => Blk w' (w.heap.size + 2) #[.string ⟨#[112]⟩, .string ⟨#[97]⟩, .slice (some ⟨w.heap.size, 0, none⟩) 1 1, .int .i64 0, .int .i64 172800, .slice (some ⟨w.heap.size + 1, 0, none⟩) 1 1, .int .i64 1] 31)) (by kernel_rfl) ?_ (fun hHeld => ?_)
  · exact HBP.out
  have hSS : (fun w' : World => Blk w' (w.heap.size + 2) #[.string ⟨#[112]⟩, .string ⟨#[97]⟩, .slice (some ⟨w.heap.size, 0, none⟩) 1 1, .int .i64 0, .int .i64 172800, .slice (some ⟨w.heap.size + 1, 0, none⟩) 1 1, .int .i64 1] 31) w7.drew := HBP.out.drew
  have HBP := Lib.hid HBP.out.drew
  have HBM := Lib.hid (below_drew HBM.out)
  have HR5 := Lib.hid (rd_drew HR5.out)
  have HR7 := Lib.hid (rd_drew HR7.out)
  clear BP r5 r7 bM p0 p1 p2 p3 p4 p5 p6
  generalize w7.drew = W0 at hSS hHeld HBP HBM HR5 HR7 ⊢
  change wpAnyH _ _ _ _ _ 10 _ _ _
  refine wpAnyH_take (i := 0) (v := .agg #[.string ⟨#[112]⟩, .string ⟨#[97]⟩, .slice (some ⟨w.heap.size, 0, none⟩) 1 1, .int .i64 0, .int .i64 172800, .slice (some ⟨w.heap.size + 1, 0, none⟩) 1 1, .int .i64 1]) (by simp only [List.getElem?_toArray, List.getElem?_cons_zero, List.getElem?_cons_succ]; rfl) (by kernel_rfl) (by kernel_rfl) (by kernel_rfl) (by intro _ _ _ h; exact h) (yieldsIf_boxLoad (by rfl) rfl rfl (fun _ hw => hw) ⟨_, Try.underlying31, by kernel_rfl⟩) (by assumption) ?_; (try simp only [Act.put, List.setIfInBounds_toArray, List.set_cons_zero, List.set_cons_succ, List.getElem_toArray, List.getElem_cons_zero, List.getElem_cons_succ])
  refine wpAnyH_take (i := 1) (v := ?_) (by simp only [List.getElem?_toArray, List.getElem?_cons_zero, List.getElem?_cons_succ]; rfl) (by kernel_rfl) (by kernel_rfl) (by kernel_rfl) (by intro _ _ _ h; exact h) (Or.inl ⟨by rfl, ?_⟩) (by assumption) ?_; rotate_left; (focus (intro w1 hSw; (try dsimp only at hSw); go_simp; (try with_reducible rfl))); (try simp only [Act.put, List.setIfInBounds_toArray, List.set_cons_zero, List.set_cons_succ, List.getElem_toArray, List.getElem_cons_zero, List.getElem_cons_succ])
  refine wpAnyH_take (i := 3) (v := ?_) (by simp only [List.getElem?_toArray, List.getElem?_cons_zero, List.getElem?_cons_succ]; rfl) (by kernel_rfl) (by kernel_rfl) (by kernel_rfl) (by intro _ _ _ h; exact h) (Or.inl ⟨by rfl, ?_⟩) (by assumption) ?_; rotate_left; (focus (intro w1 hSw; (try dsimp only at hSw); go_simp; (try with_reducible rfl))); (try simp only [Act.put, List.setIfInBounds_toArray, List.set_cons_zero, List.set_cons_succ, List.getElem_toArray, List.getElem_cons_zero, List.getElem_cons_succ])
  refine wpAnyH_take (i := 5) (v := ?_) (by simp only [List.getElem?_toArray, List.getElem?_cons_zero, List.getElem?_cons_succ]; rfl) (by kernel_rfl) (by kernel_rfl) (by kernel_rfl) (by intro _ _ _ h; exact h) (Or.inl ⟨by rfl, ?_⟩) (by assumption) ?_; rotate_left; (focus (intro w1 hSw; (try dsimp only at hSw); go_simp; (try with_reducible rfl))); (try simp only [Act.put, List.setIfInBounds_toArray, List.set_cons_zero, List.set_cons_succ, List.getElem_toArray, List.getElem_cons_zero, List.getElem_cons_succ])
  refine wpAnyH_ready (rs := [2]) (by kernel_rfl) (by simp) ?_; refine AllReadyH.cons (by simp only [List.getElem?_toArray, List.getElem?_cons_zero, List.getElem?_cons_succ]; rfl) (fun K hK => ?_) AllReadyH.nil; rw [if_pos (by rfl)]; go_wp2_with fail; refine (CS.out _ _ _ _).mono ?_; rintro e w1 ⟨rfl, hbn⟩; have HBP := Lib.hid (HBP.out.below hbn HBP.out.lt); have HBM := Lib.hid (HBM.out.st hbn); have HR5 := Lib.hid (HR5.out.st hbn); have HR7 := Lib.hid (HR7.out.st hbn); have hSS : (fun w' : World => Blk w' (w.heap.size + 2) #[.string ⟨#[112]⟩, .string ⟨#[97]⟩, .slice (some ⟨w.heap.size, 0, none⟩) 1 1, .int .i64 0, .int .i64 172800, .slice (some ⟨w.heap.size + 1, 0, none⟩) 1 1, .int .i64 1] 31) w1 := HBP.out; clear hbn; go_wp2_with fail; refine hK.out _ _ ?_ (fun hHeld => ?_); (focus exact hSS); clear hK K; (try simp only [Act.put, List.setIfInBounds_toArray, List.set_cons_zero, List.set_cons_succ, List.getElem_toArray, List.getElem_cons_zero, List.getElem_cons_succ])
  refine wpAnyH_ready (rs := [4]) (by kernel_rfl) (by simp) ?_; refine AllReadyH.cons (by simp only [List.getElem?_toArray, List.getElem?_cons_zero, List.getElem?_cons_succ]; rfl) (fun K hK => ?_) AllReadyH.nil; rw [if_pos (by rfl)]; go_wp2_with fail; refine (CS.out _ _ _ _).mono ?_; rintro e w2 ⟨rfl, hbn⟩; have HBP := Lib.hid (HBP.out.below hbn HBP.out.lt); have HBM := Lib.hid (HBM.out.st hbn); have HR5 := Lib.hid (HR5.out.st hbn); have HR7 := Lib.hid (HR7.out.st hbn); have hSS : (fun w' : World => Blk w' (w.heap.size + 2) #[.string ⟨#[112]⟩, .string ⟨#[97]⟩, .slice (some ⟨w.heap.size, 0, none⟩) 1 1, .int .i64 0, .int .i64 172800, .slice (some ⟨w.heap.size + 1, 0, none⟩) 1 1, .int .i64 1] 31) w2 := HBP.out; clear hbn; go_wp2_with fail; refine hK.out _ _ ?_ (fun hHeld => ?_); (focus exact hSS); clear hK K; (try simp only [Act.put, List.setIfInBounds_toArray, List.set_cons_zero, List.set_cons_succ, List.getElem_toArray, List.getElem_cons_zero, List.getElem_cons_succ])
  refine wpAnyH_ready (rs := [6]) (by kernel_rfl) (by simp) ?_; refine AllReadyH.cons (by simp only [List.getElem?_toArray, List.getElem?_cons_zero, List.getElem?_cons_succ]; rfl) (fun K hK => ?_) AllReadyH.nil; rw [if_pos (by rfl)]; go_wp2_with fail; refine (CS.out _ _ _ _).mono ?_; rintro e w3 ⟨rfl, hbn⟩; have HBP := Lib.hid (HBP.out.below hbn HBP.out.lt); have HBM := Lib.hid (HBM.out.st hbn); have HR5 := Lib.hid (HR5.out.st hbn); have HR7 := Lib.hid (HR7.out.st hbn); have hSS : (fun w' : World => Blk w' (w.heap.size + 2) #[.string ⟨#[112]⟩, .string ⟨#[97]⟩, .slice (some ⟨w.heap.size, 0, none⟩) 1 1, .int .i64 0, .int .i64 172800, .slice (some ⟨w.heap.size + 1, 0, none⟩) 1 1, .int .i64 1] 31) w3 := HBP.out; clear hbn; go_wp2_with fail; refine hK.out _ _ ?_ (fun hHeld => ?_); (focus exact hSS); clear hK K; (try simp only [Act.put, List.setIfInBounds_toArray, List.set_cons_zero, List.set_cons_succ, List.getElem_toArray, List.getElem_cons_zero, List.getElem_cons_succ])
  obtain ⟨Y8, hY8⟩ : ∃ Y, w3.alloc (.cells #[.string ⟨#[122]⟩, .string ⟨#[97]⟩, .string ⟨#[65, 66, 49, 50]⟩, .int .i64 100, .int .i64 200, .string ⟨#[121]⟩, .string ⟨#[97]⟩, .string ⟨#[65, 66, 49, 50]⟩, .int .i64 50, .int .i64 150, .string ⟨#[120]⟩, .string ⟨#[97]⟩, .string ⟨#[65, 66, 49, 50]⟩, .int .i64 0, .int .i64 100] 44) = Y := ⟨_, rfl⟩
  have r8 : Rd encSt 5 Y8 Y8.heap.size (some ⟨w3.heap.size, 0, none⟩) exS := by rw [← hY8]; exact Rd.lit w3 _ encSt_ok rfl (by simp [exS])
  have hbn : Below w3.heap.size w3 Y8 := by rw [← hY8]; exact (Below.refl _ _).al _
  have HBP := Lib.hid (HBP.out.below hbn HBP.out.lt)
  have HBM := Lib.hid (HBM.out.st hbn)
  have HR5 := Lib.hid (HR5.out.st hbn)
  have HR7 := Lib.hid (HR7.out.st hbn)
  have hSS : (fun w' : World => Blk w' (w.heap.size + 2) #[.string ⟨#[112]⟩, .string ⟨#[97]⟩, .slice (some ⟨w.heap.size, 0, none⟩) 1 1, .int .i64 0, .int .i64 172800, .slice (some ⟨w.heap.size + 1, 0, none⟩) 1 1, .int .i64 1] 31) Y8 := HBP.out
  have CXX := Lib.hid (CX.out _ HBM.out _ r8)
  have hex3 : exS.length = 3 := rfl
  rw [hex3] at CXX
  clear r8 hbn CX hex3
  refine wpAnyH_ready (rs := [7]) (by kernel_rfl) (by simp) ?_; refine AllReadyH.cons (by simp only [List.getElem?_toArray, List.getElem?_cons_zero, List.getElem?_cons_succ]; rfl) (fun K hK => ?_) AllReadyH.nil
  rw [if_pos (by rfl)]
  go_wp2_with fail
  refine hK.out _ _ ?_ (fun hHeld => ?_)
  · exact hSS
  clear hK K hY8
  (try simp only [Act.put, List.setIfInBounds_toArray, List.set_cons_zero, List.set_cons_succ, List.getElem_toArray, List.getElem_cons_zero, List.getElem_cons_succ])
  refine wpAnyH_ready (rs := [8]) (by kernel_rfl) (by simp) ?_; refine AllReadyH.cons (by simp only [List.getElem?_toArray, List.getElem?_cons_zero, List.getElem?_cons_succ]; rfl) (fun K hK => ?_) AllReadyH.nil
  rw [if_pos (by rfl)]; go_wp2_with fail
  refine CXX.out.mono ?_
  rintro e w9 ⟨A9, c9, l9, hst, rfl, r9, hbn⟩
  have hst2 : StabOf (ltOf cmpSt) (exS.filter (okS (exP w.heap.size))) l9 := hst
  rw [ex5] at hst2
  have e9 := ex6 hst2
  rw [e9] at r9 ⊢
  have HR9 := Lib.hid r9
  have HBP := Lib.hid (HBP.out.below hbn HBP.out.lt)
  have HBM := Lib.hid (HBM.out.st hbn)
  have HR5 := Lib.hid (HR5.out.st hbn)
  have HR7 := Lib.hid (HR7.out.st hbn)
  have hSS : (fun w' : World => Blk w' (w.heap.size + 2) #[.string ⟨#[112]⟩, .string ⟨#[97]⟩, .slice (some ⟨w.heap.size, 0, none⟩) 1 1, .int .i64 0, .int .i64 172800, .slice (some ⟨w.heap.size + 1, 0, none⟩) 1 1, .int .i64 1] 31) w9 := HBP.out
  clear hst hst2 e9 r9 hbn CXX
  simp only [List.length_cons, List.length_nil, Nat.zero_add]
  go_wp2_with fail
  refine hK.out _ _ ?_ (fun hHeld => ?_)
  · exact hSS
  clear hK K
  (try simp only [Act.put, List.setIfInBounds_toArray, List.set_cons_zero, List.set_cons_succ, List.getElem_toArray, List.getElem_cons_zero, List.getElem_cons_succ])
  refine wpAnyH_take (i := 9) (v := ?_) (by simp only [List.getElem?_toArray, List.getElem?_cons_zero, List.getElem?_cons_succ]; rfl) (by kernel_rfl) (by kernel_rfl) (by kernel_rfl) (by intro _ _ _ h; exact h) (Or.inl ⟨by rfl, ?_⟩) (by assumption) ?_; rotate_left; (focus (intro w1 hSw; (try dsimp only at hSw); go_simp; (try with_reducible rfl))); (try simp only [Act.put, List.setIfInBounds_toArray, List.set_cons_zero, List.set_cons_succ, List.getElem_toArray, List.getElem_cons_zero, List.getElem_cons_succ])
  refine wpAnyH_done (by kernel_rfl) ?_ _
  have BP := HBP.out
  have bM := HBM.out
  have r5 := HR5.out
  have r7 := HR7.out
  have r9 := HR9.out
  have p0 := BP.cell 0 (v := .string ⟨#[112]⟩) rfl; have p1 := BP.cell 1 (v := .string ⟨#[97]⟩) rfl; have p2 := BP.cell 2 (v := .slice (some ⟨w.heap.size, 0, none⟩) 1 1) rfl; have p3 := BP.cell 3 (v := .int .i64 0) rfl; have p4 := BP.cell 4 (v := .int .i64 172800) rfl; have p5 := BP.cell 5 (v := .slice (some ⟨w.heap.size + 1, 0, none⟩) 1 1) rfl; have p6 := BP.cell 6 (v := .int .i64 1) rfl
  obtain ⟨Z1, hZ1⟩ : ∃ Y, w9.alloc (.cells #[.string ⟨#[97]⟩, .slice none 0 0, .slice none 0 0, .int .i64 0, .int .i64 0, .int .i64 0, .int .i64 0] 51) = Y := ⟨_, rfl⟩
  have rz : Rd encZ 7 Z1 Z1.heap.size (some ⟨w9.heap.size, 0, none⟩) exZ := by rw [← hZ1]; exact Rd.lit w9 _ encZ_ok rfl (by simp [exZ])
  have hbn : Below w9.heap.size w9 Z1 := by rw [← hZ1]; exact (Below.refl _ _).al _
  have r9 := r9.st hbn
  have bM := bM.st hbn; have BP := BP.below hbn BP.lt; have r5 := r5.st hbn; have r7 := r7.st hbn; have p0 := BP.cell 0 (v := .string ⟨#[112]⟩) rfl; have p1 := BP.cell 1 (v := .string ⟨#[97]⟩) rfl; have p2 := BP.cell 2 (v := .slice (some ⟨w.heap.size, 0, none⟩) 1 1) rfl; have p3 := BP.cell 3 (v := .int .i64 0) rfl; have p4 := BP.cell 4 (v := .int .i64 172800) rfl; have p5 := BP.cell 5 (v := .slice (some ⟨w.heap.size + 1, 0, none⟩) 1 1) rfl; have p6 := BP.cell 6 (v := .int .i64 1) rfl
  have CK1 := Lib.hid (CK.out Z1 bM (some ⟨w9.heap.size, 0, none⟩) 1 exZ rz (fun z hz => by simp only [exZ, List.mem_singleton] at hz; subst hz; exact ⟨Rd.nil, Rd.nil⟩) (fun z hz => by simp only [exZ, List.mem_singleton] at hz; subst hz; exact ⟨by simp, by simp⟩) (by simp [exZ]))
  rw [ex4] at CK1
  have hz1 : exZ.length = 1 := rfl
  rw [hz1] at CK1
  clear HBP HBM HR5 HR7 HR9 rz hbn hSS hHeld hz1
  go_wp2_with fail
  refine CK1.out.mono ?_
  rintro e w10 ⟨rfl, hbn⟩
  have r9 := r9.st hbn
  have bM := bM.st hbn; have BP := BP.below hbn BP.lt; have r5 := r5.st hbn; have r7 := r7.st hbn; have p0 := BP.cell 0 (v := .string ⟨#[112]⟩) rfl; have p1 := BP.cell 1 (v := .string ⟨#[97]⟩) rfl; have p2 := BP.cell 2 (v := .slice (some ⟨w.heap.size, 0, none⟩) 1 1) rfl; have p3 := BP.cell 3 (v := .int .i64 0) rfl; have p4 := BP.cell 4 (v := .int .i64 172800) rfl; have p5 := BP.cell 5 (v := .slice (some ⟨w.heap.size + 1, 0, none⟩) 1 1) rfl; have p6 := BP.cell 6 (v := .int .i64 1) rfl
  have CK0 := Lib.hid (CK.out w10 bM none 0 [] Rd.nil (fun z hz => by cases hz) (fun z hz => by cases hz) (by simp))
  rw [show (findZ [] sa).isSome = false from rfl] at CK0
  clear CK CK1 hbn hZ1
  go_wp2_with fail
  refine CK0.out.mono ?_
  rintro e w11 ⟨rfl, hbn⟩
  have r9 := r9.st hbn
  have bM := bM.st hbn; have BP := BP.below hbn BP.lt; have r5 := r5.st hbn; have r7 := r7.st hbn; have p0 := BP.cell 0 (v := .string ⟨#[112]⟩) rfl; have p1 := BP.cell 1 (v := .string ⟨#[97]⟩) rfl; have p2 := BP.cell 2 (v := .slice (some ⟨w.heap.size, 0, none⟩) 1 1) rfl; have p3 := BP.cell 3 (v := .int .i64 0) rfl; have p4 := BP.cell 4 (v := .int .i64 172800) rfl; have p5 := BP.cell 5 (v := .slice (some ⟨w.heap.size + 1, 0, none⟩) 1 1) rfl; have p6 := BP.cell 6 (v := .int .i64 1) rfl
  have CV1 := Lib.hid (CV.out sab (by show 5 ≤ 1000000; omega) 43199)
  have CV2 := Lib.hid (CV.out sAB (by show 4 ≤ 1000000; omega) 43200)
  have CV3 := Lib.hid (CV.out sA3 (by show 4 ≤ 1000000; omega) 0)
  have e1 := (ex2 w.heap.size).1
  have e2 := (ex2 w.heap.size).2.1
  have e3 := (ex2 w.heap.size).2.2
  simp only [exP] at e1 e2 e3
  rw [e1] at CV1
  rw [e2] at CV2
  rw [e3] at CV3
  clear CK0 hbn CV e1 e2 e3
  go_wp2_with fail
  refine (CV1.out _ bM).mono ?_
  rintro e w12 ⟨rfl, hbn⟩
  have r9 := r9.st hbn
  have bM := bM.st hbn; have BP := BP.below hbn BP.lt; have r5 := r5.st hbn; have r7 := r7.st hbn; have p0 := BP.cell 0 (v := .string ⟨#[112]⟩) rfl; have p1 := BP.cell 1 (v := .string ⟨#[97]⟩) rfl; have p2 := BP.cell 2 (v := .slice (some ⟨w.heap.size, 0, none⟩) 1 1) rfl; have p3 := BP.cell 3 (v := .int .i64 0) rfl; have p4 := BP.cell 4 (v := .int .i64 172800) rfl; have p5 := BP.cell 5 (v := .slice (some ⟨w.heap.size + 1, 0, none⟩) 1 1) rfl; have p6 := BP.cell 6 (v := .int .i64 1) rfl
  clear hbn CV1
  go_wp2_with fail
  refine (CV2.out _ bM).mono ?_
  rintro e w13 ⟨rfl, hbn⟩
  have r9 := r9.st hbn
  have bM := bM.st hbn; have BP := BP.below hbn BP.lt; have r5 := r5.st hbn; have r7 := r7.st hbn; have p0 := BP.cell 0 (v := .string ⟨#[112]⟩) rfl; have p1 := BP.cell 1 (v := .string ⟨#[97]⟩) rfl; have p2 := BP.cell 2 (v := .slice (some ⟨w.heap.size, 0, none⟩) 1 1) rfl; have p3 := BP.cell 3 (v := .int .i64 0) rfl; have p4 := BP.cell 4 (v := .int .i64 172800) rfl; have p5 := BP.cell 5 (v := .slice (some ⟨w.heap.size + 1, 0, none⟩) 1 1) rfl; have p6 := BP.cell 6 (v := .int .i64 1) rfl
  clear hbn CV2
  go_wp2_with fail
  refine (CV3.out _ bM).mono ?_
  rintro e w14 ⟨rfl, hbn⟩
  have r9 := r9.st hbn
  have bM := bM.st hbn; have BP := BP.below hbn BP.lt; have r5 := r5.st hbn; have r7 := r7.st hbn; have p0 := BP.cell 0 (v := .string ⟨#[112]⟩) rfl; have p1 := BP.cell 1 (v := .string ⟨#[97]⟩) rfl; have p2 := BP.cell 2 (v := .slice (some ⟨w.heap.size, 0, none⟩) 1 1) rfl; have p3 := BP.cell 3 (v := .int .i64 0) rfl; have p4 := BP.cell 4 (v := .int .i64 172800) rfl; have p5 := BP.cell 5 (v := .slice (some ⟨w.heap.size + 1, 0, none⟩) 1 1) rfl; have p6 := BP.cell 6 (v := .int .i64 1) rfl
  clear hbn CV3
  obtain ⟨Z2, hZ2⟩ : ∃ Y, w14.alloc (.cells #[.int .i64 3600, .int .i64 43200] 26) = Y := ⟨_, rfl⟩
  have rz : Rd encIv 2 Z2 Z2.heap.size (some ⟨w14.heap.size, 0, none⟩) [((3600, 43200) : Iv)] := by rw [← hZ2]; exact Rd.lit w14 _ encIv_ok rfl (by simp)
  have hbn : Below w14.heap.size w14 Z2 := by rw [← hZ2]; exact (Below.refl _ _).al _
  have r9 := r9.st hbn
  have bM := bM.st hbn; have BP := BP.below hbn BP.lt; have r5 := r5.st hbn; have r7 := r7.st hbn; have p0 := BP.cell 0 (v := .string ⟨#[112]⟩) rfl; have p1 := BP.cell 1 (v := .string ⟨#[97]⟩) rfl; have p2 := BP.cell 2 (v := .slice (some ⟨w.heap.size, 0, none⟩) 1 1) rfl; have p3 := BP.cell 3 (v := .int .i64 0) rfl; have p4 := BP.cell 4 (v := .int .i64 172800) rfl; have p5 := BP.cell 5 (v := .slice (some ⟨w.heap.size + 1, 0, none⟩) 1 1) rfl; have p6 := BP.cell 6 (v := .int .i64 1) rfl
  have CS1 := Lib.hid (sameSpans_true c5 1 r5 rz (by simp))
  clear rz hbn p0 p1 p2 p3 p4 p5 p6
  simp only [List.length_cons, List.length_nil, Nat.zero_add] at CS1
  go_wp2_with fail
  refine CS1.out.mono ?_
  rintro e w15 ⟨rfl, hbn⟩
  have r9 := r9.st hbn
  have r5 := r5.st hbn
  have r7 := r7.st hbn
  have bM := bM.st hbn
  have CS2 := Lib.hid (sameSpans_true c7 c5 r7 r5 (by simp))
  simp only [List.length_cons, List.length_nil, Nat.zero_add] at CS2
  clear hbn CS1 hZ2
  go_wp2_with fail
  refine CS2.out.mono ?_
  rintro e w16 ⟨rfl, hbn⟩
  have r9 := r9.st hbn
  have bM := bM.st hbn
  clear hbn CS2
  obtain ⟨Z3, hZ3⟩ : ∃ Y, w16.alloc (.cells #[.string ⟨#[121]⟩] 9) = Y := ⟨_, rfl⟩
  have rz : Rd encStr 1 Z3 Z3.heap.size (some ⟨w16.heap.size, 0, none⟩) [⟨#[121]⟩] := by rw [← hZ3]; exact Rd.lit w16 _ encStr_ok rfl (by simp)
  have hbn : Below w16.heap.size w16 Z3 := by rw [← hZ3]; exact (Below.refl _ _).al _
  have r9 := r9.st hbn
  have bM := bM.st hbn
  have CT := Lib.hid (sameTexts_true c9 1 r9 rz (by simp))
  simp only [List.length_cons, List.length_nil, Nat.zero_add] at CT
  clear hbn rz
  go_wp2_with fail
  refine CT.out.mono ?_
  rintro e w17 ⟨rfl, hbn⟩
  have bM := bM.st hbn
  have bW := bW.st bM
  clear hbn CT
  go_wp2_with fail
  go_ret
  exact ⟨rfl, bW⟩
end Go.Proofs.Ytbeoopofckbijaa
