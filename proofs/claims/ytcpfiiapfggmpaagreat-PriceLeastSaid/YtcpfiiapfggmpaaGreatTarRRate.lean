/- The reference's price of a class, walked. -/
import Derived.Test.YtcpfiiapfggmpaaGreatJTarRAt
set_option linter.unusedSimpArgs false
set_option linter.unusedSimpArgs false
namespace Go.Proofs.YtcpfiiapfggmpaaGreat
open Go.RowKit Go.Lib

def ofV (o : Option Int) : Value := match o with
  | some n => .tuple #[.int .i64 n, .bool true]
  | none => .tuple #[.int .i64 0, .bool false]
set_option maxRecDepth 100000 in
set_option maxHeartbeats 8000000 in
theorem rof_any {bA rA : Option Addr} (f t cls : Int) (fr to bd : ByteArray) (bc rc : Nat) {bs : List Bd} {rs : List Rt} {w : World} (hr : Rd encRt 5 w w.heap.size rA rs) (hrl : rs.length ≤ 1000000) :
    Calls Tryz.prog 81 #[.agg #[.int .i64 f, .int .i64 t, .slice bA bs.length bc, .slice rA rs.length rc], .string fr, .string to, .int .i64 cls, .string bd] w fun e w' => e = .returned (ofV (ofM (rtB fr to cls bd) rs)) ∧ Below w.heap.size w w' := by
  obtain ⟨Y1, hY1⟩ : ∃ Y, w.alloc (.cells #[.int .i64 f, .int .i64 t, .slice bA bs.length bc, .slice rA rs.length rc] 104) = Y := ⟨_, rfl⟩
  have b1 : Below w.heap.size w Y1 := by rw [← hY1]; exact (Below.refl _ w).al _
  have B1 : Blk Y1 w.heap.size #[.int .i64 f, .int .i64 t, .slice bA bs.length bc, .slice rA rs.length rc] 104 := by rw [← hY1]; exact Blk.new w _ _
  have HBT := Lib.hid B1
  have y3 := B1.cell 3 (v := .slice rA rs.length rc) rfl
  have HR := Lib.hid (hr.st b1)
  clear hr B1
  go_enter Tryz.func81, Tryz.ntmps81
  go_wp2_with fail
  go_loopw [12] (fun i wr => ∃ k : Nat, k ≤ rs.length ∧ i = .int .i64 k ∧ Hid (ofM (rtB fr to cls bd) (rs.drop k) = ofM (rtB fr to cls bd) rs) ∧ Below Y1.heap.size Y1 wr) (fun i _ => rs.length - (RowKit.intOf i).toNat)
  case atStart => exact ⟨0, Nat.zero_le _, rfl, rfl, Below.refl _ _⟩
  case round =>
    obtain ⟨k, hk, rfl, HK, bR⟩ := hrel
    have k1 : (0 : Int) ≤ (k : Int) := by omega
    have z3 := (HBT.out.below bR HBT.out.lt).cell 3 (v := .slice rA rs.length rc) rfl
    by_cases hi : k < rs.length
    · have k2 : (k : Int) < (rs.length : Int) := by omega
      obtain ⟨b, off, r, hA, hbb, hx, d0, d1, d2, d3, d4⟩ := (HR.out.st bR).rt hi
      subst hA
      have HI := Lib.hid hi
      have HT := Lib.hid (ofM_at (q := rtB fr to cls bd) hx)
      obtain ⟨Y2, hY2⟩ : ∃ Y, wr.alloc (.cells #[.string r.fr, .string r.to, .int .i64 r.cls, .string r.bd, .int .i64 r.ct] 107) = Y := ⟨_, rfl⟩
      have BX : Blk Y2 wr.heap.size #[.string r.fr, .string r.to, .int .i64 r.cls, .string r.bd, .int .i64 r.ct] 107 := by rw [← hY2]; exact Blk.new wr _ _
      have bR2 : Below Y1.heap.size Y1 Y2 := by rw [← hY2]; exact bR.al _
      have x0 := BX.cell 0 (v := .string r.fr) rfl
      have x1 := BX.cell 1 (v := .string r.to) rfl
      have x2 := BX.cell 2 (v := .int .i64 r.cls) rfl
      have x3 := BX.cell 3 (v := .string r.bd) rfl
      have x4 := BX.cell 4 (v := .int .i64 r.ct) rfl
      have g1 : (r.fr.toList == fr.toList) = eqS r.fr fr := rfl
      have g2 : (r.to.toList == to.toList) = eqS r.to to := rfl
      have g4 : (r.bd.toList == bd.toList) = eqS r.bd bd := rfl
      clear hx hi hbb bR BX
      cases q1 : eqS r.fr fr
      · rw [q1] at g1
        (have R : Hid (ofM (rtB fr to cls bd) (rs.drop (k + 1)) = ofM (rtB fr to cls bd) rs) := Lib.hid (by rw [← HK.out, HT.out, if_neg (by unfold rtB; simp [*])])); (clear HT HK); (go_wp2_with fail); (go_roundw); (case rel => exact ⟨k + 1, HI.out, by go_num, R, bR2⟩); (case measure => have := HI.out; simp [RowKit.intOf]; omega)
      rw [q1] at g1
      cases q2 : eqS r.to to
      · rw [q2] at g2
        (have R : Hid (ofM (rtB fr to cls bd) (rs.drop (k + 1)) = ofM (rtB fr to cls bd) rs) := Lib.hid (by rw [← HK.out, HT.out, if_neg (by unfold rtB; simp [*])])); (clear HT HK); (go_wp2_with fail); (go_roundw); (case rel => exact ⟨k + 1, HI.out, by go_num, R, bR2⟩); (case measure => have := HI.out; simp [RowKit.intOf]; omega)
      rw [q2] at g2
      cases q3 : (r.cls == cls)
      · (have R : Hid (ofM (rtB fr to cls bd) (rs.drop (k + 1)) = ofM (rtB fr to cls bd) rs) := Lib.hid (by rw [← HK.out, HT.out, if_neg (by unfold rtB; simp [*])])); (clear HT HK); (go_wp2_with fail); (go_roundw); (case rel => exact ⟨k + 1, HI.out, by go_num, R, bR2⟩); (case measure => have := HI.out; simp [RowKit.intOf]; omega)
      cases q4 : eqS r.bd bd
      · rw [q4] at g4
        (have R : Hid (ofM (rtB fr to cls bd) (rs.drop (k + 1)) = ofM (rtB fr to cls bd) rs) := Lib.hid (by rw [← HK.out, HT.out, if_neg (by unfold rtB; simp [*])])); (clear HT HK); (go_wp2_with fail); (go_roundw); (case rel => exact ⟨k + 1, HI.out, by go_num, R, bR2⟩); (case measure => have := HI.out; simp [RowKit.intOf]; omega)
      rw [q4] at g4
      have R := Lib.hid (show ofM (rtB fr to cls bd) rs = some r.ct by rw [← HK.out, HT.out, if_pos (by unfold rtB; simp [*])])
      clear HT HK
      go_wp2_with fail
      go_ret2
      rw [R.out]
      exact ⟨rfl, b1.st bR2⟩
    · obtain rfl : k = rs.length := by omega
      have R := Lib.hid (show ofM (rtB fr to cls bd) rs = none by rw [← HK.out, List.drop_length]; rfl)
      clear HK
      go_wp2_with fail
      go_ret2
      rw [R.out]
      exact ⟨rfl, b1.st bR⟩

set_option maxRecDepth 100000 in
set_option maxHeartbeats 8000000 in
theorem rrate_any {bA rA : Option Addr} (f t x cls : Int) (fr to : ByteArray) (bc rc : Nat) {bs : List Bd} {rs : List Rt} {w : World} (hb : Rd encBd 4 w w.heap.size bA bs) (hr : Rd encRt 5 w w.heap.size rA rs) (hbl : bs.length ≤ 1000000) (hrl : rs.length ≤ 1000000) :
    Calls Tryz.prog 37 #[.agg #[.int .i64 f, .int .i64 t, .slice bA bs.length bc, .slice rA rs.length rc], .string fr, .string to, .int .i64 cls, .int .i64 x] w fun e w' => e = .returned (.tuple #[.int .i64 (rateM x fr to cls bs rs).1, .int .i64 (rateM x fr to cls bs rs).2]) ∧ Below w.heap.size w w' := by
  obtain ⟨Y1, hY1⟩ : ∃ Y, w.alloc (.cells #[.int .i64 f, .int .i64 t, .slice bA bs.length bc, .slice rA rs.length rc] 104) = Y := ⟨_, rfl⟩
  have b1 : Below w.heap.size w Y1 := by rw [← hY1]; exact (Below.refl _ w).al _
  have HBT : Hid (Blk Y1 w.heap.size #[.int .i64 f, .int .i64 t, .slice bA bs.length bc, .slice rA rs.length rc] 104) := Lib.hid (by rw [← hY1]; exact Blk.new w _ _)
  have HBW := Lib.hid b1
  have CB := Lib.hid (fun (X : World) (hX : Below w.heap.size w X) => rband_any f t x bc rs.length rc (rA := rA) (hb.st hX) hbl)
  have CO := Lib.hid (fun (bd : ByteArray) (X : World) (hX : Below w.heap.size w X) => rof_any f t cls fr to bd bc rc (bA := bA) (bs := bs) (hr.st hX) hrl)
  generalize hres : rateM x fr to cls bs rs = res
  have HS : Hid (rateL fr to cls rs [bandM x bs, ⟨#[]⟩] = res) := Lib.hid hres
  generalize bandM x bs = bj at *
  clear hr hb hres b1
  go_enter Tryz.func37, Tryz.ntmps37
  go_wp2_with fail
  refine wp_region_held_drew (S := (fun w' : World => Blk w' w.heap.size #[.int .i64 f, .int .i64 t, .slice bA bs.length bc, .slice rA rs.length rc] 104)) (by kernel_rfl) ?_ (fun hHeld => ?_)
  · exact HBT.out
  have hSS : (fun w' : World => Blk w' w.heap.size #[.int .i64 f, .int .i64 t, .slice bA bs.length bc, .slice rA rs.length rc] 104) Y1.drew := HBT.out.drew
  have HBT := Lib.hid HBT.out.drew
  have HBW : Hid (Below w.heap.size w Y1.drew) := Lib.hid (below_drewN HBW.out 1)
  clear hY1
  generalize Y1.drew = W0 at hSS hHeld HBT HBW ⊢
  change wpAnyH _ _ _ _ _ 13 _ _ _
  refine wpAnyH_take (i := 0) (v := .agg #[.int .i64 f, .int .i64 t, .slice bA bs.length bc, .slice rA rs.length rc]) (by simp only [List.getElem?_toArray, List.getElem?_cons_zero, List.getElem?_cons_succ]; rfl) (by kernel_rfl) (by kernel_rfl) (by kernel_rfl) (by intro _ _ _ h; exact h) (yieldsIf_boxLoad (by rfl) rfl rfl (fun _ hw => hw) ⟨_, Tryz.underlying104, by kernel_rfl⟩) (by assumption) ?_; (try simp only [Act.put, List.setIfInBounds_toArray, List.set_cons_zero, List.set_cons_succ, List.getElem_toArray, List.getElem_cons_zero, List.getElem_cons_succ])
  refine wpAnyH_take (i := 1) (v := ?_) (by simp only [List.getElem?_toArray, List.getElem?_cons_zero, List.getElem?_cons_succ]; rfl) (by kernel_rfl) (by kernel_rfl) (by kernel_rfl) (by intro _ _ _ h; exact h) (Or.inl ⟨by rfl, ?_⟩) (by assumption) ?_; rotate_left; (focus (intro w1 hSw; (try dsimp only at hSw); go_simp; (try with_reducible rfl))); (try simp only [Act.put, List.setIfInBounds_toArray, List.set_cons_zero, List.set_cons_succ, List.getElem_toArray, List.getElem_cons_zero, List.getElem_cons_succ])
  refine wpAnyH_take (i := 2) (v := ?_) (by simp only [List.getElem?_toArray, List.getElem?_cons_zero, List.getElem?_cons_succ]; rfl) (by kernel_rfl) (by kernel_rfl) (by kernel_rfl) (by intro _ _ _ h; exact h) (Or.inl ⟨by rfl, ?_⟩) (by assumption) ?_; rotate_left; (focus (intro w1 hSw; (try dsimp only at hSw); go_simp; (try with_reducible rfl))); (try simp only [Act.put, List.setIfInBounds_toArray, List.set_cons_zero, List.set_cons_succ, List.getElem_toArray, List.getElem_cons_zero, List.getElem_cons_succ])
  refine wpAnyH_take (i := 3) (v := ?_) (by simp only [List.getElem?_toArray, List.getElem?_cons_zero, List.getElem?_cons_succ]; rfl) (by kernel_rfl) (by kernel_rfl) (by kernel_rfl) (by intro _ _ _ h; exact h) (Or.inl ⟨by rfl, ?_⟩) (by assumption) ?_; rotate_left; (focus (intro w1 hSw; (try dsimp only at hSw); go_simp; (try with_reducible rfl))); (try simp only [Act.put, List.setIfInBounds_toArray, List.set_cons_zero, List.set_cons_succ, List.getElem_toArray, List.getElem_cons_zero, List.getElem_cons_succ])
  refine wpAnyH_take (i := 4) (v := .agg #[.int .i64 f, .int .i64 t, .slice bA bs.length bc, .slice rA rs.length rc]) (by simp only [List.getElem?_toArray, List.getElem?_cons_zero, List.getElem?_cons_succ]; rfl) (by kernel_rfl) (by kernel_rfl) (by kernel_rfl) (by intro _ _ _ h; exact h) (yieldsIf_boxLoad (by rfl) rfl rfl (fun _ hw => hw) ⟨_, Tryz.underlying104, by kernel_rfl⟩) (by assumption) ?_; (try simp only [Act.put, List.setIfInBounds_toArray, List.set_cons_zero, List.set_cons_succ, List.getElem_toArray, List.getElem_cons_zero, List.getElem_cons_succ])
  refine wpAnyH_take (i := 5) (v := ?_) (by simp only [List.getElem?_toArray, List.getElem?_cons_zero, List.getElem?_cons_succ]; rfl) (by kernel_rfl) (by kernel_rfl) (by kernel_rfl) (by intro _ _ _ h; exact h) (Or.inl ⟨by rfl, ?_⟩) (by assumption) ?_; rotate_left; (focus (intro w1 hSw; (try dsimp only at hSw); go_simp; (try with_reducible rfl))); (try simp only [Act.put, List.setIfInBounds_toArray, List.set_cons_zero, List.set_cons_succ, List.getElem_toArray, List.getElem_cons_zero, List.getElem_cons_succ])
  refine wpAnyH_ready (rs := [6]) (by kernel_rfl) (by simp) ?_; refine AllReadyH.cons (by simp only [List.getElem?_toArray, List.getElem?_cons_zero, List.getElem?_cons_succ]; rfl) (fun K hK => ?_) AllReadyH.nil
  rw [if_pos (by rfl)]; go_wp2_with fail
  refine (CB.out _ HBW.out).mono ?_
  rintro e W1 ⟨rfl, hbn⟩
  (have HBT := Lib.hid (HBT.out.below hbn HBT.out.lt)); (have HBW := Lib.hid (HBW.out.st hbn))
  clear hbn
  go_wp2_with fail
  refine hK.out _ _ ?_ (fun hHeld => ?_)
  · exact HBT.out
  clear hK K
  (try simp only [Act.put, List.setIfInBounds_toArray, List.set_cons_zero, List.set_cons_succ, List.getElem_toArray, List.getElem_cons_zero, List.getElem_cons_succ])
  have hSS : (fun w' : World => Blk w' w.heap.size #[.int .i64 f, .int .i64 t, .slice bA bs.length bc, .slice rA rs.length rc] 104) W1 := HBT.out
  refine wpAnyH_ready (rs := [7]) (by kernel_rfl) (by simp) ?_; refine AllReadyH.cons (by simp only [List.getElem?_toArray, List.getElem?_cons_zero, List.getElem?_cons_succ]; rfl) (fun K hK => ?_) AllReadyH.nil
  rw [if_pos (by rfl)]; go_wp2_with fail
  refine (CO.out bj _ HBW.out).mono ?_
  rintro e W2 ⟨rfl, hbn⟩
  (have HBT := Lib.hid (HBT.out.below hbn HBT.out.lt)); (have HBW := Lib.hid (HBW.out.st hbn))
  clear hbn
  cases ho : ofM (rtB fr to cls bj) rs with
  | some n =>
    have R := Lib.hid ((rateL_some (L := [⟨#[]⟩]) ho).symm.trans HS.out)
    clear ho HS
    simp only [ofV]
    go_wp2_with fail
    refine hK.out _ _ ?_ (fun hHeld => ?_)
    · exact HBT.out
    clear hK K
    (try simp only [Act.put, List.setIfInBounds_toArray, List.set_cons_zero, List.set_cons_succ, List.getElem_toArray, List.getElem_cons_zero, List.getElem_cons_succ])
    have hSS : (fun w' : World => Blk w' w.heap.size #[.int .i64 f, .int .i64 t, .slice bA bs.length bc, .slice rA rs.length rc] 104) W2 := HBT.out
    refine wpAnyH_take (i := 8) (v := ?_) (by simp only [List.getElem?_toArray, List.getElem?_cons_zero, List.getElem?_cons_succ]; rfl) (by kernel_rfl) (by kernel_rfl) (by kernel_rfl) (by intro _ _ _ h; exact h) (Or.inl ⟨by rfl, ?_⟩) (by assumption) ?_; rotate_left; (focus (intro w1 hSw; (try dsimp only at hSw); go_simp; (try with_reducible rfl))); (try simp only [Act.put, List.setIfInBounds_toArray, List.set_cons_zero, List.set_cons_succ, List.getElem_toArray, List.getElem_cons_zero, List.getElem_cons_succ])
    refine wpAnyH_take (i := 9) (v := ?_) (by simp only [List.getElem?_toArray, List.getElem?_cons_zero, List.getElem?_cons_succ]; rfl) (by kernel_rfl) (by kernel_rfl) (by kernel_rfl) (by intro _ _ _ h; exact h) (Or.inl ⟨by rfl, ?_⟩) (by assumption) ?_; rotate_left; (focus (intro w1 hSw; (try dsimp only at hSw); go_simp; (try with_reducible rfl))); (try simp only [Act.put, List.setIfInBounds_toArray, List.set_cons_zero, List.set_cons_succ, List.getElem_toArray, List.getElem_cons_zero, List.getElem_cons_succ])
    refine wpAnyH_take (i := 10) (v := ?_) (by simp only [List.getElem?_toArray, List.getElem?_cons_zero, List.getElem?_cons_succ]; rfl) (by kernel_rfl) (by kernel_rfl) (by kernel_rfl) (by intro _ _ _ h; exact h) (Or.inl ⟨by rfl, ?_⟩) (by assumption) ?_; rotate_left; (focus (intro w1 hSw; (try dsimp only at hSw); go_simp; (try with_reducible rfl))); (try simp only [Act.put, List.setIfInBounds_toArray, List.set_cons_zero, List.set_cons_succ, List.getElem_toArray, List.getElem_cons_zero, List.getElem_cons_succ])
    refine wpAnyH_take (i := 11) (v := ?_) (by simp only [List.getElem?_toArray, List.getElem?_cons_zero, List.getElem?_cons_succ]; rfl) (by kernel_rfl) (by kernel_rfl) (by kernel_rfl) (by intro _ _ _ h; exact h) (Or.inl ⟨by rfl, ?_⟩) (by assumption) ?_; rotate_left; (focus (intro w1 hSw; (try dsimp only at hSw); go_simp; (try with_reducible rfl))); (try simp only [Act.put, List.setIfInBounds_toArray, List.set_cons_zero, List.set_cons_succ, List.getElem_toArray, List.getElem_cons_zero, List.getElem_cons_succ])
    refine wpAnyH_take (i := 12) (v := ?_) (by simp only [List.getElem?_toArray, List.getElem?_cons_zero, List.getElem?_cons_succ]; rfl) (by kernel_rfl) (by kernel_rfl) (by kernel_rfl) (by intro _ _ _ h; exact h) (Or.inl ⟨by rfl, ?_⟩) (by assumption) ?_; rotate_left; (focus (intro w1 hSw; (try dsimp only at hSw); go_simp; (try with_reducible rfl))); (try simp only [Act.put, List.setIfInBounds_toArray, List.set_cons_zero, List.set_cons_succ, List.getElem_toArray, List.getElem_cons_zero, List.getElem_cons_succ])
    refine wpAnyH_done (by kernel_rfl) ?_ _
    have bW := HBW.out
    go_wp2_with fail
    go_ret2
    rw [← R.out]
    exact ⟨rfl, bW⟩
  | none =>
    have R := Lib.hid ((rateL_none (L := [⟨#[]⟩]) ho).symm.trans HS.out)
    clear ho HS
    simp only [ofV]
    go_wp2_with fail
    refine hK.out _ _ ?_ (fun hHeld => ?_)
    · exact HBT.out
    clear hK K
    (try simp only [Act.put, List.setIfInBounds_toArray, List.set_cons_zero, List.set_cons_succ, List.getElem_toArray, List.getElem_cons_zero, List.getElem_cons_succ])
    have hSS : (fun w' : World => Blk w' w.heap.size #[.int .i64 f, .int .i64 t, .slice bA bs.length bc, .slice rA rs.length rc] 104) W2 := HBT.out
    refine wpAnyH_take (i := 8) (v := ?_) (by simp only [List.getElem?_toArray, List.getElem?_cons_zero, List.getElem?_cons_succ]; rfl) (by kernel_rfl) (by kernel_rfl) (by kernel_rfl) (by intro _ _ _ h; exact h) (Or.inl ⟨by rfl, ?_⟩) (by assumption) ?_; rotate_left; (focus (intro w1 hSw; (try dsimp only at hSw); go_simp; (try with_reducible rfl))); (try simp only [Act.put, List.setIfInBounds_toArray, List.set_cons_zero, List.set_cons_succ, List.getElem_toArray, List.getElem_cons_zero, List.getElem_cons_succ])
    refine wpAnyH_take (i := 9) (v := ?_) (by simp only [List.getElem?_toArray, List.getElem?_cons_zero, List.getElem?_cons_succ]; rfl) (by kernel_rfl) (by kernel_rfl) (by kernel_rfl) (by intro _ _ _ h; exact h) (Or.inl ⟨by rfl, ?_⟩) (by assumption) ?_; rotate_left; (focus (intro w1 hSw; (try dsimp only at hSw); go_simp; (try with_reducible rfl))); (try simp only [Act.put, List.setIfInBounds_toArray, List.set_cons_zero, List.set_cons_succ, List.getElem_toArray, List.getElem_cons_zero, List.getElem_cons_succ])
    refine wpAnyH_take (i := 10) (v := ?_) (by simp only [List.getElem?_toArray, List.getElem?_cons_zero, List.getElem?_cons_succ]; rfl) (by kernel_rfl) (by kernel_rfl) (by kernel_rfl) (by intro _ _ _ h; exact h) (Or.inl ⟨by rfl, ?_⟩) (by assumption) ?_; rotate_left; (focus (intro w1 hSw; (try dsimp only at hSw); go_simp; (try with_reducible rfl))); (try simp only [Act.put, List.setIfInBounds_toArray, List.set_cons_zero, List.set_cons_succ, List.getElem_toArray, List.getElem_cons_zero, List.getElem_cons_succ])
    refine wpAnyH_take (i := 11) (v := ?_) (by simp only [List.getElem?_toArray, List.getElem?_cons_zero, List.getElem?_cons_succ]; rfl) (by kernel_rfl) (by kernel_rfl) (by kernel_rfl) (by intro _ _ _ h; exact h) (Or.inl ⟨by rfl, ?_⟩) (by assumption) ?_; rotate_left; (focus (intro w1 hSw; (try dsimp only at hSw); go_simp; (try with_reducible rfl))); (try simp only [Act.put, List.setIfInBounds_toArray, List.set_cons_zero, List.set_cons_succ, List.getElem_toArray, List.getElem_cons_zero, List.getElem_cons_succ])
    refine wpAnyH_take (i := 12) (v := ?_) (by simp only [List.getElem?_toArray, List.getElem?_cons_zero, List.getElem?_cons_succ]; rfl) (by kernel_rfl) (by kernel_rfl) (by kernel_rfl) (by intro _ _ _ h; exact h) (Or.inl ⟨by rfl, ?_⟩) (by assumption) ?_; rotate_left; (focus (intro w1 hSw; (try dsimp only at hSw); go_simp; (try with_reducible rfl))); (try simp only [Act.put, List.setIfInBounds_toArray, List.set_cons_zero, List.set_cons_succ, List.getElem_toArray, List.getElem_cons_zero, List.getElem_cons_succ])
    refine wpAnyH_done (by kernel_rfl) ?_ _
    have bW := HBW.out
    have z0 := HBT.out.cell 0 (v := .int .i64 f) rfl
    have z1 := HBT.out.cell 1 (v := .int .i64 t) rfl
    have z2 := HBT.out.cell 2 (v := .slice bA bs.length bc) rfl
    have z3 := HBT.out.cell 3 (v := .slice rA rs.length rc) rfl
    go_wp2_with fail
    refine (CO.out ⟨#[]⟩ _ bW).mono ?_
    rintro e W3 ⟨rfl, hbn⟩
    have bW := bW.st hbn
    clear z0 z1 z2 z3
    cases ho : ofM (rtB fr to cls ⟨#[]⟩) rs with
    | some n =>
      have R := Lib.hid ((rateL_some (L := []) ho).symm.trans R.out)
      clear ho
      simp only [ofV]
      go_wp2_with fail
      go_ret2
      rw [← R.out]
      exact ⟨rfl, bW⟩
    | none =>
      have R := Lib.hid ((rateL_none (L := []) ho).symm.trans R.out)
      clear ho
      simp only [ofV]
      go_wp2_with fail
      go_ret2
      rw [← R.out]
      exact ⟨rfl, bW⟩
end Go.Proofs.YtcpfiiapfggmpaaGreat
