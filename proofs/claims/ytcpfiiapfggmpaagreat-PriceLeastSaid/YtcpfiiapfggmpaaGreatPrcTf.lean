/- Tariffs as the awake test meets them: slices.Clone at bands and rates; tariff.At, Band, Rate at one tariff with one rate. -/
import Derived.Test.YtcpfiiapfggmpaaGreatJSumAny
import Derived.Shelf.SlicesE.Clone
import Derived.Deep.RegionWith
import Derived.Deep.RegionHeld3
import Derived.Laws.StructEq
import Derived.Outline
set_option linter.unusedSimpArgs false
set_option linter.unusedSimpArgs false
namespace Go.Proofs.YtcpfiiapfggmpaaGreat
open Go.RowKit Go.Lib

structure Rt where
  fr : ByteArray
  to : ByteArray
  cls : Int
  bd : ByteArray
  ct : Int
def encRt (r : Rt) : List Value := [.string r.fr, .string r.to, .int .i64 r.cls, .string r.bd, .int .i64 r.ct]
theorem encRt_ok : Enc encRt 5 := ⟨fun _ => rfl, fun x u hu => by simp [encRt] at hu; rcases hu with rfl | rfl | rfl | rfl | rfl <;> rfl⟩
theorem Rd.rt {w : World} {B : Nat} {A : Option Addr} {l : List Rt} (h : Rd encRt 5 w B A l) {i : Nat} (hi : i < l.length) :
    ∃ b off r, A = some ⟨b, off, none⟩ ∧ b < B ∧ l[i]? = some r ∧ w.cell? ⟨b, off + i * 5, none⟩ = some (.string r.fr) ∧ w.cell? ⟨b, off + i * 5 + 1, none⟩ = some (.string r.to) ∧ w.cell? ⟨b, off + i * 5 + 2, none⟩ = some (.int .i64 r.cls) ∧ w.cell? ⟨b, off + i * 5 + 3, none⟩ = some (.string r.bd) ∧ w.cell? ⟨b, off + i * 5 + 4, none⟩ = some (.int .i64 r.ct) := by
  obtain ⟨b, off, x, hA, hb, hx, hc⟩ := h.at_ hi
  exact ⟨b, off, x, hA, hb, hx, hc 0 _ rfl, hc 1 _ rfl, hc 2 _ rfl, hc 3 _ rfl, hc 4 _ rfl⟩
theorem tyRt : TyS Tryz.prog 102 107 5 64 := TyS.mk' (z := .agg #[.string ⟨#[]⟩, .string ⟨#[]⟩, .int .i64 0, .string ⟨#[]⟩, .int .i64 0]) Tryz.underlying102 (by kernel_rfl) rfl (by omega)
structure Tf where
  f : Int
  t : Int
  bA : Option Addr
  bl : Nat
  bc : Nat
  rA : Option Addr
  rc : Nat
  rs : List Rt
def encTf (x : Tf) : List Value := [.int .i64 x.f, .int .i64 x.t, .slice x.bA x.bl x.bc, .slice x.rA x.rs.length x.rc]
theorem Rd.tf {w : World} {B : Nat} {A : Option Addr} {l : List Tf} (h : Rd encTf 4 w B A l) {i : Nat} (hi : i < l.length) :
    ∃ b off x, A = some ⟨b, off, none⟩ ∧ b < B ∧ l[i]? = some x ∧ w.cell? ⟨b, off + i * 4, none⟩ = some (.int .i64 x.f) ∧ w.cell? ⟨b, off + i * 4 + 1, none⟩ = some (.int .i64 x.t) ∧ w.cell? ⟨b, off + i * 4 + 2, none⟩ = some (.slice x.bA x.bl x.bc) ∧ w.cell? ⟨b, off + i * 4 + 3, none⟩ = some (.slice x.rA x.rs.length x.rc) := by
  obtain ⟨b, off, x, hA, hb, hx, hc⟩ := h.at_ hi
  exact ⟨b, off, x, hA, hb, hx, hc 0 _ rfl, hc 1 _ rfl, hc 2 _ rfl, hc 3 _ rfl⟩
def TfV (x : Tf) : Value := .agg #[.int .i64 x.f, .int .i64 x.t, .slice x.bA x.bl x.bc, .slice x.rA x.rs.length x.rc]

set_option maxRecDepth 100000 in
set_option maxHeartbeats 2000000 in
theorem cloneRt_any {a : Addr} (c : Nat) {l : List Rt} {w : World} (h : Rd encRt 5 w w.heap.size (some a) l) (hl : l.length ≤ 1000000) :
    Calls Tryz.prog 78 #[.slice (some a) l.length c] w fun e w' => ∃ A' c', e = .returned (.slice A' l.length c') ∧ Own 107 encRt 5 w' w.heap.size A' c' l ∧ Below w.heap.size w w' := by
  have qn : ∀ (w : World) (a : Option Addr) (n c n' c' : Nat), (binOp .eql 102 (.slice a n c) (.slice none n' c')).run Tryz.prog w = .ok (.bool a.isNone) w := fun w a n c n' c' => Lib.run_eql_slice_nil w _ _ a n c n' c' Tryz.underlying102
  have H := Lib.hid h
  clear h
  have hown := Own.lit (e := 107) (cs := #[]) w w.heap.size ([] : List Rt) (g := w.heap.size) encRt_ok rfl rfl (Nat.le_refl _) (by simp)
  have hb0 := (Below.refl w.heap.size w).al (.cells #[] 107)
  have hr := H.out.st hb0
  have hbs : w.heap.size ≤ (w.alloc (.cells #[] 107)).heap.size := by simp
  go_enter Tryz.func78, Tryz.ntmps78
  go_wp2_with (at_builtin; refine wpList_appS rfl (.tmp 5) (.tmp 6) tyRt encRt_ok rfl _ rfl (by first | rfl | simp) hown l rfl (by first | rfl | simp) hr (by first | omega | (simp; done) | (simp; omega)) (by first | omega | (simp; done) | (simp; omega)) hbs ?_; intro A4 c4 w4 hown4 hb4 hs4 hf4)
  go_ret
  exact ⟨A4, c4, by simp, by simpa using hown4, hb0.trans hb4⟩
set_option maxRecDepth 100000 in
set_option maxHeartbeats 2000000 in
theorem cloneBd_nil (w : World) : Calls Tryz.prog 77 #[.slice none 0 0] w fun e w' => e = .returned (.slice none 0 0) ∧ w' = w := by
  have qn : ∀ (w : World) (a : Option Addr) (n c n' c' : Nat), (binOp .eql 101 (.slice a n c) (.slice none n' c')).run Tryz.prog w = .ok (.bool a.isNone) w := fun w a n c n' c' => Lib.run_eql_slice_nil w _ _ a n c n' c' Tryz.underlying101
  go_enter Tryz.func77, Tryz.ntmps77
  go_wp2
  go_ret
  exact ⟨rfl, rfl⟩

set_option maxRecDepth 100000 in
set_option maxHeartbeats 4000000 in
theorem tat_one {b off : Nat} {a : Addr} {rc c : Nat} {rs : List Rt} {w : World} (h0 : w.cell? ⟨b, off, none⟩ = some (.int .i64 0)) (h1 : w.cell? ⟨b, off + 1, none⟩ = some (.int .i64 1000)) (h2 : w.cell? ⟨b, off + 2, none⟩ = some (.slice none 0 0)) (h3 : w.cell? ⟨b, off + 3, none⟩ = some (.slice (some a) rs.length rc)) (hb : b < w.heap.size)
    (hr : Rd encRt 5 w w.heap.size (some a) rs) (hl : rs.length ≤ 1000) :
    Calls Tryz.prog 34 #[.slice (some ⟨b, off, none⟩) 1 c, .int .i64 100] w fun e w' => ∃ A9 c9, e = .returned (.tuple #[.agg #[.int .i64 0, .int .i64 1000, .slice none 0 0, .slice A9 rs.length c9], .int .i64 0]) ∧ Own 107 encRt 5 w' w.heap.size A9 c9 rs ∧ Below w.heap.size w w' := by
  obtain ⟨Y1, hY1⟩ : ∃ Y, w.alloc (.cells #[.int .i64 0, .int .i64 0, .slice none 0 0, .slice none 0 0] 104) = Y := ⟨_, rfl⟩
  obtain ⟨Y2, hY2⟩ : ∃ Y, Y1.alloc (.cells #[.int .i64 0, .int .i64 1000, .slice none 0 0, .slice (some a) rs.length rc] 104) = Y := ⟨_, rfl⟩
  obtain ⟨Y3, hY3⟩ : ∃ Y, Y2.alloc (.cells #[.int .i64 0, .int .i64 1000] 59) = Y := ⟨_, rfl⟩
  have s1 : Y1.heap.size = w.heap.size + 1 := by rw [← hY1]; simp
  have B1 : Blk Y3 w.heap.size #[.int .i64 0, .int .i64 0, .slice none 0 0, .slice none 0 0] 104 := by rw [← hY3, ← hY2, ← hY1]; exact ((Blk.new w _ _).alloc _).alloc _
  have B2 : Blk Y3 Y1.heap.size #[.int .i64 0, .int .i64 1000, .slice none 0 0, .slice (some a) rs.length rc] 104 := by rw [← hY3, ← hY2]; exact (Blk.new Y1 _ _).alloc _
  have b1 : Below w.heap.size w Y1 := by rw [← hY1]; exact (Below.refl _ w).al _
  have b3 : Below w.heap.size w Y3 := by rw [← hY3, ← hY2]; exact (b1.al _).al _
  have g0 := (b1.cell (p := ⟨b, off, none⟩) hb).trans h0
  have g1 := (b1.cell (p := ⟨b, off + 1, none⟩) hb).trans h1
  have g2 := (b1.cell (p := ⟨b, off + 2, none⟩) hb).trans h2
  have g3 := (b1.cell (p := ⟨b, off + 3, none⟩) hb).trans h3
  have t2 : Blk Y2 Y1.heap.size #[.int .i64 0, .int .i64 1000, .slice none 0 0, .slice (some a) rs.length rc] 104 := by rw [← hY2]; exact Blk.new Y1 _ _
  have c0 := t2.cell 0 (v := .int .i64 0) rfl
  have c1 := t2.cell 1 (v := .int .i64 1000) rfl
  have rdI : Rd encIv 2 Y3 Y3.heap.size (some ⟨Y2.heap.size, 0, none⟩) [((0, 1000) : Iv)] := by rw [← hY3]; exact Rd.lit Y2 _ encIv_ok rfl (by simp)
  have CH := Lib.hid (has_any 1 100 rdI (by simp))
  have hh : hasB [((0, 1000) : Iv)] 100 = true := by rfl
  rw [hh] at CH
  have S1 := Lib.hid s1
  clear hh rdI s1
  go_enter Tryz.func34, Tryz.ntmps34
  go_wp2
  refine wp_loop_rounds 1 ?_
  rw [rounds_succ]
  go_wp2_with fail
  refine CH.out.mono ?_
  rintro e W4 ⟨rfl, hbn⟩
  have B1 := B1.below hbn B1.lt
  have B2 := B2.below hbn B2.lt
  have bW := b3.st hbn
  have CR := Lib.hid (fun (X : World) (hX : Below w.heap.size w X) => cloneRt_any rc (hr.st hX) (by omega))
  have hlt1 : w.heap.size < Y1.heap.size := by have := S1.out; omega
  clear hbn CH c0 c1 t2 g0 g1 g2 g3 hY1 hY2 hY3 b1 b3 h0 h1 h2 h3 hb hr S1
  go_wp2_with fail
  refine wp_region_held_drew (S := (fun w' : World => w'.cell? ⟨Y1.heap.size, 0, none⟩ = some (.int .i64 0) ∧ w'.cell? ⟨Y1.heap.size, 1, none⟩ = some (.int .i64 1000) ∧ w'.cell? ⟨Y1.heap.size, 2, none⟩ = some (.slice none 0 0) ∧ w'.cell? ⟨Y1.heap.size, 3, none⟩ = some (.slice (some a) rs.length rc))) (by kernel_rfl) ?_ (fun hHeld => ?_)
  · exact ⟨B2.cell 0 rfl, B2.cell 1 rfl, B2.cell 2 rfl, B2.cell 3 rfl⟩
  have hSS : (fun w' : World => w'.cell? ⟨Y1.heap.size, 0, none⟩ = some (.int .i64 0) ∧ w'.cell? ⟨Y1.heap.size, 1, none⟩ = some (.int .i64 1000) ∧ w'.cell? ⟨Y1.heap.size, 2, none⟩ = some (.slice none 0 0) ∧ w'.cell? ⟨Y1.heap.size, 3, none⟩ = some (.slice (some a) rs.length rc)) W4.drew := ⟨B2.cell 0 rfl, B2.cell 1 rfl, B2.cell 2 rfl, B2.cell 3 rfl⟩
  have HB1 := Lib.hid B1.drew
  have HB2 := Lib.hid B2.drew
  have HBW := Lib.hid (below_drewN bW 1)
  change Hid (Below w.heap.size w W4.drew) at HBW
  clear B1 B2 bW
  generalize W4.drew = W0 at hSS hHeld HB1 HB2 HBW ⊢
  change wpAnyH _ _ _ _ _ 11 _ _ _
  refine wpAnyH_take (i := 0) (v := ?_) (by simp only [List.getElem?_toArray, List.getElem?_cons_zero, List.getElem?_cons_succ]; rfl) (by kernel_rfl) (by kernel_rfl) (by kernel_rfl) (by intro _ _ _ h; exact h) (Or.inl ⟨by rfl, ?_⟩) (by assumption) ?_; rotate_left; (focus (intro w1 hSw; (try dsimp only at hSw); go_simp; (try with_reducible rfl))); (try simp only [Act.put, List.setIfInBounds_toArray, List.set_cons_zero, List.set_cons_succ, List.getElem_toArray, List.getElem_cons_zero, List.getElem_cons_succ])
  refine wpAnyH_take (i := 1) (v := ?_) (by simp only [List.getElem?_toArray, List.getElem?_cons_zero, List.getElem?_cons_succ]; rfl) (by kernel_rfl) (by kernel_rfl) (by kernel_rfl) (by intro _ _ _ h; exact h) (Or.inl ⟨by rfl, ?_⟩) (by assumption) ?_; rotate_left; (focus (intro w1 hSw; (try dsimp only at hSw); go_simp; (try with_reducible rfl))); (try simp only [Act.put, List.setIfInBounds_toArray, List.set_cons_zero, List.set_cons_succ, List.getElem_toArray, List.getElem_cons_zero, List.getElem_cons_succ])
  refine wpAnyH_take (i := 2) (v := ?_) (by simp only [List.getElem?_toArray, List.getElem?_cons_zero, List.getElem?_cons_succ]; rfl) (by kernel_rfl) (by kernel_rfl) (by kernel_rfl) (by intro _ _ _ h; exact h) (Or.inl ⟨by rfl, ?_⟩) (by assumption) ?_; rotate_left; (focus (intro w1 hSw; (try dsimp only at hSw); go_simp; (try with_reducible rfl))); (try simp only [Act.put, List.setIfInBounds_toArray, List.set_cons_zero, List.set_cons_succ, List.getElem_toArray, List.getElem_cons_zero, List.getElem_cons_succ])
  refine wpAnyH_take (i := 3) (v := ?_) (by simp only [List.getElem?_toArray, List.getElem?_cons_zero, List.getElem?_cons_succ]; rfl) (by kernel_rfl) (by kernel_rfl) (by kernel_rfl) (by intro _ _ _ h; exact h) (Or.inl ⟨by rfl, ?_⟩) (by assumption) ?_; rotate_left; (focus (intro w1 hSw; (try dsimp only at hSw); go_simp; (try with_reducible rfl))); (try simp only [Act.put, List.setIfInBounds_toArray, List.set_cons_zero, List.set_cons_succ, List.getElem_toArray, List.getElem_cons_zero, List.getElem_cons_succ])
  refine wpAnyH_take (i := 5) (v := ?_) (by simp only [List.getElem?_toArray, List.getElem?_cons_zero, List.getElem?_cons_succ]; rfl) (by kernel_rfl) (by kernel_rfl) (by kernel_rfl) (by intro _ _ _ h; exact h) (Or.inl ⟨by rfl, ?_⟩) (by assumption) ?_; rotate_left; (focus (intro w1 hSw; (try dsimp only at hSw); go_simp; (try with_reducible rfl))); (try simp only [Act.put, List.setIfInBounds_toArray, List.set_cons_zero, List.set_cons_succ, List.getElem_toArray, List.getElem_cons_zero, List.getElem_cons_succ])
  refine wpAnyH_take (i := 6) (v := ?_) (by simp only [List.getElem?_toArray, List.getElem?_cons_zero, List.getElem?_cons_succ]; rfl) (by kernel_rfl) (by kernel_rfl) (by kernel_rfl) (by intro _ _ _ h; exact h) (Or.inl ⟨by rfl, ?_⟩) (by assumption) ?_; rotate_left; (focus (intro w1 hSw; (try dsimp only at hSw); go_simp; (try with_reducible rfl))); (try simp only [Act.put, List.setIfInBounds_toArray, List.set_cons_zero, List.set_cons_succ, List.getElem_toArray, List.getElem_cons_zero, List.getElem_cons_succ])
  refine wpAnyH_ready (rs := [4]) (by kernel_rfl) (by simp) ?_; refine AllReadyH.cons (by simp only [List.getElem?_toArray, List.getElem?_cons_zero, List.getElem?_cons_succ]; rfl) (fun K hK => ?_) AllReadyH.nil
  rw [if_pos (by rfl)]; go_wp2_with fail
  refine (cloneBd_nil _).mono ?_
  rintro e W5 ⟨rfl, hw5⟩
  rw [hw5]
  clear hw5 W5
  go_wp2_with fail
  refine hK.out _ _ ?_ (fun hHeld => ?_)
  · exact hSS
  clear hK K
  (try simp only [Act.put, List.setIfInBounds_toArray, List.set_cons_zero, List.set_cons_succ, List.getElem_toArray, List.getElem_cons_zero, List.getElem_cons_succ])
  refine wpAnyH_ready (rs := [7]) (by kernel_rfl) (by simp) ?_; refine AllReadyH.cons (by simp only [List.getElem?_toArray, List.getElem?_cons_zero, List.getElem?_cons_succ]; rfl) (fun K hK => ?_) AllReadyH.nil
  rw [if_pos (by rfl)]; go_wp2_with fail
  refine (CR.out _ HBW.out).mono ?_
  rintro e W6 ⟨A9, c9, rfl, hown, hbn⟩
  have HB1a := HB1
  have HB1 := Lib.hid (HB1.out.below hbn HB1.out.lt)
  have HB2 := Lib.hid (HB2.out.below hbn HB2.out.lt)
  have hsz := HBW.out.size
  have hlt0 : w.heap.size < W0.heap.size := by have := HB1a.out.lt; exact this
  have HBW := Lib.hid (HBW.out.st hbn)
  have HOWN := Lib.hid hown
  have hSS : (fun w' : World => w'.cell? ⟨Y1.heap.size, 0, none⟩ = some (.int .i64 0) ∧ w'.cell? ⟨Y1.heap.size, 1, none⟩ = some (.int .i64 1000) ∧ w'.cell? ⟨Y1.heap.size, 2, none⟩ = some (.slice none 0 0) ∧ w'.cell? ⟨Y1.heap.size, 3, none⟩ = some (.slice (some a) rs.length rc)) W6 := ⟨HB2.out.cell 0 rfl, HB2.out.cell 1 rfl, HB2.out.cell 2 rfl, HB2.out.cell 3 rfl⟩
  clear hbn hown
  go_wp2_with fail
  refine hK.out _ _ ?_ (fun hHeld => ?_)
  · exact hSS
  clear hK K
  (try simp only [Act.put, List.setIfInBounds_toArray, List.set_cons_zero, List.set_cons_succ, List.getElem_toArray, List.getElem_cons_zero, List.getElem_cons_succ])
  refine wpAnyH_take (i := 8) (v := ?_) (by simp only [List.getElem?_toArray, List.getElem?_cons_zero, List.getElem?_cons_succ]; rfl) (by kernel_rfl) (by kernel_rfl) (by kernel_rfl) (by intro _ _ _ h; exact h) (Or.inl ⟨by rfl, ?_⟩) (by assumption) ?_; rotate_left; (focus (intro w1 hSw; (try dsimp only at hSw); go_simp; (try with_reducible rfl))); (try simp only [Act.put, List.setIfInBounds_toArray, List.set_cons_zero, List.set_cons_succ, List.getElem_toArray, List.getElem_cons_zero, List.getElem_cons_succ])
  refine wpAnyH_ready (rs := [9]) (by kernel_rfl) (by simp) ?_; refine AllReadyH.cons (by simp only [List.getElem?_toArray, List.getElem?_cons_zero, List.getElem?_cons_succ]; rfl) (fun K hK => ?_) AllReadyH.nil
  rw [if_pos (by rfl)]
  refine wp_boxStore rfl HB1.out rfl rfl (by kernel_rfl) rfl (by kernel_rfl) ?_
  intro V B9 hoz hbz
  refine hK.out _ _ ?_ (fun hHeld => ?_)
  · exact ⟨(HB2.out.oth hoz (by omega)).cell 0 rfl, (HB2.out.oth hoz (by omega)).cell 1 rfl, (HB2.out.oth hoz (by omega)).cell 2 rfl, (HB2.out.oth hoz (by omega)).cell 3 rfl⟩
  clear hK K
  (try simp only [Act.put, List.setIfInBounds_toArray, List.set_cons_zero, List.set_cons_succ, List.getElem_toArray, List.getElem_cons_zero, List.getElem_cons_succ])
  refine wpAnyH_take (i := 10) (v := ?_) (by simp only [List.getElem?_toArray, List.getElem?_cons_zero, List.getElem?_cons_succ]; rfl) (by kernel_rfl) (by kernel_rfl) (by kernel_rfl) (by intro _ _ _ h; exact h) (Or.inl ⟨by rfl, ?_⟩) (by assumption) ?_; rotate_left; (focus (intro w1 hSw; (try dsimp only at hSw); go_simp; (try with_reducible rfl))); (try simp only [Act.put, List.setIfInBounds_toArray, List.set_cons_zero, List.set_cons_succ, List.getElem_toArray, List.getElem_cons_zero, List.getElem_cons_succ])
  refine wpAnyH_done (by kernel_rfl) ?_ _
  go_wp2_with fail
  (try simp only [Exit.inBlock, Exit.then])
  refine bodyPost_ret (v := .tuple #[.agg #[.int .i64 0, .int .i64 1000, .slice none 0 0, .slice A9 rs.length c9], .int .i64 0]) ?_ rfl ⟨A9, c9, rfl, (HOWN.out.same (fun g hg => hoz g (by omega))).mono (by omega), hbz _ _ (by omega) HBW.out⟩
  exact results_box_tmp Tryz.results34 _ (.int .i64 0) rfl rfl B9 ⟨_, Tryz.underlying104, by kernel_rfl⟩

set_option maxRecDepth 100000 in
set_option maxHeartbeats 2000000 in
theorem tband_nil (f t x : Int) (rA : Option Addr) (n rc : Nat) (w : World) :
    Calls Tryz.prog 79 #[.agg #[.int .i64 f, .int .i64 t, .slice none 0 0, .slice rA n rc], .int .i64 x] w fun e w' => e = .returned (.string ⟨#[]⟩) ∧ Below w.heap.size w w' := by
  go_enter Tryz.func79, Tryz.ntmps79
  go_wp2
  refine wp_loop_rounds 1 ?_
  rw [rounds_succ]
  go_wp2_with fail
  go_ret
  exact ⟨rfl, (Below.refl _ _).al _⟩

def o1 : ByteArray := ⟨#[111]⟩
set_option maxRecDepth 100000 in
set_option maxHeartbeats 4000000 in
theorem trate_one {rA : Option Addr} {rc : Nat} {w : World} (h : Rd encRt 5 w w.heap.size rA [⟨⟨#[111]⟩, ⟨#[]⟩, 1, ⟨#[]⟩, 400⟩]) :
    Calls Tryz.prog 35 #[.agg #[.int .i64 0, .int .i64 1000, .slice none 0 0, .slice rA 1 rc], .string ⟨#[111]⟩, .string ⟨#[]⟩, .int .i64 1, .int .i64 100] w fun e w' => e = .returned (.tuple #[.int .i64 400, .int .i64 0]) ∧ Below w.heap.size w w' := by
  obtain ⟨b, off, x, rfl, hb, hx, d0, d1, d2, d3, d4⟩ := h.rt (i := 0) (by simp)
  simp only [List.getElem?_cons_zero, Option.some.injEq] at hx
  subst hx
  simp only [Nat.zero_mul, Nat.add_zero] at d0 d1 d2 d3 d4
  have CB := Lib.hid (fun (X : World) => tband_nil 0 1000 100 (some ⟨b, off, none⟩) 1 rc X)
  obtain ⟨Y1, hY1⟩ : ∃ Y, w.alloc (.cells #[.int .i64 0, .int .i64 1000, .slice none 0 0, .slice (some ⟨b, off, none⟩) 1 rc] 104) = Y := ⟨_, rfl⟩
  have b1 : Below w.heap.size w Y1 := by rw [← hY1]; exact (Below.refl _ w).al _
  have B1 : Blk Y1 w.heap.size #[.int .i64 0, .int .i64 1000, .slice none 0 0, .slice (some ⟨b, off, none⟩) 1 rc] 104 := by rw [← hY1]; exact Blk.new w _ _
  have p0 := B1.cell 0 (v := .int .i64 0) rfl
  have p1 := B1.cell 1 (v := .int .i64 1000) rfl
  have p2 := B1.cell 2 (v := .slice none 0 0) rfl
  have p3 := B1.cell 3 (v := .slice (some ⟨b, off, none⟩) 1 rc) rfl
  have HD := Lib.hid (fun (X : World) (hX : Below w.heap.size w X) (j : Nat) (v : Value) (q : w.cell? ⟨b, off + j, none⟩ = some v) => (hX.cell (p := ⟨b, off + j, none⟩) hb).trans q)
  clear h
  go_enter Tryz.func35, Tryz.ntmps35
  go_wp2_with fail
  refine (CB.out _).mono ?_
  rintro e W2 ⟨rfl, hbn⟩
  have b2 := b1.st hbn
  have B2 := B1.below hbn B1.lt
  go_wp2
  obtain ⟨W3, hW3⟩ : ∃ Y, W2.alloc (.cells #[.string ⟨#[111]⟩, .string ⟨#[]⟩, .int .i64 1, .string ⟨#[]⟩, .int .i64 0] 107) = Y := ⟨_, rfl⟩
  rw [hW3]
  have b3 : Below w.heap.size w W3 := by rw [← hW3]; exact b2.al _
  have B3 : Blk W3 W2.heap.size #[.string ⟨#[111]⟩, .string ⟨#[]⟩, .int .i64 1, .string ⟨#[]⟩, .int .i64 0] 107 := by rw [← hW3]; exact Blk.new W2 _ _
  have q3 := (B2.below (by rw [← hW3]; exact (Below.refl W2.heap.size W2).al _ : Below W2.heap.size W2 W3) B2.lt).cell 3 (v := .slice (some ⟨b, off, none⟩) 1 rc) rfl
  have e0 := HD.out W3 b3 0 _ d0
  have e1 := HD.out W3 b3 1 _ d1
  have e2 := HD.out W3 b3 2 _ d2
  have e3 := HD.out W3 b3 3 _ d3
  have e4 := HD.out W3 b3 4 _ d4
  simp only [Nat.add_zero] at e0
  obtain ⟨W4, hW4⟩ : ∃ Y, W3.alloc (.cells #[.string ⟨#[111]⟩, .string ⟨#[]⟩, .int .i64 1, .string ⟨#[]⟩, .int .i64 400] 107) = Y := ⟨_, rfl⟩
  have b4 : Below w.heap.size w W4 := by rw [← hW4]; exact b3.al _
  have B4 : Blk W4 W3.heap.size #[.string ⟨#[111]⟩, .string ⟨#[]⟩, .int .i64 1, .string ⟨#[]⟩, .int .i64 400] 107 := by rw [← hW4]; exact Blk.new W3 _ _
  have B34 : Blk W4 W2.heap.size #[.string ⟨#[111]⟩, .string ⟨#[]⟩, .int .i64 1, .string ⟨#[]⟩, .int .i64 0] 107 := by rw [← hW4]; exact B3.alloc _
  have g4 := B4.cell 4 (v := .int .i64 400) rfl
  have z4 := B34.cell 4 (v := .int .i64 0) rfl
  have f4 := B34.frozen 4
  have B5 : Blk (W4.setCell ⟨W2.heap.size, 4, none⟩ (.int .i64 400)) W2.heap.size #[.string ⟨#[111]⟩, .string ⟨#[]⟩, .int .i64 1, .string ⟨#[]⟩, .int .i64 400] 107 := B34.set 4 (.int .i64 400)
  have hne : W3.heap.size ≠ W2.heap.size := by rw [← hW3]; simp
  have B6 := B4.other (p := ⟨W2.heap.size, 4, none⟩) hne (.int .i64 400)
  have b5 := b4.setCell (p := ⟨W2.heap.size, 4, none⟩) (by show w.heap.size ≤ W2.heap.size; exact b2.size) (.int .i64 400)
  obtain ⟨W5, hW5⟩ : ∃ Y, W4.setCell ⟨W2.heap.size, 4, none⟩ (.int .i64 400) = Y := ⟨_, rfl⟩
  rw [hW5] at B5 B6 b5
  have a0 := B5.cell 0 (v := .string ⟨#[111]⟩) rfl
  have a1 := B5.cell 1 (v := .string ⟨#[]⟩) rfl
  have a2 := B5.cell 2 (v := .int .i64 1) rfl
  have a3 := B5.cell 3 (v := .string ⟨#[]⟩) rfl
  have a4 := B5.cell 4 (v := .int .i64 400) rfl
  have c0 := B6.cell 0 (v := .string ⟨#[111]⟩) rfl
  have c1 := B6.cell 1 (v := .string ⟨#[]⟩) rfl
  have c2 := B6.cell 2 (v := .int .i64 1) rfl
  have c3 := B6.cell 3 (v := .string ⟨#[]⟩) rfl
  have c4 := B6.cell 4 (v := .int .i64 400) rfl
  clear HD hbn B1 B2 B3 B4 B34 B5 B6 b1 b2 b3 b4 d0 d1 d2 d3 d4 hne p0 p1 p2 p3 hY1
  refine wp_loop_rounds 1 ?_
  rw [rounds_succ]
  go_wp2
  refine wp_loop_rounds 1 ?_
  rw [rounds_succ]
  go_wp2_with fail
  go_ret2
  exact ⟨rfl, b5⟩
end Go.Proofs.YtcpfiiapfggmpaaGreat
