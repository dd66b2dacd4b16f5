/- The tariff of a time: tariff.At and the reference's, walked. -/
import Derived.Test.YtelchfijalkibaaGreatDoorJTarBand
import Derived.Test.YtelchfijalkibaaGreatDoorNetTaC
import Derived.Deep.RegionWith
import Derived.Deep.RegionHeld3
set_option linter.unusedSimpArgs false
set_option linter.unusedSimpArgs false
namespace Go.Proofs.YtelchfijalkibaaGreatDoor
open Go.RowKit Go.Lib

def hasT (x : Int) (y : Ta) : Bool := hasB [((y.f, y.t) : Iv)] x
def findM (x : Int) : List Ta → Option Ta
  | [] => none
  | y :: l => if hasT x y = true then some y else findM x l
theorem findM_at {x : Int} {l : List Ta} {k : Nat} {y : Ta} (h : l[k]? = some y) : findM x (l.drop k) = if hasT x y = true then some y else findM x (l.drop (k + 1)) := by rw [drop_at h]; rfl
/-- what At hands back -/
def AtR (o : Option Ta) (w' : World) (e : Ending) : Prop := match o with
  | none => e = .returned (.tuple #[.agg #[.int .i64 0, .int .i64 0, .slice none 0 0, .slice none 0 0], .int .i64 22])
  | some y => ∃ A8 c8 A9 c9, e = .returned (.tuple #[.agg #[.int .i64 y.f, .int .i64 y.t, .slice A8 y.bs.length c8, .slice A9 y.rs.length c9], .int .i64 0]) ∧ Rd encBd 4 w' w'.heap.size A8 y.bs ∧ Rd encRt 5 w' w'.heap.size A9 y.rs
/-- a tariff within the law's bounds -/
def TaSm (y : Ta) : Prop := y.bs.length ≤ 1000000 ∧ y.rs.length ≤ 1000000

theorem ne_of_own {α : Type} {e : Nat} {enc : α → List Value} {k : Nat} {w : World} {base : Nat} {A : Option Addr} {c : Nat} {l : List α} (h : Own e enc k w base A c l) {g : Nat} (hg : g < base) : ∀ b off, A = some ⟨b, off, none⟩ → b ≠ g := by
  intro b off hA
  rcases h.form with ⟨h0, _⟩ | ⟨g', h1, h2, _⟩
  · rw [h0] at hA; cases hA
  · rw [h1] at hA
    injection hA with hA
    injection hA with hA
    omega
theorem rd_oth {α : Type} {enc : α → List Value} {k : Nat} {w w' : World} {B : Nat} {A : Option Addr} {l : List α} (h : Rd enc k w B A l) {g : Nat} (hn : ∀ b off, A = some ⟨b, off, none⟩ → b ≠ g) (ho : ∀ x, x ≠ g → w'.heap[x]? = w.heap[x]?) : Rd enc k w' B A l :=
  h.keepIf fun b off hA _ o => World.cell?_of_block (ho b (hn b off hA))

set_option maxRecDepth 100000 in
set_option maxHeartbeats 8000000 in
theorem tat_any {A : Option Addr} (c : Nat) {ts : List Ta} (x : Int) {w : World} (h : Rd encTa 4 w w.heap.size A ts) (hok : ∀ y ∈ ts, TaOk w y ∧ TaSm y) (hl : ts.length ≤ 1000000) :
    Calls Tryz.prog 47 #[.slice A ts.length c, .int .i64 x] w fun e w' => AtR (findM x ts) w' e ∧ Below w.heap.size w w' := by
  obtain ⟨Y1, hY1⟩ : ∃ Y, w.alloc (.cells #[.int .i64 0, .int .i64 0, .slice none 0 0, .slice none 0 0] 77) = Y := ⟨_, rfl⟩
  have b1 : Below w.heap.size w Y1 := by rw [← hY1]; exact (Below.refl _ w).al _
  have HBZ : Hid (Blk Y1 w.heap.size #[.int .i64 0, .int .i64 0, .slice none 0 0, .slice none 0 0] 77) := Lib.hid (by rw [← hY1]; exact Blk.new w _ _)
  have H := Lib.hid (h.st b1)
  have HO := Lib.hid hok
  have hlt1 : w.heap.size < Y1.heap.size := HBZ.out.lt
  generalize hres : findM x ts = res
  have HS := Lib.hid hres
  clear h hok hres
  go_enter Tryz.func47, Tryz.ntmps47
  go_wp2_with fail
  go_loopw [10] (fun i wr => ∃ k : Nat, k ≤ ts.length ∧ i = .int .i64 k ∧ Hid (findM x (ts.drop k) = res) ∧ Below Y1.heap.size Y1 wr) (fun i _ => ts.length - (RowKit.intOf i).toNat)
  case atStart => exact ⟨0, Nat.zero_le _, rfl, HS, Below.refl _ _⟩
  case round =>
    clear HS
    obtain ⟨k, hk, rfl, HS, bR⟩ := hrel
    have k1 : (0 : Int) ≤ (k : Int) := by omega
    have hsz := bR.size
    by_cases hi : k < ts.length
    · have k2 : (k : Int) < (ts.length : Int) := by omega
      obtain ⟨b, off, y, hA, hbb, hx, d0, d1, d2, d3⟩ := (H.out.st bR).ta hi
      subst hA
      have HI := Lib.hid hi
      have HT := Lib.hid (findM_at (x := x) hx)
      obtain ⟨HY, hysm⟩ := HO.out y (List.mem_of_getElem? hx)
      obtain ⟨Y2, hY2⟩ : ∃ Y, wr.alloc (.cells #[.int .i64 y.f, .int .i64 y.t, .slice y.bA y.bs.length y.bc, .slice y.rA y.rs.length y.rc] 77) = Y := ⟨_, rfl⟩
      obtain ⟨Y3, hY3⟩ : ∃ Y, Y2.alloc (.cells #[.int .i64 y.f, .int .i64 y.t] 73) = Y := ⟨_, rfl⟩
      have B2 : Blk Y3 wr.heap.size #[.int .i64 y.f, .int .i64 y.t, .slice y.bA y.bs.length y.bc, .slice y.rA y.rs.length y.rc] 77 := by rw [← hY3, ← hY2]; exact (Blk.new wr _ _).alloc _
      have bR3 : Below Y1.heap.size Y1 Y3 := by rw [← hY3, ← hY2]; exact (bR.al _).al _
      have t2 : Blk Y2 wr.heap.size #[.int .i64 y.f, .int .i64 y.t, .slice y.bA y.bs.length y.bc, .slice y.rA y.rs.length y.rc] 77 := by rw [← hY2]; exact Blk.new wr _ _
      have c0 := t2.cell 0 (v := .int .i64 y.f) rfl
      have c1 := t2.cell 1 (v := .int .i64 y.t) rfl
      have rdI : Rd encIv 2 Y3 Y3.heap.size (some ⟨Y2.heap.size, 0, none⟩) [((y.f, y.t) : Iv)] := by rw [← hY3]; exact Rd.lit Y2 _ encIv_ok rfl (by simp)
      have CH := Lib.hid (show Calls Tryz.prog 72 #[.slice (some ⟨Y2.heap.size, 0, none⟩) 1 1, .int .i64 x] Y3 fun e w' => e = .returned (.bool (hasT x y)) ∧ Below Y3.heap.size Y3 w' from has_any 1 x rdI (by simp))
      clear hx hi hbb rdI t2 bR
      cases hin : hasT x y
      · have R := Lib.hid (HT.out.symm.trans HS.out)
        rw [hin, if_neg (by simp)] at R
        rw [hin] at CH
        clear HT HS hin HY
        go_wp2_with fail
        refine CH.out.mono ?_
        rintro e W4 ⟨rfl, hbn⟩
        have bR4 := bR3.st hbn
        go_wp2_with fail
        go_roundw
        case rel => exact ⟨k + 1, HI.out, by go_num, R, bR4⟩
        case measure => have := HI.out; simp [RowKit.intOf]; omega
      · have R := Lib.hid (HT.out.symm.trans HS.out)
        rw [hin, if_pos rfl] at R
        rw [hin] at CH
        clear HT HS hin
        have R2 := Lib.hid R.out.symm
        clear R
        go_wp2_with fail
        refine CH.out.mono ?_
        rintro e W4 ⟨rfl, hbn⟩
        have B2 := B2.below hbn B2.lt
        have bW := b1.st (bR3.st hbn)
        have B1 := HBZ.out.below (bR3.st hbn) HBZ.out.lt
        have CB := Lib.hid (fun (X : World) (hX : Below w.heap.size w X) => cloneBd_gen y.bc (HY.st hX).b hysm.1)
        have CR := Lib.hid (fun (X : World) (hX : Below w.heap.size w X) => cloneRt_gen y.rc (HY.st hX).r hysm.2)
        have hne : w.heap.size < wr.heap.size := by omega
        clear hbn CH c0 c1 hY2 hY3 HY hysm d0 d1 d2 d3 bR3 HBZ H HO
        go_wp2_with fail
        refine wp_region_held_drew (S := (fun w' : World => w'.cell? ⟨wr.heap.size, 0, none⟩ = some (.int .i64 y.f) ∧ w'.cell? ⟨wr.heap.size, 1, none⟩ = some (.int .i64 y.t) ∧ w'.cell? ⟨wr.heap.size, 2, none⟩ = some (.slice y.bA y.bs.length y.bc) ∧ w'.cell? ⟨wr.heap.size, 3, none⟩ = some (.slice y.rA y.rs.length y.rc))) (by kernel_rfl) ?_ (fun hHeld => ?_)
        · exact ⟨B2.cell 0 rfl, B2.cell 1 rfl, B2.cell 2 rfl, B2.cell 3 rfl⟩
        have hSS : (fun w' : World => w'.cell? ⟨wr.heap.size, 0, none⟩ = some (.int .i64 y.f) ∧ w'.cell? ⟨wr.heap.size, 1, none⟩ = some (.int .i64 y.t) ∧ w'.cell? ⟨wr.heap.size, 2, none⟩ = some (.slice y.bA y.bs.length y.bc) ∧ w'.cell? ⟨wr.heap.size, 3, none⟩ = some (.slice y.rA y.rs.length y.rc)) W4.drew := ⟨B2.cell 0 rfl, B2.cell 1 rfl, B2.cell 2 rfl, B2.cell 3 rfl⟩
        have HB1 := Lib.hid B1.drew
        have HB2 := Lib.hid B2.drew
        have HBW := Lib.hid (below_drewN bW 1)
        change Hid (Below w.heap.size w W4.drew) at HBW
        clear B1 B2 bW
        generalize W4.drew = W0 at hSS hHeld HB1 HB2 HBW ⊢
        change wpAnyH _ _ _ _ _ 11 _ _ _
        refine wpAnyH_take (i := 0) (v := ?_) (by simp only [List.getElem?_toArray, List.getElem?_cons_zero, List.getElem?_cons_succ]; rfl) (by kernel_rfl) (by kernel_rfl) (by kernel_rfl) (by intro _ _ _ h; exact h) (Or.inl ⟨by rfl, ?_⟩) (by assumption) ?_; rotate_left; (focus (intro w1 hSw; (try dsimp only at hSw); go_simp; (try with_reducible rfl))); (try simp only [Act.put, List.setIfInBounds_toArray, List.set_cons_zero, List.set_cons_succ, List.getElem_toArray, List.getElem_cons_zero, List.getElem_cons_succ])
        refine wpAnyH_take (i := 1) (v := ?_) (by simp only [List.getElem?_toArray, List.getElem?_cons_zero, List.getElem?_cons_succ]; rfl) (by kernel_rfl) (by kernel_rfl) (by kernel_rfl) (by intro _ _ _ h; exact h) (Or.inl ⟨by rfl, ?_⟩) (by assumption) ?_; rotate_left; (focus (intro w1 hSw; (try dsimp only at hSw); go_simp; (try with_reducible rfl))); (try simp only [Act.put, List.setIfInBounds_toArray, List.set_cons_zero, List.set_cons_succ, List.getElem_toArray, List.getElem_cons_zero, List.getElem_cons_succ])
        refine wpAnyH_take (i := 2) (v := ?_) (by simp only [List.getElem?_toArray, List.getElem?_cons_zero, List.getElem?_cons_succ]; rfl) (by kernel_rfl) (by kernel_rfl) (by kernel_rfl) (by intro _ _ _ h; exact h) (Or.inl ⟨by rfl, ?_⟩) (by assumption) ?_; rotate_left; (focus (intro w1 hSw; (try dsimp only at hSw); go_simp; (try with_reducible rfl))); (try simp only [Act.put, List.setIfInBounds_toArray, List.set_cons_zero, List.set_cons_succ, List.getElem_toArray, List.getElem_cons_zero, List.getElem_cons_succ])
        refine wpAnyH_take (i := 3) (v := ?_) (by simp only [List.getElem?_toArray, List.getElem?_cons_zero, List.getElem?_cons_succ]; rfl) (by kernel_rfl) (by kernel_rfl) (by kernel_rfl) (by intro _ _ _ h; exact h) (Or.inl ⟨by rfl, ?_⟩) (by assumption) ?_; rotate_left; (focus (intro w1 hSw; (try dsimp only at hSw); go_simp; (try with_reducible rfl))); (try simp only [Act.put, List.setIfInBounds_toArray, List.set_cons_zero, List.set_cons_succ, List.getElem_toArray, List.getElem_cons_zero, List.getElem_cons_succ])
        refine wpAnyH_take (i := 5) (v := ?_) (by simp only [List.getElem?_toArray, List.getElem?_cons_zero, List.getElem?_cons_succ]; rfl) (by kernel_rfl) (by kernel_rfl) (by kernel_rfl) (by intro _ _ _ h; exact h) (Or.inl ⟨by rfl, ?_⟩) (by assumption) ?_; rotate_left; (focus (intro w1 hSw; (try dsimp only at hSw); go_simp; (try with_reducible rfl))); (try simp only [Act.put, List.setIfInBounds_toArray, List.set_cons_zero, List.set_cons_succ, List.getElem_toArray, List.getElem_cons_zero, List.getElem_cons_succ])
        refine wpAnyH_take (i := 6) (v := ?_) (by simp only [List.getElem?_toArray, List.getElem?_cons_zero, List.getElem?_cons_succ]; rfl) (by kernel_rfl) (by kernel_rfl) (by kernel_rfl) (by intro _ _ _ h; exact h) (Or.inl ⟨by rfl, ?_⟩) (by assumption) ?_; rotate_left; (focus (intro w1 hSw; (try dsimp only at hSw); go_simp; (try with_reducible rfl))); (try simp only [Act.put, List.setIfInBounds_toArray, List.set_cons_zero, List.set_cons_succ, List.getElem_toArray, List.getElem_cons_zero, List.getElem_cons_succ])
        refine wpAnyH_ready (rs := [4]) (by kernel_rfl) (by simp) ?_; refine AllReadyH.cons (by simp only [List.getElem?_toArray, List.getElem?_cons_zero, List.getElem?_cons_succ]; rfl) (fun K hK => ?_) AllReadyH.nil
        rw [if_pos (by rfl)]; go_wp2_with fail
        refine (CB.out _ HBW.out).mono ?_
        rintro e W5 ⟨A8, c8, rfl, hown8, hbn⟩
        have hlt5 := HB1.out.lt
        have HB1 := Lib.hid (HB1.out.below hbn HB1.out.lt)
        have HB2 := Lib.hid (HB2.out.below hbn HB2.out.lt)
        have HBW := Lib.hid (HBW.out.st hbn)
        have HG8 := Lib.hid (ne_of_own hown8 hlt5)
        have HR8 := Lib.hid (hown8.rd encBd_ok)
        have hSS : (fun w' : World => w'.cell? ⟨wr.heap.size, 0, none⟩ = some (.int .i64 y.f) ∧ w'.cell? ⟨wr.heap.size, 1, none⟩ = some (.int .i64 y.t) ∧ w'.cell? ⟨wr.heap.size, 2, none⟩ = some (.slice y.bA y.bs.length y.bc) ∧ w'.cell? ⟨wr.heap.size, 3, none⟩ = some (.slice y.rA y.rs.length y.rc)) W5 := ⟨HB2.out.cell 0 rfl, HB2.out.cell 1 rfl, HB2.out.cell 2 rfl, HB2.out.cell 3 rfl⟩
        clear hbn hown8
        go_wp2_with fail
        refine hK.out _ _ ?_ (fun hHeld => ?_)
        · exact hSS
        clear hK K
        (try simp only [Act.put, List.setIfInBounds_toArray, List.set_cons_zero, List.set_cons_succ, List.getElem_toArray, List.getElem_cons_zero, List.getElem_cons_succ])
        refine wpAnyH_ready (rs := [7]) (by kernel_rfl) (by simp) ?_; refine AllReadyH.cons (by simp only [List.getElem?_toArray, List.getElem?_cons_zero, List.getElem?_cons_succ]; rfl) (fun K hK => ?_) AllReadyH.nil
        rw [if_pos (by rfl)]; go_wp2_with fail
        refine (CR.out _ HBW.out).mono ?_
        rintro e W6 ⟨A9, c9, rfl, hown, hbn⟩
        have hlt6 := HB1.out.lt
        have HB1 := Lib.hid (HB1.out.below hbn HB1.out.lt)
        have HB2 := Lib.hid (HB2.out.below hbn HB2.out.lt)
        have HR8 := Lib.hid (HR8.out.st hbn)
        have HR9 := Lib.hid (hown.rd encRt_ok)
        have HG9 := Lib.hid (ne_of_own hown hlt6)
        have HBW := Lib.hid (HBW.out.st hbn)
        have hSS : (fun w' : World => w'.cell? ⟨wr.heap.size, 0, none⟩ = some (.int .i64 y.f) ∧ w'.cell? ⟨wr.heap.size, 1, none⟩ = some (.int .i64 y.t) ∧ w'.cell? ⟨wr.heap.size, 2, none⟩ = some (.slice y.bA y.bs.length y.bc) ∧ w'.cell? ⟨wr.heap.size, 3, none⟩ = some (.slice y.rA y.rs.length y.rc)) W6 := ⟨HB2.out.cell 0 rfl, HB2.out.cell 1 rfl, HB2.out.cell 2 rfl, HB2.out.cell 3 rfl⟩
        clear hbn hown
        go_wp2_with fail
        refine hK.out _ _ ?_ (fun hHeld => ?_)
        · exact hSS
        clear hK K
        (try simp only [Act.put, List.setIfInBounds_toArray, List.set_cons_zero, List.set_cons_succ, List.getElem_toArray, List.getElem_cons_zero, List.getElem_cons_succ])
        refine wpAnyH_take (i := 8) (v := ?_) (by simp only [List.getElem?_toArray, List.getElem?_cons_zero, List.getElem?_cons_succ]; rfl) (by kernel_rfl) (by kernel_rfl) (by kernel_rfl) (by intro _ _ _ h; exact h) (Or.inl ⟨by rfl, ?_⟩) (by assumption) ?_; rotate_left; (focus (intro w1 hSw; (try dsimp only at hSw); go_simp; (try with_reducible rfl))); (try simp only [Act.put, List.setIfInBounds_toArray, List.set_cons_zero, List.set_cons_succ, List.getElem_toArray, List.getElem_cons_zero, List.getElem_cons_succ])
        refine wpAnyH_ready (rs := [9]) (by kernel_rfl) (by simp) ?_; refine AllReadyH.cons (by simp only [List.getElem?_toArray, List.getElem?_cons_zero, List.getElem?_cons_succ]; rfl) (fun K hK => ?_) AllReadyH.nil
        rw [if_pos (by rfl)]
        refine wp_boxStore rfl HB1.out rfl rfl (by kernel_rfl) rfl (by kernel_rfl) ?_
        intro V B9 hoz hbz
        refine hK.out _ _ ?_ (fun hHeld => ?_)
        · exact ⟨(HB2.out.oth hoz (by omega)).cell 0 rfl, (HB2.out.oth hoz (by omega)).cell 1 rfl, (HB2.out.oth hoz (by omega)).cell 2 rfl, (HB2.out.oth hoz (by omega)).cell 3 rfl⟩
        clear hK K
        (try simp only [Act.put, List.setIfInBounds_toArray, List.set_cons_zero, List.set_cons_succ, List.getElem_toArray, List.getElem_cons_zero, List.getElem_cons_succ])
        refine wpAnyH_take (i := 10) (v := ?_) (by simp only [List.getElem?_toArray, List.getElem?_cons_zero, List.getElem?_cons_succ]; rfl) (by kernel_rfl) (by kernel_rfl) (by kernel_rfl) (by intro _ _ _ h; exact h) (Or.inl ⟨by rfl, ?_⟩) (by assumption) ?_; rotate_left; (focus (intro w1 hSw; (try dsimp only at hSw); go_simp; (try with_reducible rfl))); (try simp only [Act.put, List.setIfInBounds_toArray, List.set_cons_zero, List.set_cons_succ, List.getElem_toArray, List.getElem_cons_zero, List.getElem_cons_succ])
        refine wpAnyH_done (by kernel_rfl) ?_ _
        go_wp2_with fail
        (try simp only [Exit.inBlock, Exit.then])
        refine bodyPost_ret (v := .tuple #[.agg #[.int .i64 y.f, .int .i64 y.t, .slice A8 y.bs.length c8, .slice A9 y.rs.length c9], .int .i64 0]) ?_ rfl ⟨?_, hbz _ _ (by omega) HBW.out⟩
        · exact results_box_tmp Tryz.results47 _ (.int .i64 0) rfl rfl B9 ⟨_, Tryz.underlying77, by kernel_rfl⟩
        · rw [R2.out]
          have hz := (hbz w.heap.size W6 (Nat.le_refl _) (Below.refl _ _)).size
          exact ⟨A8, c8, A9, c9, rfl, (rd_oth HR8.out HG8.out hoz).more hz, (rd_oth HR9.out HG9.out hoz).more hz⟩
    · obtain rfl : k = ts.length := by omega
      have R := Lib.hid (show res = none by rw [← HS.out, List.drop_length]; rfl)
      have BZ := HBZ.out.below bR HBZ.out.lt
      have bW := b1.st bR
      clear HS H HO
      go_wp2_with (first | (refine wpList_boxBuild rfl (cells := #[.int .i64 0, .int .i64 0, .slice none 0 0, .slice none 0 0]) rfl (by kernel_rfl) ?_) | (refine wpList_boxStore rfl (ty := 77) (x := .tmp 4) (y := .tmp 29) (cells := #[.int .i64 0, .int .i64 0, .slice none 0 0, .slice none 0 0]) rfl BZ rfl rfl (by kernel_rfl) rfl (by kernel_rfl) ?_; intro w6 BZ6 hoz6 hbz6))
      refine bodyPost_ret (v := .tuple #[.agg #[.int .i64 0, .int .i64 0, .slice none 0 0, .slice none 0 0], .int .i64 22]) (results_box_tmp Tryz.results47 _ (.int .i64 22) rfl rfl BZ6 ⟨_, Tryz.underlying77, by kernel_rfl⟩) rfl ?_
      rw [R.out]
      exact ⟨rfl, hbz6 _ _ (Nat.le_refl _) bW⟩
end Go.Proofs.YtelchfijalkibaaGreatDoor
