/- The reference's tariff of a time, walked. -/
import Derived.Test.YtcpfiiapfggmpaaGreatTarAt
set_option linter.unusedSimpArgs false
namespace Go.Proofs.YtcpfiiapfggmpaaGreat
open Go.RowKit Go.Lib

/-- what the reference's At hands back -/
def AtV (o : Option Ta) : Value := match o with
  | none => .tuple #[.agg #[.int .i64 0, .int .i64 0, .slice none 0 0, .slice none 0 0], .int .i64 22]
  | some y => .tuple #[.agg #[.int .i64 y.f, .int .i64 y.t, .slice y.bA y.bs.length y.bc, .slice y.rA y.rs.length y.rc], .int .i64 0]
theorem findM_mem {x : Int} : ∀ {l : List Ta} {y : Ta}, findM x l = some y → y ∈ l
  | [], _, h => by cases h
  | z :: l, y, h => by
    unfold findM at h
    split at h
    · rw [← Option.some.inj h]; exact List.mem_cons_self ..
    · exact List.mem_cons_of_mem _ (findM_mem h)

set_option maxRecDepth 100000 in
set_option maxHeartbeats 8000000 in
theorem rtat_any {A : Option Addr} (c : Nat) {ts : List Ta} (x : Int) {w : World} (h : Rd encTa 4 w w.heap.size A ts) (hl : ts.length ≤ 1000000) :
    Calls Tryz.prog 36 #[.slice A ts.length c, .int .i64 x] w fun e w' => e = .returned (AtV (findM x ts)) ∧ Below w.heap.size w w' := by
  obtain ⟨Y1, hY1⟩ : ∃ Y, w.alloc (.cells #[.int .i64 0, .int .i64 0, .slice none 0 0, .slice none 0 0] 104) = Y := ⟨_, rfl⟩
  have b1 : Below w.heap.size w Y1 := by rw [← hY1]; exact (Below.refl _ w).al _
  have HBZ : Hid (Blk Y1 w.heap.size #[.int .i64 0, .int .i64 0, .slice none 0 0, .slice none 0 0] 104) := Lib.hid (by rw [← hY1]; exact Blk.new w _ _)
  have H := Lib.hid (h.st b1)
  have hlt1 : w.heap.size < Y1.heap.size := HBZ.out.lt
  generalize hres : findM x ts = res
  have HS := Lib.hid hres
  clear h hres
  go_enter Tryz.func36, Tryz.ntmps36
  go_wp2_with fail
  go_loopw [6] (fun i wr => ∃ k : Nat, k ≤ ts.length ∧ i = .int .i64 k ∧ Hid (findM x (ts.drop k) = res) ∧ Below Y1.heap.size Y1 wr) (fun i _ => ts.length - (RowKit.intOf i).toNat)
  case atStart => exact ⟨0, Nat.zero_le _, rfl, HS, Below.refl _ _⟩
  case round =>
    clear HS
    obtain ⟨k, hk, rfl, HS, bR⟩ := hrel
    have k1 : (0 : Int) ≤ (k : Int) := by omega
    have hsz := bR.size
    by_cases hi : k < ts.length
    · have k2 : (k : Int) < (ts.length : Int) := by omega
      obtain ⟨b, off, y, hA, hbb, hx, d0, d1, d2, d3⟩ := (H.out.st bR).ta hi
      subst hA
      have HI := Lib.hid hi
      have HT := Lib.hid (findM_at (x := x) hx)
      obtain ⟨Y3, hY3⟩ : ∃ Y, wr.alloc (.cells #[.int .i64 y.f, .int .i64 y.t] 59) = Y := ⟨_, rfl⟩
      have bR3 : Below Y1.heap.size Y1 Y3 := by rw [← hY3]; exact bR.al _
      have b3 : Below wr.heap.size wr Y3 := by rw [← hY3]; exact (Below.refl _ wr).al _
      have rdI : Rd encIv 2 Y3 Y3.heap.size (some ⟨wr.heap.size, 0, none⟩) [((y.f, y.t) : Iv)] := by rw [← hY3]; exact Rd.lit wr _ encIv_ok rfl (by simp)
      have CH := Lib.hid (show Calls Tryz.prog 80 #[.slice (some ⟨wr.heap.size, 0, none⟩) 1 1, .int .i64 x] Y3 fun e w' => e = .returned (.bool (hasT x y)) ∧ Below Y3.heap.size Y3 w' from rhasT_any _ 1 _ x Y3 rdI (by simp))
      have HD := Lib.hid (fun (X : World) (hX : Below Y3.heap.size Y3 X) (j : Nat) (v : Value) (q : wr.cell? ⟨b, off + k * 4 + j, none⟩ = some v) => ((b3.st hX).cell (p := ⟨b, off + k * 4 + j, none⟩) hbb).trans q)
      have HDD := Lib.hid (And.intro d0 (And.intro d1 (And.intro d2 d3)))
      clear hx hi hbb rdI bR
      cases hin : hasT x y
      · have R := Lib.hid (HT.out.symm.trans HS.out)
        rw [hin, if_neg (by simp)] at R
        rw [hin] at CH
        clear HT HS hin
        go_wp2_with fail
        refine CH.out.mono ?_
        rintro e W4 ⟨rfl, hbn⟩
        have bR4 := bR3.st hbn
        go_wp2_with fail
        go_roundw
        case rel => exact ⟨k + 1, HI.out, by go_num, R, bR4⟩
        case measure => have := HI.out; simp [RowKit.intOf]; omega
      · have R := Lib.hid (HT.out.symm.trans HS.out)
        rw [hin, if_pos rfl] at R
        rw [hin] at CH
        clear HT HS hin
        have R2 := Lib.hid R.out.symm
        clear R
        go_wp2_with fail
        refine CH.out.mono ?_
        rintro e W4 ⟨rfl, hbn⟩
        have bW := b1.st (bR3.st hbn)
        have B1 := HBZ.out.below (bR3.st hbn) HBZ.out.lt
        have d0 := HD.out W4 hbn 0 _ HDD.out.1
        have d1 := HD.out W4 hbn 1 _ HDD.out.2.1
        have d2 := HD.out W4 hbn 2 _ HDD.out.2.2.1
        have d3 := HD.out W4 hbn 3 _ HDD.out.2.2.2
        simp only [Nat.add_zero] at d0
        clear hbn CH hY3 HD HDD bR3 H
        go_wp2_with (first | (refine wpList_boxStore rfl (ty := 104) (x := .tmp 4) (y := .tmp 24) (cells := #[.int .i64 y.f, .int .i64 y.t, .slice y.bA y.bs.length y.bc, .slice y.rA y.rs.length y.rc]) rfl B1 rfl rfl (by kernel_rfl) rfl (by kernel_rfl) ?_; intro w6 BZ6 hoz6 hbz6))
        refine bodyPost_ret (v := .tuple #[.agg #[.int .i64 y.f, .int .i64 y.t, .slice y.bA y.bs.length y.bc, .slice y.rA y.rs.length y.rc], .int .i64 0]) (results_box_tmp Tryz.results36 _ (.int .i64 0) rfl rfl BZ6 ⟨_, Tryz.underlying104, by kernel_rfl⟩) rfl ?_
        rw [R2.out]
        exact ⟨rfl, hbz6 _ _ (Nat.le_refl _) bW⟩
    · obtain rfl : k = ts.length := by omega
      have R := Lib.hid (show res = none by rw [← HS.out, List.drop_length]; rfl)
      have BZ := HBZ.out.below bR HBZ.out.lt
      have bW := b1.st bR
      clear HS H
      go_wp2_with (first | (refine wpList_boxBuild rfl (cells := #[.int .i64 0, .int .i64 0, .slice none 0 0, .slice none 0 0]) rfl (by kernel_rfl) ?_) | (refine wpList_boxStore rfl (ty := 104) (x := .tmp 4) (y := .tmp 25) (cells := #[.int .i64 0, .int .i64 0, .slice none 0 0, .slice none 0 0]) rfl BZ rfl rfl (by kernel_rfl) rfl (by kernel_rfl) ?_; intro w6 BZ6 hoz6 hbz6))
      refine bodyPost_ret (v := .tuple #[.agg #[.int .i64 0, .int .i64 0, .slice none 0 0, .slice none 0 0], .int .i64 22]) (results_box_tmp Tryz.results36 _ (.int .i64 22) rfl rfl BZ6 ⟨_, Tryz.underlying104, by kernel_rfl⟩) rfl ?_
      rw [R.out]
      exact ⟨rfl, hbz6 _ _ (Nat.le_refl _) bW⟩
end Go.Proofs.YtcpfiiapfggmpaaGreat
