/- relief.Apply, walked. -/
import Derived.Test.YtekdppnlgkfcdaaRelQDown
import Derived.Test.YtekdppnlgkfcdaaRelCheck
import Derived.Test.YtekdppnlgkfcdaaRelPart
import Derived.Test.YtekdppnlgkfcdaaJMoneyLeaf
import Derived.Test.YtekdppnlgkfcdaaJRelApz
import Derived.Test.YtekdppnlgkfcdaaBox
set_option linter.unusedSimpArgs false
namespace Go.Proofs.Ytekdppnlgkfcdaa
open Go.RowKit Go.Lib

set_option maxRecDepth 100000 in
set_option maxHeartbeats 16000000 in
theorem qapply_any {dvA rlA stA : Option Addr} (dvc rlc stc : Nat) {dvs : List Dv} {rls : List Iv} {sts : List St} (tid tvh tsy : ByteArray) (tcl : Int) (c : CV) {lA : Option Addr} (lc : Nat) {w : World} (h : Rd encD 6 w w.heap.size dvA dvs) (hz : DsOk w dvs) (hl : dvs.length ≤ 100000000) (hd : ∀ d ∈ dvs, smallD d) (hs : Rd encSt 3 w w.heap.size stA sts) (hsl : sts.length ≤ 1000) (hr : Rd encIv 2 w w.heap.size rlA rls) (hc : Rd encLn 2 w w.heap.size lA c.lns) (hcl : c.lns.length ≤ 1000000) :
    Calls Try.prog 20 #[.agg #[.slice none 0 0, .slice none 0 0, .slice none 0 0, .slice dvA dvs.length dvc, .slice none 0 0, .slice none 0 0, .int .i64 0, .int .i64 0, .slice none 0 0, .int .i64 0, .slice none 0 0, .slice none 0 0, .slice none 0 0, .slice none 0 0, .slice none 0 0, .slice none 0 0, .slice none 0 0, .slice none 0 0, .slice rlA rls.length rlc, .slice none 0 0, .slice none 0 0, .slice none 0 0, .int .i64 0, .slice none 0 0, .string ⟨#[]⟩], .agg #[.string tid, .string tvh, .string tsy, .int .i64 tcl, .slice stA sts.length stc], CHV c lA lc] w fun e w' => ApR (apC rls (downL dvs sts) c) (apE rls c.ct) w e w' := by
  have CD := Lib.hid (fun (X : World) (hX : Below w.heap.size w X) => qdown_any (rlA := rlA) (rls := rls) dvc rlc stc tid tvh tsy tcl (h.st hX) (hz.st hX) hl hd (hs.st hX) hsl)
  have hkl : (downL dvs sts).length ≤ 3 := dnN_length dvs sts 3
  clear h hz hl hd hs hsl
  generalize downL dvs sts = ks at *
  have CC := Lib.hid (fun (X : World) (hX : Below w.heap.size w X) => qcheck_any rlc (hr.st hX))
  have CP := Lib.hid (fun (X : World) (hX : Below w.heap.size w X) (A : Option Addr) (cc : Nat) (hk : Rd encI 1 X X.heap.size A ks) => qpart_any rlc cc (hr.st hX) hk (by omega))
  have CL := Lib.hid (fun (X : World) (hX : Below w.heap.size w X) => cloneL_any lc (hc.st hX) hcl)
  clear hr hc
  have HZ1 := Lib.hid (fun q => apz1 (rls := rls) (ks := ks) (c := c) q); have HZ2 := Lib.hid (fun q r => apz2 (rls := rls) (ks := ks) (c := c) q r); have HZ3 := Lib.hid (fun q r s => apz3 (rls := rls) (ks := ks) (c := c) q r s); generalize apC rls ks c = cE at *; generalize apE rls c.ct = aE at *; have HP := partN_bounds rls ks; have HLB := Lib.hid (fun h => lessN_bounds rls ks (ct := c.ct) h); obtain ⟨key, veh, sys, cls, tm, lns, ct⟩ := c; simp only [CHV] at *
  obtain ⟨Y1, hY1⟩ : ∃ Y, w.alloc (.cells #[.slice none 0 0, .slice none 0 0, .slice none 0 0, .slice dvA dvs.length dvc, .slice none 0 0, .slice none 0 0, .int .i64 0, .int .i64 0, .slice none 0 0, .int .i64 0, .slice none 0 0, .slice none 0 0, .slice none 0 0, .slice none 0 0, .slice none 0 0, .slice none 0 0, .slice none 0 0, .slice none 0 0, .slice rlA rls.length rlc, .slice none 0 0, .slice none 0 0, .slice none 0 0, .int .i64 0, .slice none 0 0, .string ⟨#[]⟩] 60) = Y := ⟨_, rfl⟩; have b1 : Below w.heap.size w Y1 := (by rw [← hY1]; exact (Below.refl _ w).al _); have S1 : Blk Y1 w.heap.size #[.slice none 0 0, .slice none 0 0, .slice none 0 0, .slice dvA dvs.length dvc, .slice none 0 0, .slice none 0 0, .int .i64 0, .int .i64 0, .slice none 0 0, .int .i64 0, .slice none 0 0, .slice none 0 0, .slice none 0 0, .slice none 0 0, .slice none 0 0, .slice none 0 0, .slice none 0 0, .slice none 0 0, .slice rlA rls.length rlc, .slice none 0 0, .slice none 0 0, .slice none 0 0, .int .i64 0, .slice none 0 0, .string ⟨#[]⟩] 60 := (by rw [← hY1]; exact Blk.new w _ _); obtain ⟨Y2, hY2⟩ : ∃ Y, Y1.alloc (.cells #[.string tid, .string tvh, .string tsy, .int .i64 tcl, .slice stA sts.length stc] 35) = Y := ⟨_, rfl⟩; have d2 : Below Y1.heap.size Y1 Y2 := (by rw [← hY2]; exact (Below.refl _ Y1).al _); have S2 : Blk Y2 Y1.heap.size #[.string tid, .string tvh, .string tsy, .int .i64 tcl, .slice stA sts.length stc] 35 := (by rw [← hY2]; exact Blk.new Y1 _ _); obtain ⟨Y3, hY3⟩ : ∃ Y, Y2.alloc (.cells #[.string key, .string veh, .string sys, .int .i64 cls, .int .i64 tm, .slice lA lns.length lc, .int .i64 ct] 64) = Y := ⟨_, rfl⟩; have d3 : Below Y2.heap.size Y2 Y3 := (by rw [← hY3]; exact (Below.refl _ Y2).al _); have S3 : Blk Y3 Y2.heap.size #[.string key, .string veh, .string sys, .int .i64 cls, .int .i64 tm, .slice lA lns.length lc, .int .i64 ct] 64 := (by rw [← hY3]; exact Blk.new Y2 _ _); obtain ⟨Y4, hY4⟩ : ∃ Y, Y3.alloc (.cells #[.string ⟨#[]⟩, .string ⟨#[]⟩, .string ⟨#[]⟩, .int .i64 0, .int .i64 0, .slice none 0 0, .int .i64 0] 64) = Y := ⟨_, rfl⟩; have d4 : Below Y3.heap.size Y3 Y4 := (by rw [← hY4]; exact (Below.refl _ Y3).al _); have S4 : Blk Y4 Y3.heap.size #[.string ⟨#[]⟩, .string ⟨#[]⟩, .string ⟨#[]⟩, .int .i64 0, .int .i64 0, .slice none 0 0, .int .i64 0] 64 := (by rw [← hY4]; exact Blk.new Y3 _ _); have n1 := Lib.hid S1.lt; have n2 := Lib.hid S2.lt; have n3 := Lib.hid S3.lt; have bW := ((b1.st d2).st d3).st d4; have S1 := S1.below d2 S1.lt; have S1 := S1.below d3 S1.lt; have S1 := S1.below d4 S1.lt; have S2 := S2.below d3 S2.lt; have S2 := S2.below d4 S2.lt; have S3 := S3.below d4 S3.lt; clear b1 d2 d3 d4; have c18 : Y4.cell? ⟨w.heap.size, 18, none⟩ = some (.slice rlA rls.length rlc) := S1.cell 18 rfl
  go_enter Try.func20, Try.ntmps20
  go_wp2_with fail
  refine (CC.out _ bW).mono ?_
  rintro e w1 ⟨rfl, hbn⟩
  have bW := bW.st hbn; have S1 := S1.below hbn S1.lt; have S2 := S2.below hbn S2.lt; have S3 := S3.below hbn S3.lt; have S4 := S4.below hbn S4.lt
  clear hY1 hY2 hY3 hY4 hbn c18
  have c18 := S1.cell 18 (v := .slice rlA rls.length rlc) rfl; have q5 := S3.cell 5 (v := .slice lA lns.length lc) rfl; have q6 := S3.cell 6 (v := .int .i64 ct) rfl
  by_cases he : relsE rls = 0
  · rw [he]
    by_cases g1 : ct < 0
    · obtain ⟨rfl, hE⟩ := HZ2.out he (.inl (by omega))
      have HE := Lib.hid hE
      clear HZ1 HZ2 HZ3 CC CD CP CL hE
      go_wp2_with ((first | (refine wpList_boxBuild rfl (t := 64) rfl (cells := #[.string ⟨#[]⟩, .string ⟨#[]⟩, .string ⟨#[]⟩, .int .i64 0, .int .i64 0, .slice none 0 0, .int .i64 0]) (by kernel_rfl) ?_) | (refine wpList_boxStore rfl (ty := 64) (x := .tmp 6) (y := .tmp 26) rfl S4 rfl rfl (by kernel_rfl) rfl (by kernel_rfl) ?_; intro wz Sz hoz hbz)))
      rw [← HE.out]
      refine bodyPost_ret (v := .tuple #[.agg #[.string ⟨#[]⟩, .string ⟨#[]⟩, .string ⟨#[]⟩, .int .i64 0, .int .i64 0, .slice none 0 0, .int .i64 0], .int .i64 aE]) ?_ rfl ⟨none, 0, ?_, Own.nil _ _, hbz _ _ (by have := bW.size; have := n1.out; have := n2.out; have := n3.out; omega) bW⟩; (focus exact results_box_tmp Try.results20 _ (.int .i64 aE) rfl (by first | rfl | simp) Sz ⟨_, Try.underlying64, by kernel_rfl⟩)
      rfl
    · by_cases g2 : 1125899906842624 < ct
      · obtain ⟨rfl, hE⟩ := HZ2.out he (.inr (by omega))
        have HE := Lib.hid hE
        clear HZ1 HZ2 HZ3 CC CD CP CL hE
        go_wp2_with ((first | (refine wpList_boxBuild rfl (t := 64) rfl (cells := #[.string ⟨#[]⟩, .string ⟨#[]⟩, .string ⟨#[]⟩, .int .i64 0, .int .i64 0, .slice none 0 0, .int .i64 0]) (by kernel_rfl) ?_) | (refine wpList_boxStore rfl (ty := 64) (x := .tmp 6) (y := .tmp 26) rfl S4 rfl rfl (by kernel_rfl) rfl (by kernel_rfl) ?_; intro wz Sz hoz hbz)))
        rw [← HE.out]
        refine bodyPost_ret (v := .tuple #[.agg #[.string ⟨#[]⟩, .string ⟨#[]⟩, .string ⟨#[]⟩, .int .i64 0, .int .i64 0, .slice none 0 0, .int .i64 0], .int .i64 aE]) ?_ rfl ⟨none, 0, ?_, Own.nil _ _, hbz _ _ (by have := bW.size; have := n1.out; have := n2.out; have := n3.out; omega) bW⟩; (focus exact results_box_tmp Try.results20 _ (.int .i64 aE) rfl (by first | rfl | simp) Sz ⟨_, Try.underlying64, by kernel_rfl⟩)
        rfl
      · obtain ⟨hcE, hE⟩ := HZ3.out he (by omega) (by omega)
        have HE := Lib.hid hE
        have HCE := Lib.hid hcE
        clear HZ1 HZ2 HZ3 CC hE hcE
        obtain ⟨lb1, lb2⟩ := HLB.out (by omega)
        have CR := Lib.hid (fun W => qup_any (n := ct) (m := partN rls ks) (by omega) (by omega) HP.1 HP.2 W)
        change 0 ≤ lessN rls ks ct at lb1
        change lessN rls ks ct ≤ ct at lb2
        have CR := Lib.hid (show ∀ W, Calls Try.prog 31 #[.int .i64 ct, .int .i64 (partN rls ks), .int .i64 1000, .int .i64 2] W fun e w' => e = .returned (.tuple #[.int .i64 (lessN rls ks ct), .int .i64 0]) ∧ ∃ k, w' = W.drewN k from CR.out)
        generalize lessN rls ks ct = n at *
        generalize partN rls ks = m at *
        clear HLB HP
        go_wp2_with fail
        refine wp_region_held_drew (S := fun w' => w'.cell? ⟨Y2.heap.size, 6, none⟩ = some (.int .i64 ct) ∧ w'.cell? ⟨w.heap.size, 18, none⟩ = some (.slice rlA rls.length rlc) ∧ Blk w' w.heap.size #[.slice none 0 0, .slice none 0 0, .slice none 0 0, .slice dvA dvs.length dvc, .slice none 0 0, .slice none 0 0, .int .i64 0, .int .i64 0, .slice none 0 0, .int .i64 0, .slice none 0 0, .slice none 0 0, .slice none 0 0, .slice none 0 0, .slice none 0 0, .slice none 0 0, .slice none 0 0, .slice none 0 0, .slice rlA rls.length rlc, .slice none 0 0, .slice none 0 0, .slice none 0 0, .int .i64 0, .slice none 0 0, .string ⟨#[]⟩] 60 ∧ Blk w' Y1.heap.size #[.string tid, .string tvh, .string tsy, .int .i64 tcl, .slice stA sts.length stc] 35) (by kernel_rfl) ?_ (fun hHeld => ?_); (focus exact ⟨q6, c18, S1.drew, S2.drew⟩); have bW := bW.drew; have S1 := S1.drew; have S2 := S2.drew; have S3 := S3.drew; have S4 := S4.drew; change wpAnyH _ _ _ _ _ 14 _ _ _
        refine wpAnyH_take (i := 0) (v := ?_) (by simp only [List.getElem?_toArray, List.getElem?_cons_zero, List.getElem?_cons_succ]; rfl) (by kernel_rfl) (by kernel_rfl) (by kernel_rfl) (by intro _ _ _ h; exact h) (Or.inl ⟨by rfl, ?_⟩) (by assumption) ?_; rotate_left; (focus (intro w1 hSw; (try dsimp only at hSw); go_simp; (try with_reducible rfl))); (try simp only [Act.put, List.setIfInBounds_toArray, List.set_cons_zero, List.set_cons_succ, List.getElem_toArray, List.getElem_cons_zero, List.getElem_cons_succ])
        refine wpAnyH_take (i := 1) (v := ?_) (by simp only [List.getElem?_toArray, List.getElem?_cons_zero, List.getElem?_cons_succ]; rfl) (by kernel_rfl) (by kernel_rfl) (by kernel_rfl) (by intro _ _ _ h; exact h) (Or.inl ⟨by rfl, ?_⟩) (by assumption) ?_; rotate_left; (focus (intro w1 hSw; (try dsimp only at hSw); go_simp; (try with_reducible rfl))); (try simp only [Act.put, List.setIfInBounds_toArray, List.set_cons_zero, List.set_cons_succ, List.getElem_toArray, List.getElem_cons_zero, List.getElem_cons_succ])
        refine wpAnyH_take (i := 2) (v := ?_) (by simp only [List.getElem?_toArray, List.getElem?_cons_zero, List.getElem?_cons_succ]; rfl) (by kernel_rfl) (by kernel_rfl) (by kernel_rfl) (by intro _ _ _ h; exact h) (Or.inl ⟨by rfl, ?_⟩) (by assumption) ?_; rotate_left; (focus (intro w1 hSw; (try dsimp only at hSw); go_simp; (try with_reducible rfl))); (try simp only [Act.put, List.setIfInBounds_toArray, List.set_cons_zero, List.set_cons_succ, List.getElem_toArray, List.getElem_cons_zero, List.getElem_cons_succ])
        refine wpAnyH_take (i := 3) (v := ?_) (by simp only [List.getElem?_toArray, List.getElem?_cons_zero, List.getElem?_cons_succ]; rfl) (by kernel_rfl) (by kernel_rfl) (by kernel_rfl) (by intro _ _ _ h; exact h) (Or.inl ⟨by rfl, ?_⟩) (by assumption) ?_; rotate_left; (focus (intro w1 hSw; (try dsimp only at hSw); go_simp; (try with_reducible rfl))); (try simp only [Act.put, List.setIfInBounds_toArray, List.set_cons_zero, List.set_cons_succ, List.getElem_toArray, List.getElem_cons_zero, List.getElem_cons_succ])
        refine wpAnyH_take (i := 4) (v := .agg #[.slice none 0 0, .slice none 0 0, .slice none 0 0, .slice dvA dvs.length dvc, .slice none 0 0, .slice none 0 0, .int .i64 0, .int .i64 0, .slice none 0 0, .int .i64 0, .slice none 0 0, .slice none 0 0, .slice none 0 0, .slice none 0 0, .slice none 0 0, .slice none 0 0, .slice none 0 0, .slice none 0 0, .slice rlA rls.length rlc, .slice none 0 0, .slice none 0 0, .slice none 0 0, .int .i64 0, .slice none 0 0, .string ⟨#[]⟩]) (by simp only [List.getElem?_toArray, List.getElem?_cons_zero, List.getElem?_cons_succ]; rfl) (by kernel_rfl) (by kernel_rfl) (by kernel_rfl) (by intro _ _ _ h; exact h) (yieldsIf_boxLoad (by rfl) rfl rfl (fun _ hw => hw.2.2.1) ⟨_, Try.underlying60, by kernel_rfl⟩) (by assumption) ?_; (try simp only [Act.put, List.setIfInBounds_toArray, List.set_cons_zero, List.set_cons_succ, List.getElem_toArray, List.getElem_cons_zero, List.getElem_cons_succ])
        refine wpAnyH_take (i := 5) (v := .agg #[.string tid, .string tvh, .string tsy, .int .i64 tcl, .slice stA sts.length stc]) (by simp only [List.getElem?_toArray, List.getElem?_cons_zero, List.getElem?_cons_succ]; rfl) (by kernel_rfl) (by kernel_rfl) (by kernel_rfl) (by intro _ _ _ h; exact h) (yieldsIf_boxLoad (by rfl) rfl rfl (fun _ hw => hw.2.2.2) ⟨_, Try.underlying35, by kernel_rfl⟩) (by assumption) ?_; (try simp only [Act.put, List.setIfInBounds_toArray, List.set_cons_zero, List.set_cons_succ, List.getElem_toArray, List.getElem_cons_zero, List.getElem_cons_succ])
        refine wpAnyH_ready (rs := [6]) (by kernel_rfl) (by simp) ?_; refine AllReadyH.cons (by simp only [List.getElem?_toArray, List.getElem?_cons_zero, List.getElem?_cons_succ]; rfl) (fun K hK => ?_) AllReadyH.nil; rw [if_pos (by rfl)]; go_wp2_with fail
        refine (CD.out _ bW).mono ?_
        rintro e wd ⟨kA, kc, rfl, ho, hbn⟩
        have rk := ho.rd encI_ok
        have bW := bW.st hbn; have S1 := S1.below hbn S1.lt; have S2 := S2.below hbn S2.lt; have S3 := S3.below hbn S3.lt; have S4 := S4.below hbn S4.lt; go_wp2_with fail; refine hK.out _ _ ?_ (fun hHeld => ?_); (focus exact ⟨S3.cell 6 rfl, S1.cell 18 rfl, S1, S2⟩); clear hK K; (try simp only [Act.put, List.setIfInBounds_toArray, List.set_cons_zero, List.set_cons_succ, List.getElem_toArray, List.getElem_cons_zero, List.getElem_cons_succ])
        clear hbn
        refine wpAnyH_ready (rs := [7]) (by kernel_rfl) (by simp) ?_; refine AllReadyH.cons (by simp only [List.getElem?_toArray, List.getElem?_cons_zero, List.getElem?_cons_succ]; rfl) (fun K hK => ?_) AllReadyH.nil; rw [if_pos (by rfl)]; go_wp2_with fail
        refine (CP.out _ bW kA kc rk).mono ?_
        rintro e wp ⟨rfl, hbn⟩
        have bW := bW.st hbn; have S1 := S1.below hbn S1.lt; have S2 := S2.below hbn S2.lt; have S3 := S3.below hbn S3.lt; have S4 := S4.below hbn S4.lt; go_wp2_with fail; refine hK.out _ _ ?_ (fun hHeld => ?_); (focus exact ⟨S3.cell 6 rfl, S1.cell 18 rfl, S1, S2⟩); clear hK K; (try simp only [Act.put, List.setIfInBounds_toArray, List.set_cons_zero, List.set_cons_succ, List.getElem_toArray, List.getElem_cons_zero, List.getElem_cons_succ])
        clear hbn rk ho
        refine wpAnyH_ready (rs := [8]) (by kernel_rfl) (by simp) ?_; refine AllReadyH.cons (by simp only [List.getElem?_toArray, List.getElem?_cons_zero, List.getElem?_cons_succ]; rfl) (fun K hK => ?_) AllReadyH.nil; rw [if_pos (by rfl)]; go_wp2_with fail
        refine (CR.out _).mono ?_
        rintro e wr ⟨rfl, kk, rfl⟩
        have hbn := below_drewN (Below.refl wp.heap.size wp) kk
        have bW := bW.st hbn; have S1 := S1.below hbn S1.lt; have S2 := S2.below hbn S2.lt; have S3 := S3.below hbn S3.lt; have S4 := S4.below hbn S4.lt; go_wp2_with fail; refine hK.out _ _ ?_ (fun hHeld => ?_); (focus exact ⟨S3.cell 6 rfl, S1.cell 18 rfl, S1, S2⟩); clear hK K; (try simp only [Act.put, List.setIfInBounds_toArray, List.set_cons_zero, List.set_cons_succ, List.getElem_toArray, List.getElem_cons_zero, List.getElem_cons_succ])
        clear hbn
        refine wpAnyH_take (i := 9) (v := ?_) (by simp only [List.getElem?_toArray, List.getElem?_cons_zero, List.getElem?_cons_succ]; rfl) (by kernel_rfl) (by kernel_rfl) (by kernel_rfl) (by intro _ _ _ h; exact h) (Or.inl ⟨by rfl, ?_⟩) (by assumption) ?_; rotate_left; (focus (intro w1 hSw; (try dsimp only at hSw); go_simp; (try with_reducible rfl))); (try simp only [Act.put, List.setIfInBounds_toArray, List.set_cons_zero, List.set_cons_succ, List.getElem_toArray, List.getElem_cons_zero, List.getElem_cons_succ])
        refine wpAnyH_take (i := 10) (v := ?_) (by simp only [List.getElem?_toArray, List.getElem?_cons_zero, List.getElem?_cons_succ]; rfl) (by kernel_rfl) (by kernel_rfl) (by kernel_rfl) (by intro _ _ _ h; exact h) (Or.inl ⟨by rfl, ?_⟩) (by assumption) ?_; rotate_left; (focus (intro w1 hSw; (try dsimp only at hSw); go_simp; (try with_reducible rfl))); (try simp only [Act.put, List.setIfInBounds_toArray, List.set_cons_zero, List.set_cons_succ, List.getElem_toArray, List.getElem_cons_zero, List.getElem_cons_succ])
        refine wpAnyH_take (i := 11) (v := ?_) (by simp only [List.getElem?_toArray, List.getElem?_cons_zero, List.getElem?_cons_succ]; rfl) (by kernel_rfl) (by kernel_rfl) (by kernel_rfl) (by intro _ _ _ h; exact h) (Or.inl ⟨by rfl, ?_⟩) (by assumption) ?_; rotate_left; (focus (intro w1 hSw; (try dsimp only at hSw); go_simp; (try with_reducible rfl))); (try simp only [Act.put, List.setIfInBounds_toArray, List.set_cons_zero, List.set_cons_succ, List.getElem_toArray, List.getElem_cons_zero, List.getElem_cons_succ])
        refine wpAnyH_take (i := 12) (v := ?_) (by simp only [List.getElem?_toArray, List.getElem?_cons_zero, List.getElem?_cons_succ]; rfl) (by kernel_rfl) (by kernel_rfl) (by kernel_rfl) (by intro _ _ _ h; exact h) (Or.inl ⟨by rfl, ?_⟩) (by assumption) ?_; rotate_left; (focus (intro w1 hSw; (try dsimp only at hSw); go_simp; (try with_reducible rfl))); (try simp only [Act.put, List.setIfInBounds_toArray, List.set_cons_zero, List.set_cons_succ, List.getElem_toArray, List.getElem_cons_zero, List.getElem_cons_succ])
        refine wpAnyH_take (i := 13) (v := ?_) (by simp only [List.getElem?_toArray, List.getElem?_cons_zero, List.getElem?_cons_succ]; rfl) (by kernel_rfl) (by kernel_rfl) (by kernel_rfl) (by intro _ _ _ h; exact h) (Or.inl ⟨by rfl, ?_⟩) (by assumption) ?_; rotate_left; (focus (intro w1 hSw; (try dsimp only at hSw); go_simp; (try with_reducible rfl))); (try simp only [Act.put, List.setIfInBounds_toArray, List.set_cons_zero, List.set_cons_succ, List.getElem_toArray, List.getElem_cons_zero, List.getElem_cons_succ])
        refine wpAnyH_done (by kernel_rfl) ?_ _
        clear CD CP CR hHeld
        have q5 := S3.cell 5 (v := .slice lA lns.length lc) rfl
        have hlt3 := S3.lt
        have hlt4 := S4.lt
        have hsz := bW.size
        by_cases hn : n = 0
        · have hcc := HCE.out
          rw [cutC_0 _ hn] at hcc
          have HCC := Lib.hid hcc
          clear HCE hcc
          subst hn
          go_wp2_with fail
          refine (CL.out _ bW).mono ?_
          rintro e wl ⟨A2, c2, rfl, hown, hbn⟩
          have bW := bW.st hbn
          have S3 := S3.below hbn S3.lt
          have S4 := S4.below hbn S4.lt
          have f5 := S3.frozen 5
          have q5 := S3.cell 5 (v := .slice lA lns.length lc) rfl
          have hown := hown.other (p := ⟨Y2.heap.size, 5, none⟩) hlt3 (.slice A2 lns.length c2)
          have S3 := S3.set 5 (.slice A2 lns.length c2)
          have S4 := S4.other (p := ⟨Y2.heap.size, 5, none⟩) (Nat.ne_of_gt n3.out) (.slice A2 lns.length c2)
          have bW := bW.setCell (p := ⟨Y2.heap.size, 5, none⟩) (by have := n1.out; have := n2.out; show _ ≤ Y2.heap.size; omega) (.slice A2 lns.length c2)
          clear CL
          go_wp2_with (first | (refine wpList_boxLoad rfl (ty := 64) (x := .tmp 5) (cs := #[.string key, .string veh, .string sys, .int .i64 cls, .int .i64 tm, .slice A2 lns.length c2, .int .i64 ct]) rfl S3 rfl ⟨_, Try.underlying64, by kernel_rfl⟩ ?_) | ((first | (refine wpList_boxBuild rfl (t := 64) rfl (cells := #[.string key, .string veh, .string sys, .int .i64 cls, .int .i64 tm, .slice A2 lns.length c2, .int .i64 ct]) (by kernel_rfl) ?_) | (refine wpList_boxStore rfl (ty := 64) (x := .tmp 6) (y := .tmp 62) rfl S4 rfl rfl (by kernel_rfl) rfl (by kernel_rfl) ?_; intro wz Sz hoz hbz))))
          rw [← HE.out]
          refine bodyPost_ret (v := .tuple #[.agg #[.string key, .string veh, .string sys, .int .i64 cls, .int .i64 tm, .slice A2 lns.length c2, .int .i64 ct], .int .i64 aE]) ?_ rfl ⟨A2, c2, by rw [HCC.out]; rfl, by rw [HCC.out]; exact (hown.same (fun g hg => hoz g (by omega))).mono hsz, hbz _ _ (by have := n1.out; have := n2.out; have := n3.out; omega) bW⟩
          exact results_box_tmp Try.results20 _ (.int .i64 aE) rfl (by first | rfl | simp) Sz ⟨_, Try.underlying64, by kernel_rfl⟩
        · have hcc := HCE.out
          rw [cutC_1 _ _ _ _ _ _ _ hn] at hcc
          have HCC := Lib.hid hcc
          clear HCE hcc
          go_wp2_with fail
          refine (CL.out _ bW).mono ?_
          rintro e wl ⟨A2, c2, rfl, hown, hbn⟩
          have bW := bW.st hbn
          have S3 := S3.below hbn S3.lt
          have S4 := S4.below hbn S4.lt
          have f5 := S3.frozen 5
          have q5 := S3.cell 5 (v := .slice lA lns.length lc) rfl
          have hown := hown.other (p := ⟨Y2.heap.size, 5, none⟩) hlt3 (.slice A2 lns.length c2)
          have S3 := S3.set 5 (.slice A2 lns.length c2)
          have S4 := S4.other (p := ⟨Y2.heap.size, 5, none⟩) (Nat.ne_of_gt n3.out) (.slice A2 lns.length c2)
          have bW := bW.setCell (p := ⟨Y2.heap.size, 5, none⟩) (by have := n1.out; have := n2.out; show _ ≤ Y2.heap.size; omega) (.slice A2 lns.length c2)
          clear CL
          have hszl : (wp.drewN kk).heap.size ≤ (wl.setCell ⟨Y2.heap.size, 5, none⟩ (.slice A2 lns.length c2)).heap.size := by have := hbn.size; simpa using this
          clear hbn
          go_wp2_with (first | (at_builtin; refine wpList_app1 rfl (.tmp 50) (.tmp 54) tyLn encLn_ok rfl (outS, -n) rfl _ rfl (by simp) hown rfl (by first | rfl | simp) (by first | omega | (simp; omega)) (by first | omega | (simp; omega)) hszl ?_; intro A1 c1 wa hown1 hb1 hs1 hf1; have bW := bW.trans (hb1.mono hsz); have S3 := S3.below hb1 hlt3; have S4 := S4.below hb1 hlt4; have g5 := S3.frozen 5; have g6 := S3.frozen 6; have q51 := S3.cell 5 (v := .slice A2 lns.length c2) rfl; have q61 := S3.cell 6 (v := .int .i64 ct) rfl; have S3 := (S3.set 5 (.slice A1 (lns.length + 1) c1)).set 6 (.int .i64 (ct - n)); have S4 := (S4.other (p := ⟨Y2.heap.size, 5, none⟩) (Nat.ne_of_gt n3.out) (.slice A1 (lns.length + 1) c1)).other (p := ⟨Y2.heap.size, 6, none⟩) (Nat.ne_of_gt n3.out) (.int .i64 (ct - n)); have bW := (bW.setCell (p := ⟨Y2.heap.size, 5, none⟩) (by have := n1.out; have := n2.out; show _ ≤ Y2.heap.size; omega) (.slice A1 (lns.length + 1) c1)).setCell (p := ⟨Y2.heap.size, 6, none⟩) (by have := n1.out; have := n2.out; show _ ≤ Y2.heap.size; omega) (.int .i64 (ct - n)); have hown1 := (hown1.other (p := ⟨Y2.heap.size, 5, none⟩) hlt3 (.slice A1 (lns.length + 1) c1)).other (p := ⟨Y2.heap.size, 6, none⟩) hlt3 (.int .i64 (ct - n))) | (refine wpList_boxLoad rfl (ty := 64) (x := .tmp 5) (cs := #[.string key, .string veh, .string sys, .int .i64 cls, .int .i64 tm, .slice A1 (lns.length + 1) c1, .int .i64 (ct - n)]) rfl S3 rfl ⟨_, Try.underlying64, by kernel_rfl⟩ ?_) | ((first | (refine wpList_boxBuild rfl (t := 64) rfl (cells := #[.string key, .string veh, .string sys, .int .i64 cls, .int .i64 tm, .slice A1 (lns.length + 1) c1, .int .i64 (ct - n)]) (by kernel_rfl) ?_) | (refine wpList_boxStore rfl (ty := 64) (x := .tmp 6) (y := .tmp 62) rfl S4 rfl rfl (by kernel_rfl) rfl (by kernel_rfl) ?_; intro wz Sz hoz hbz))))
          rw [← HE.out]
          refine bodyPost_ret (v := .tuple #[.agg #[.string key, .string veh, .string sys, .int .i64 cls, .int .i64 tm, .slice A1 (lns.length + 1) c1, .int .i64 (ct - n)], .int .i64 aE]) ?_ rfl ⟨A1, c1, by rw [HCC.out]; simp [CHV], by rw [HCC.out]; exact (hown1.same (fun g hg => hoz g (by omega))).mono hsz, hbz _ _ (by have := n1.out; have := n2.out; have := n3.out; omega) bW⟩
          exact results_box_tmp Try.results20 _ (.int .i64 aE) rfl (by first | rfl | simp) Sz ⟨_, Try.underlying64, by kernel_rfl⟩
  · obtain ⟨rfl, hE⟩ := HZ1.out he
    have HE := Lib.hid hE
    have he2 : (relsE rls != 0) = true := by simp [he]
    clear HZ1 HZ2 HZ3 CC CD CP CL hE
    rw [← HE.out] at he2 ⊢
    clear HE he
    go_wp2_with ((first | (refine wpList_boxBuild rfl (t := 64) rfl (cells := #[.string ⟨#[]⟩, .string ⟨#[]⟩, .string ⟨#[]⟩, .int .i64 0, .int .i64 0, .slice none 0 0, .int .i64 0]) (by kernel_rfl) ?_) | (refine wpList_boxStore rfl (ty := 64) (x := .tmp 6) (y := .tmp 16) rfl S4 rfl rfl (by kernel_rfl) rfl (by kernel_rfl) ?_; intro wz Sz hoz hbz)))
    refine bodyPost_ret (v := .tuple #[.agg #[.string ⟨#[]⟩, .string ⟨#[]⟩, .string ⟨#[]⟩, .int .i64 0, .int .i64 0, .slice none 0 0, .int .i64 0], .int .i64 aE]) ?_ rfl ⟨none, 0, ?_, Own.nil _ _, hbz _ _ (by have := bW.size; have := n1.out; have := n2.out; have := n3.out; omega) bW⟩; (focus exact results_box_tmp Try.results20 _ (.int .i64 aE) rfl (by first | rfl | simp) Sz ⟨_, Try.underlying64, by kernel_rfl⟩)
    rfl
end Go.Proofs.Ytekdppnlgkfcdaa
