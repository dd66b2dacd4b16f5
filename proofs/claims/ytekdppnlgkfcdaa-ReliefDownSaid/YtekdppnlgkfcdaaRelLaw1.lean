/- The laws ReliefChecks and ReliefDown, walked. -/
import Derived.Test.YtekdppnlgkfcdaaRelAwake
import Derived.Test.YtekdppnlgkfcdaaRelRPart
import Derived.Test.YtekdppnlgkfcdaaRelDowns
import Derived.Test.YtekdppnlgkfcdaaRelLawFns
set_option linter.unusedSimpArgs false
namespace Go.Proofs.Ytekdppnlgkfcdaa
open Go.RowKit Go.Lib

set_option maxRecDepth 100000 in
set_option maxHeartbeats 8000000 in
theorem reliefChecks_walk {A B : Option Addr} (c d : Nat) {l : List Iv} {ks : List Int} {w : World} (h : Rd encIv 2 w w.heap.size A l) (hk : Rd encI 1 w w.heap.size B ks) :
    Calls Try.prog 3 #[.slice A l.length c, .slice B ks.length d] w fun e w' => e = .returned (.bool true) ∧ Below w.heap.size w w' := by
  have bW := Below.refl w.heap.size w
  by_cases g1 : 14 < l.length
  · go_enter Try.func3, Try.ntmps3
    go_wp2_with fail; refine (awake_any _).mono ?_; rintro e wl ⟨rfl, hbl⟩; have bL := bW.st hbl; go_wp2_with fail; go_ret; exact ⟨rfl, bL⟩
  · by_cases g2 : 20 < ks.length
    · go_enter Try.func3, Try.ntmps3
      go_wp2_with fail; refine (awake_any _).mono ?_; rintro e wl ⟨rfl, hbl⟩; have bL := bW.st hbl; go_wp2_with fail; go_ret; exact ⟨rfl, bL⟩
    · have C1 := Lib.hid (fun (X : World) (hX : Below w.heap.size w X) => qcheck_any c (h.st hX))
      have C2 := Lib.hid (fun (X : World) (hX : Below w.heap.size w X) => rqcheck_any c (h.st hX))
      have C3 := Lib.hid (fun (X : World) (hX : Below w.heap.size w X) => qpart_any c d (h.st hX) (hk.st hX) (by omega))
      have C4 := Lib.hid (fun (X : World) (hX : Below w.heap.size w X) => rqpart_any c d (h.st hX) (hk.st hX) (by omega))
      generalize relsE l = E at *
      generalize partN l ks = n at *
      have e1 : (E == E) = true := by simp
      have e2 : (n == n) = true := by simp
      clear h hk
      go_enter Try.func3, Try.ntmps3
      go_wp2_with (first | (go_at_call 10; (with_reducible refine (C1.out _ bW).mono ?_); rintro e wn ⟨rfl, hbn⟩; have bW := bW.st hbn; clear hbn) | (go_at_call 11; (with_reducible refine (C2.out _ bW).mono ?_); rintro e wn ⟨rfl, hbn⟩; have bW := bW.st hbn; clear hbn) | (go_at_call 12; (with_reducible refine (C3.out _ bW).mono ?_); rintro e wn ⟨rfl, hbn⟩; have bW := bW.st hbn; clear hbn) | (go_at_call 13; (with_reducible refine (C4.out _ bW).mono ?_); rintro e wn ⟨rfl, hbn⟩; have bW := bW.st hbn; clear hbn) | (go_at_call 9; (refine (awake_any _).mono ?_); rintro e wn ⟨rfl, hbn⟩; have bW := bW.st hbn; clear hbn))
      go_ret
      exact ⟨rfl, bW⟩

set_option maxRecDepth 100000 in
set_option maxHeartbeats 8000000 in
theorem reliefDown_walk {dvA rlA stA : Option Addr} (dvc rlc stc : Nat) {dvs : List Dv} {rls : List Iv} {sts : List St} (tid tvh tsy : ByteArray) (tcl : Int) {w : World} (h : Rd encD 6 w w.heap.size dvA dvs) (hz : DsOk w dvs) (hos : ∀ d ∈ dvs, d.os.length ≤ 8796093022208) (hs : Rd encSt 3 w w.heap.size stA sts) (hm1 : dvs.length ≤ 9223372036854775807) (hm2 : sts.length ≤ 9223372036854775807) :
    Calls Try.prog 4 #[(.agg #[.slice dvA dvs.length dvc, .slice rlA rls.length rlc]), .agg #[.string tid, .string tvh, .string tsy, .int .i64 tcl, .slice stA sts.length stc]] w fun e w' => e = .returned (.bool true) ∧ Below w.heap.size w w' := by
  obtain ⟨Y1, hY1⟩ : ∃ Y, w.alloc (.cells #[.slice dvA dvs.length dvc, .slice rlA rls.length rlc] 32) = Y := ⟨_, rfl⟩; have b1 : Below w.heap.size w Y1 := (by rw [← hY1]; exact (Below.refl _ w).al _); have SP : Blk Y1 w.heap.size #[.slice dvA dvs.length dvc, .slice rlA rls.length rlc] 32 := (by rw [← hY1]; exact Blk.new w _ _); obtain ⟨Y2, hY2⟩ : ∃ Y, Y1.alloc (.cells #[.string tid, .string tvh, .string tsy, .int .i64 tcl, .slice stA sts.length stc] 35) = Y := ⟨_, rfl⟩; have d2 : Below Y1.heap.size Y1 Y2 := (by rw [← hY2]; exact (Below.refl _ Y1).al _); have ST : Blk Y2 Y1.heap.size #[.string tid, .string tvh, .string tsy, .int .i64 tcl, .slice stA sts.length stc] 35 := (by rw [← hY2]; exact Blk.new Y1 _ _); have n1 := Lib.hid SP.lt; have SP := SP.below d2 SP.lt; have bW := b1.st d2; clear b1 d2
  have CF := Lib.hid (fun (X : World) (hX : Below w.heap.size w X) => few_any (rlA := rlA) (rls := rls) dvc rlc stc tid tvh tsy tcl (h.st hX) (hs.st hX) hm1 hm2)
  have CD := Lib.hid (fun (g : FOk dvs rls sts) (X : World) (hX : Below w.heap.size w X) => qdown_any (rlA := rlA) (rls := rls) dvc rlc stc tid tvh tsy tcl (h.st hX) (hz.st hX) (by have := g.1; omega) (g.small hos) (hs.st hX) (by have := g.2.2.2; omega))
  have CE := Lib.hid (fun (g : FOk dvs rls sts) (X : World) (hX : Below w.heap.size w X) => rrdown_any (rlA := rlA) (rls := rls) dvc rlc stc tid tvh tsy tcl (h.st hX) (hz.st hX) (by have := g.1; omega) (fun d hd => by have := g.2.1 d hd; omega) (hs.st hX) (by have := g.2.2.2; omega))
  have CN := Lib.hid (fun (X : World) => conf_any (dvA := dvA) (rlA := rlA) (dvs := dvs) (rls := rls) dvc rlc X)
  have hkl : (downL dvs sts).length ≤ 3 := dnN_length dvs sts 3
  generalize downL dvs sts = ks at *
  clear h hz hos hs hm1 hm2
  go_enter Try.func4, Try.ntmps4
  go_wp2_with (first | (refine wpList_boxLoad rfl (ty := 32) (x := .tmp 2) (cs := #[.slice dvA dvs.length dvc, .slice rlA rls.length rlc]) rfl SP rfl ⟨_, Try.underlying32, by kernel_rfl⟩ ?_) | (refine wpList_boxLoad rfl (ty := 35) (x := .tmp 3) (cs := #[.string tid, .string tvh, .string tsy, .int .i64 tcl, .slice stA sts.length stc]) rfl ST rfl ⟨_, Try.underlying35, by kernel_rfl⟩ ?_))
  refine (CF.out _ bW).mono ?_
  rintro e w2 ⟨b, rfl, hb, hbn⟩
  have bW := bW.st hbn
  have SP := SP.below hbn SP.lt
  have ST := ST.below hbn ST.lt
  clear hbn CF
  cases b
  · go_wp2_with fail; refine (awake_any _).mono ?_; rintro e wl ⟨rfl, hbl⟩; have bL := bW.st hbl; go_wp2_with fail; go_ret; exact ⟨rfl, bL⟩
  · have CD := Lib.hid (CD.out (hb rfl))
    have CE := Lib.hid (CE.out (hb rfl))
    clear hb
    go_wp2_with fail
    refine wp_region_held_drew (S := fun w' => Blk w' w.heap.size #[.slice dvA dvs.length dvc, .slice rlA rls.length rlc] 32 ∧ Blk w' Y1.heap.size #[.string tid, .string tvh, .string tsy, .int .i64 tcl, .slice stA sts.length stc] 35) (by kernel_rfl) ?_ (fun hHeld => ?_)
    focus exact ⟨SP.drew, ST.drew⟩
    have bW := bW.drew
    have SP := SP.drew
    have ST := ST.drew
    change wpAnyH _ _ _ _ _ 13 _ _ _
    refine wpAnyH_take (i := 0) (v := .agg #[.slice dvA dvs.length dvc, .slice rlA rls.length rlc]) (by simp only [List.getElem?_toArray, List.getElem?_cons_zero, List.getElem?_cons_succ]; rfl) (by kernel_rfl) (by kernel_rfl) (by kernel_rfl) (by intro _ _ _ h; exact h) (yieldsIf_boxLoad (by rfl) rfl rfl (fun _ hw => hw.1) ⟨_, Try.underlying32, by kernel_rfl⟩) (by assumption) ?_; (try simp only [Act.put, List.setIfInBounds_toArray, List.set_cons_zero, List.set_cons_succ, List.getElem_toArray, List.getElem_cons_zero, List.getElem_cons_succ])
    refine wpAnyH_take (i := 2) (v := .agg #[.string tid, .string tvh, .string tsy, .int .i64 tcl, .slice stA sts.length stc]) (by simp only [List.getElem?_toArray, List.getElem?_cons_zero, List.getElem?_cons_succ]; rfl) (by kernel_rfl) (by kernel_rfl) (by kernel_rfl) (by intro _ _ _ h; exact h) (yieldsIf_boxLoad (by rfl) rfl rfl (fun _ hw => hw.2) ⟨_, Try.underlying35, by kernel_rfl⟩) (by assumption) ?_; (try simp only [Act.put, List.setIfInBounds_toArray, List.set_cons_zero, List.set_cons_succ, List.getElem_toArray, List.getElem_cons_zero, List.getElem_cons_succ])
    refine wpAnyH_take (i := 4) (v := .agg #[.slice dvA dvs.length dvc, .slice rlA rls.length rlc]) (by simp only [List.getElem?_toArray, List.getElem?_cons_zero, List.getElem?_cons_succ]; rfl) (by kernel_rfl) (by kernel_rfl) (by kernel_rfl) (by intro _ _ _ h; exact h) (yieldsIf_boxLoad (by rfl) rfl rfl (fun _ hw => hw.1) ⟨_, Try.underlying32, by kernel_rfl⟩) (by assumption) ?_; (try simp only [Act.put, List.setIfInBounds_toArray, List.set_cons_zero, List.set_cons_succ, List.getElem_toArray, List.getElem_cons_zero, List.getElem_cons_succ])
    refine wpAnyH_take (i := 6) (v := .agg #[.string tid, .string tvh, .string tsy, .int .i64 tcl, .slice stA sts.length stc]) (by simp only [List.getElem?_toArray, List.getElem?_cons_zero, List.getElem?_cons_succ]; rfl) (by kernel_rfl) (by kernel_rfl) (by kernel_rfl) (by intro _ _ _ h; exact h) (yieldsIf_boxLoad (by rfl) rfl rfl (fun _ hw => hw.2) ⟨_, Try.underlying35, by kernel_rfl⟩) (by assumption) ?_; (try simp only [Act.put, List.setIfInBounds_toArray, List.set_cons_zero, List.set_cons_succ, List.getElem_toArray, List.getElem_cons_zero, List.getElem_cons_succ])
    refine wpAnyH_ready (rs := [1]) (by kernel_rfl) (by simp) ?_; refine AllReadyH.cons (by simp only [List.getElem?_toArray, List.getElem?_cons_zero, List.getElem?_cons_succ]; rfl) (fun K hK => ?_) AllReadyH.nil; rw [if_pos (by rfl)]; go_wp2_with fail; refine (CN.out _).mono ?_; rintro e wn ⟨rfl, hbn⟩; have bW := bW.st hbn; have SP := SP.below hbn SP.lt; have ST := ST.below hbn ST.lt; (try have rd1 := rd1.st hbn); (try have rd2 := rd2.st hbn); go_wp2_with fail; refine hK.out _ _ ?_ (fun hHeld => ?_); (focus exact ⟨SP, ST⟩); clear hK K hbn; (try simp only [Act.put, List.setIfInBounds_toArray, List.set_cons_zero, List.set_cons_succ, List.getElem_toArray, List.getElem_cons_zero, List.getElem_cons_succ])
    refine wpAnyH_ready (rs := [3]) (by kernel_rfl) (by simp) ?_; refine AllReadyH.cons (by simp only [List.getElem?_toArray, List.getElem?_cons_zero, List.getElem?_cons_succ]; rfl) (fun K hK => ?_) AllReadyH.nil
    rw [if_pos (by rfl)]; go_wp2_with fail
    refine (CD.out _ bW).mono ?_
    rintro e wn ⟨kA, kc, rfl, ho, hbn⟩
    have rd1 := ho.rd encI_ok
    have bW := bW.st hbn
    have SP := SP.below hbn SP.lt
    have ST := ST.below hbn ST.lt
    go_wp2_with fail; refine hK.out _ _ ?_ (fun hHeld => ?_); (focus exact ⟨SP, ST⟩); clear hK K hbn; (try simp only [Act.put, List.setIfInBounds_toArray, List.set_cons_zero, List.set_cons_succ, List.getElem_toArray, List.getElem_cons_zero, List.getElem_cons_succ])
    refine wpAnyH_ready (rs := [5]) (by kernel_rfl) (by simp) ?_; refine AllReadyH.cons (by simp only [List.getElem?_toArray, List.getElem?_cons_zero, List.getElem?_cons_succ]; rfl) (fun K hK => ?_) AllReadyH.nil; rw [if_pos (by rfl)]; go_wp2_with fail; refine (CN.out _).mono ?_; rintro e wn ⟨rfl, hbn⟩; have bW := bW.st hbn; have SP := SP.below hbn SP.lt; have ST := ST.below hbn ST.lt; (try have rd1 := rd1.st hbn); (try have rd2 := rd2.st hbn); go_wp2_with fail; refine hK.out _ _ ?_ (fun hHeld => ?_); (focus exact ⟨SP, ST⟩); clear hK K hbn; (try simp only [Act.put, List.setIfInBounds_toArray, List.set_cons_zero, List.set_cons_succ, List.getElem_toArray, List.getElem_cons_zero, List.getElem_cons_succ])
    refine wpAnyH_ready (rs := [7]) (by kernel_rfl) (by simp) ?_; refine AllReadyH.cons (by simp only [List.getElem?_toArray, List.getElem?_cons_zero, List.getElem?_cons_succ]; rfl) (fun K hK => ?_) AllReadyH.nil
    rw [if_pos (by rfl)]; go_wp2_with fail
    refine (CE.out _ bW).mono ?_
    rintro e wm ⟨kA2, kc2, rfl, ho2, hbn⟩
    have rd2 := ho2.rd encI_ok
    have rd1 := rd1.st hbn
    have bW := bW.st hbn
    have SP := SP.below hbn SP.lt
    have ST := ST.below hbn ST.lt
    go_wp2_with fail; refine hK.out _ _ ?_ (fun hHeld => ?_); (focus exact ⟨SP, ST⟩); clear hK K hbn; (try simp only [Act.put, List.setIfInBounds_toArray, List.set_cons_zero, List.set_cons_succ, List.getElem_toArray, List.getElem_cons_zero, List.getElem_cons_succ])
    refine wpAnyH_ready (rs := [8]) (by kernel_rfl) (by simp) ?_; refine AllReadyH.cons (by simp only [List.getElem?_toArray, List.getElem?_cons_zero, List.getElem?_cons_succ]; rfl) (fun K hK => ?_) AllReadyH.nil; rw [if_pos (by rfl)]; go_wp2_with fail; refine (sameN_true kc kc2 rd1 rd2 (by omega)).mono ?_; rintro e wn ⟨rfl, hbn⟩; have bW := bW.st hbn; have SP := SP.below hbn SP.lt; have ST := ST.below hbn ST.lt; (try have rd1 := rd1.st hbn); (try have rd2 := rd2.st hbn); go_wp2_with fail; refine hK.out _ _ ?_ (fun hHeld => ?_); (focus exact ⟨SP, ST⟩); clear hK K hbn; (try simp only [Act.put, List.setIfInBounds_toArray, List.set_cons_zero, List.set_cons_succ, List.getElem_toArray, List.getElem_cons_zero, List.getElem_cons_succ])
    refine wpAnyH_take (i := 9) (v := ?_) (by simp only [List.getElem?_toArray, List.getElem?_cons_zero, List.getElem?_cons_succ]; rfl) (by kernel_rfl) (by kernel_rfl) (by kernel_rfl) (by intro _ _ _ h; exact h) (Or.inl ⟨by rfl, ?_⟩) (by assumption) ?_; rotate_left; (focus (intro w1 hSw; (try dsimp only at hSw); go_simp; (try with_reducible rfl))); (try simp only [Act.put, List.setIfInBounds_toArray, List.set_cons_zero, List.set_cons_succ, List.getElem_toArray, List.getElem_cons_zero, List.getElem_cons_succ])
    refine wpAnyH_ready (rs := [10]) (by kernel_rfl) (by simp) ?_; refine AllReadyH.cons (by simp only [List.getElem?_toArray, List.getElem?_cons_zero, List.getElem?_cons_succ]; rfl) (fun K hK => ?_) AllReadyH.nil; rw [if_pos (by rfl)]; go_wp2_with fail; refine (awake_any _).mono ?_; rintro e wn ⟨rfl, hbn⟩; have bW := bW.st hbn; have SP := SP.below hbn SP.lt; have ST := ST.below hbn ST.lt; (try have rd1 := rd1.st hbn); (try have rd2 := rd2.st hbn); go_wp2_with fail; refine hK.out _ _ ?_ (fun hHeld => ?_); (focus exact ⟨SP, ST⟩); clear hK K hbn; (try simp only [Act.put, List.setIfInBounds_toArray, List.set_cons_zero, List.set_cons_succ, List.getElem_toArray, List.getElem_cons_zero, List.getElem_cons_succ])
    refine wpAnyH_take (i := 11) (v := ?_) (by simp only [List.getElem?_toArray, List.getElem?_cons_zero, List.getElem?_cons_succ]; rfl) (by kernel_rfl) (by kernel_rfl) (by kernel_rfl) (by intro _ _ _ h; exact h) (Or.inl ⟨by rfl, ?_⟩) (by assumption) ?_; rotate_left; (focus (intro w1 hSw; (try dsimp only at hSw); go_simp; (try with_reducible rfl))); (try simp only [Act.put, List.setIfInBounds_toArray, List.set_cons_zero, List.set_cons_succ, List.getElem_toArray, List.getElem_cons_zero, List.getElem_cons_succ])
    refine wpAnyH_take (i := 12) (v := ?_) (by simp only [List.getElem?_toArray, List.getElem?_cons_zero, List.getElem?_cons_succ]; rfl) (by kernel_rfl) (by kernel_rfl) (by kernel_rfl) (by intro _ _ _ h; exact h) (Or.inl ⟨by rfl, ?_⟩) (by assumption) ?_; rotate_left; (focus (intro w1 hSw; (try dsimp only at hSw); go_simp; (try with_reducible rfl))); (try simp only [Act.put, List.setIfInBounds_toArray, List.set_cons_zero, List.set_cons_succ, List.getElem_toArray, List.getElem_cons_zero, List.getElem_cons_succ])
    refine wpAnyH_done (by kernel_rfl) ?_ _
    go_wp2_with fail
    go_ret
    exact ⟨rfl, bW⟩
end Go.Proofs.Ytekdppnlgkfcdaa
