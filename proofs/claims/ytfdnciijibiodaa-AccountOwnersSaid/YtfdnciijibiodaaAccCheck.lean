/- account.Check, walked. -/
import Derived.Test.YtfdnciijibiodaaAccCorr
import Derived.Test.YtfdnciijibiodaaAccCon
import Derived.Test.YtfdnciijibiodaaAccIdx
import Derived.Deep.RegionHeld3
set_option linter.unusedSimpArgs false
namespace Go.Proofs.Ytfdnciijibiodaa
open Go.RowKit Go.Lib

theorem oneA_bad {os : List Ow} {k : Nat} {o : Ow} (h : os[k]? = some o) (hc : corrE o ≠ 0) : oneA os k = corrE o := by
  unfold oneA; rw [h]; simp [hc]
theorem oneA_two {os : List Ow} {k : Nat} {o : Ow} (h : os[k]? = some o) (hc : corrE o = 0) (hl : conL (os.take k) o = true) : oneA os k = 9 := by
  unfold oneA; rw [h]; simp [hc, hl]
theorem oneA_ok {os : List Ow} {k : Nat} {o : Ow} (h : os[k]? = some o) (hc : corrE o = 0) (hl : conL (os.take k) o = false) : oneA os k = 0 := by
  unfold oneA; rw [h]; simp [hc, hl]
theorem checkA_6 {a : Av} (h : nameB a.name = false) : checkA a = 6 := by unfold checkA; rw [if_pos h]
theorem checkA_30 {a : Av} (h : nameB a.name = true) (h1 : emp a.ag = false) (h2 : nameB a.ag = false) : checkA a = 30 := by unfold checkA; rw [if_neg (by rw [h]; simp), if_pos ⟨h1, h2⟩]
theorem checkA_len {a : Av} (h : nameB a.name = true) (h1 : emp a.ag = true ∨ nameB a.ag = true) : checkA a = if 64 < a.os.length then 3 else firstE (oneA a.os) a.os.length := by
  unfold checkA
  rw [if_neg (by rw [h]; simp), if_neg (by rintro ⟨q1, q2⟩; rcases h1 with h1 | h1; (rw [h1] at q1; cases q1); (rw [h1] at q2; cases q2))]
set_option maxRecDepth 100000 in
set_option maxHeartbeats 16000000 in
theorem check_any (a : Ac) {w : World} (h : AOk w a) (hsm : smA a) : Calls Try.prog 27 #[AcV a] w fun e w' => e = .returned (.int .i64 (checkA a.v)) ∧ Below w.heap.size w w' := by
  obtain ⟨⟨nm, ag, pre, os, r0, r1, r2, r3, ex⟩, oA, oc⟩ := a
  obtain ⟨h, hc1, hc2⟩ := h
  simp only at h hc1 hc2
  have H := Lib.hid h
  have HSM := Lib.hid (show ∀ o ∈ os, smO o from hsm.2)
  have hl1 : os.length ≤ 1000 := hsm.1
  have CN := Lib.hid (fun (X : World) => name_any nm X)
  have CG := Lib.hid (fun (X : World) => name_any ag X)
  have CC := Lib.hid (fun (o : Ow) (q : smO o) (X : World) => correct_any o q X)
  have CF := Lib.hid (fun (k : Nat) (hk : k ≤ os.length) (o : Ow) (X : World) (hX : Below w.heap.size w X) => show Calls Try.prog 28 #[.slice oA k oc, OwV o] X _ from by have := conflicts_any (A := oA) oc (l := os.take k) o ((h.st hX).take k) (by rw [List.length_take]; omega); rwa [List.length_take, Nat.min_eq_left hk] at this)
  have H6 := Lib.hid (checkA_6 (a := ⟨nm, ag, pre, os, r0, r1, r2, r3, ex⟩))
  have H30 := Lib.hid (checkA_30 (a := ⟨nm, ag, pre, os, r0, r1, r2, r3, ex⟩))
  have HLN := Lib.hid (checkA_len (a := ⟨nm, ag, pre, os, r0, r1, r2, r3, ex⟩))
  simp only [AcV] at *
  generalize checkA _ = r at *
  clear h hsm
  obtain ⟨Y, hY⟩ : ∃ Y, w.alloc (.cells #[.string nm, .string ag, .bool pre, .slice oA os.length oc, .int .i64 r0, .int .i64 r1, .int .i64 r2, .int .i64 r3, .bool ex] 39) = Y := ⟨_, rfl⟩
  have bW : Below w.heap.size w Y := by rw [← hY]; exact (Below.refl _ w).al _
  have BA : Blk Y w.heap.size #[.string nm, .string ag, .bool pre, .slice oA os.length oc, .int .i64 r0, .int .i64 r1, .int .i64 r2, .int .i64 r3, .bool ex] 39 := by rw [← hY]; exact Blk.new w _ _
  have a0 := BA.cell 0 (v := .string nm) rfl; have a1 := BA.cell 1 rfl; have a3 := BA.cell 3 (v := .slice oA os.length oc) rfl
  cases hn : nameB nm
  · rw [hn] at CN
    have R := Lib.hid (H6.out hn)
    clear hn
    go_enter Try.func27, Try.ntmps27
    go_wp2_with fail
    refine (CN.out _).mono ?_
    rintro e wn ⟨rfl, hbn⟩
    have bW := bW.st hbn; have BA := BA.below hbn BA.lt
    go_wp2_with fail
    go_ret
    obtain rfl := R.out; exact ⟨rfl, bW⟩
  · rw [hn] at CN
    have H30 := Lib.hid (H30.out hn)
    have HLN := Lib.hid (HLN.out hn)
    clear hn H6
    have hways : (emp ag = false ∧ nameB ag = false) ∨ emp ag = true ∨ (emp ag = false ∧ nameB ag = true) := by cases emp ag <;> cases nameB ag <;> simp
    rcases hways with ⟨he, hg⟩ | hways
    · obtain ⟨n1, n2, n3⟩ := toList_neE he
      have R := Lib.hid (H30.out he hg)
      rw [hg] at CG
      clear he hg
      go_enter Try.func27, Try.ntmps27
      go_wp2_with fail
      refine (CN.out _).mono ?_
      rintro e wn ⟨rfl, hbn⟩
      have bW := bW.st hbn; have BA := BA.below hbn BA.lt
      have a0 := BA.cell 0 (v := .string nm) rfl; have a1 := BA.cell 1 rfl; have a3 := BA.cell 3 (v := .slice oA os.length oc) rfl
      go_wp2_with fail
      refine (CG.out _).mono ?_
      rintro e wn ⟨rfl, hbn⟩
      have bW := bW.st hbn; have BA := BA.below hbn BA.lt
      go_wp2_with fail
      go_ret
      obtain rfl := R.out; exact ⟨rfl, bW⟩
    · have HR := Lib.hid (HLN.out (hways.elim Or.inl (fun q => Or.inr q.2)))
      clear H30 HLN
      have HR1 := Lib.hid (fun (q : 64 < os.length) => HR.out.trans (if_pos q))
      have HR2 := Lib.hid (fun (q : ¬ 64 < os.length) => HR.out.trans (if_neg q))
      clear HR
      by_cases h64 : 64 < os.length
      · have R := Lib.hid (HR1.out h64)
        have h64b : 64 < (os.length : Int) := by omega
        clear h64 HR1 HR2
        rcases hways with he | ⟨he, hg⟩
        · obtain rfl := (emp_iff ag).1 he
          clear he CG
          go_enter Try.func27, Try.ntmps27
          go_wp2_with fail
          refine (CN.out _).mono ?_
          rintro e wn ⟨rfl, hbn⟩
          have bW := bW.st hbn; have BA := BA.below hbn BA.lt
          have a0 := BA.cell 0 (v := .string nm) rfl; have a1 := BA.cell 1 rfl; have a3 := BA.cell 3 (v := .slice oA os.length oc) rfl
          go_wp2_with fail
          go_ret
          obtain rfl := R.out; exact ⟨rfl, bW⟩
        · obtain ⟨n1, n2, n3⟩ := toList_neE he
          rw [hg] at CG
          clear he hg
          go_enter Try.func27, Try.ntmps27
          go_wp2_with fail
          refine (CN.out _).mono ?_
          rintro e wn ⟨rfl, hbn⟩
          have bW := bW.st hbn; have BA := BA.below hbn BA.lt
          have a0 := BA.cell 0 (v := .string nm) rfl; have a1 := BA.cell 1 rfl; have a3 := BA.cell 3 (v := .slice oA os.length oc) rfl
          go_wp2_with fail
          refine (CG.out _).mono ?_
          rintro e wn ⟨rfl, hbn⟩
          have bW := bW.st hbn; have BA := BA.below hbn BA.lt
          have a0 := BA.cell 0 (v := .string nm) rfl; have a1 := BA.cell 1 rfl; have a3 := BA.cell 3 (v := .slice oA os.length oc) rfl
          go_wp2_with fail
          go_ret
          obtain rfl := R.out; exact ⟨rfl, bW⟩
      · have HR := Lib.hid (HR2.out h64)
        have h64b : ¬ 64 < (os.length : Int) := by omega
        clear h64 HR1 HR2
        rcases hways with he | ⟨he, hg⟩
        case' inl =>
          obtain ⟨n1, n2, n3⟩ := toList_eE he
          clear he CG
          go_enter Try.func27, Try.ntmps27
          go_wp2_with fail
          refine (CN.out _).mono ?_
          rintro e wn ⟨rfl, hbn⟩
          have bW := bW.st hbn; have BA := BA.below hbn BA.lt
          have a0 := BA.cell 0 (v := .string nm) rfl; have a1 := BA.cell 1 rfl; have a3 := BA.cell 3 (v := .slice oA os.length oc) rfl
          go_wp2_with fail
        case' inr =>
          obtain ⟨n1, n2, n3⟩ := toList_neE he
          rw [hg] at CG
          clear he hg
          go_enter Try.func27, Try.ntmps27
          go_wp2_with fail
          refine (CN.out _).mono ?_
          rintro e wn ⟨rfl, hbn⟩
          have bW := bW.st hbn; have BA := BA.below hbn BA.lt
          have a0 := BA.cell 0 (v := .string nm) rfl; have a1 := BA.cell 1 rfl; have a3 := BA.cell 3 (v := .slice oA os.length oc) rfl
          go_wp2_with fail
          refine (CG.out _).mono ?_
          rintro e wn ⟨rfl, hbn⟩
          have bW := bW.st hbn; have BA := BA.below hbn BA.lt
          have a0 := BA.cell 0 (v := .string nm) rfl; have a1 := BA.cell 1 rfl; have a3 := BA.cell 3 (v := .slice oA os.length oc) rfl
          go_wp2_with fail
        all_goals
          go_loopw [26] (fun i wr => ∃ k : Nat, k ≤ os.length ∧ i = .int .i64 k ∧ Hid (∀ j, j < k → oneA os j = 0) ∧ Blk wr w.heap.size #[.string nm, .string ag, .bool pre, .slice oA os.length oc, .int .i64 r0, .int .i64 r1, .int .i64 r2, .int .i64 r3, .bool ex] 39 ∧ Below w.heap.size w wr) (fun i _ => os.length - (RowKit.intOf i).toNat)
          case atStart => exact ⟨0, Nat.zero_le _, rfl, fun j hj => absurd hj (Nat.not_lt_zero _), BA, bW⟩
          case round =>
            clear BA bW a0 a1 a3
            obtain ⟨k, hk, rfl, HE, BA, bW⟩ := hrel
            by_cases hi : k < os.length
            · obtain ⟨b, off, o, rfl, hb, hx, d0, d1, d2, d3⟩ := (H.out.st bW).ow hi
              have HK := Lib.hid hi
              have CCk := Lib.hid (CC.out o (HSM.out o (List.mem_of_getElem? hx)))
              have CFk := Lib.hid (CF.out k (by omega) o)
              have k1 : (0 : Int) ≤ (k : Int) := by omega
              have k2 : (k : Int) ≤ (oc : Int) := by omega
              have k3 : k ≤ oc := by omega
              obtain ⟨Y2, hY2⟩ : ∃ Y, wr.alloc (.cells #[.string o.tag, .string o.pl, .int .i64 o.f, .int .i64 o.t] 43) = Y := ⟨_, rfl⟩
              have BX : Blk Y2 wr.heap.size #[.string o.tag, .string o.pl, .int .i64 o.f, .int .i64 o.t] 43 := by rw [← hY2]; exact Blk.new wr _ _
              have BA := BA.alloc (.cells #[.string o.tag, .string o.pl, .int .i64 o.f, .int .i64 o.t] 43)
              rw [hY2] at BA
              have bW : Below w.heap.size w Y2 := by rw [← hY2]; exact bW.al _
              have x0 : World.cell? Y2 ⟨wr.heap.size, 0, none⟩ = some (.string o.tag) := BX.cell 0 rfl
              have x1 : World.cell? Y2 ⟨wr.heap.size, 1, none⟩ = some (.string o.pl) := BX.cell 1 rfl
              have x2 : World.cell? Y2 ⟨wr.heap.size, 2, none⟩ = some (.int .i64 o.f) := BX.cell 2 rfl
              have x3 : World.cell? Y2 ⟨wr.heap.size, 3, none⟩ = some (.int .i64 o.t) := BX.cell 3 rfl
              have HX := Lib.hid hx
              by_cases hc : corrE o = 0
              · rw [hc] at CCk
                have HC := Lib.hid hc
                clear hx hi hc
                go_wp2_with fail
                refine (CCk.out _).mono ?_
                rintro e wn ⟨rfl, hbn⟩
                have bW := bW.st hbn; have BA := BA.below hbn BA.lt
                have BX := BX.below hbn BX.lt
                clear x0 x1 x2 x3 hY2
                go_upto_region 13 with fail
                cases hf : conL (os.take k) o
                · have RE := Lib.hid (firstE_up HE.out (oneA_ok HX.out HC.out hf))
                  rw [hf] at CFk
                  clear hf
                  have ltX := BX.lt; (refine wp_region_held_drew (S := (fun w' : World => w'.cell? ⟨w.heap.size, 3, none⟩ = some (.slice (some ⟨b, off, none⟩) os.length oc) ∧ Blk w' wr.heap.size #[.string o.tag, .string o.pl, .int .i64 o.f, .int .i64 o.t] 43)) (by kernel_rfl) ?_ (fun hHeld => ?_)); (focus exact ⟨BA.cell 3 rfl, BX⟩); have bW := bW.drew; have BA := BA.drew; have BX := BX.drew; (change wpAnyH _ _ _ _ _ 6 _ _ _); refine wpAnyH_take (i := 0) (v := ?_) (by simp only [List.getElem?_toArray, List.getElem?_cons_zero, List.getElem?_cons_succ]; rfl) (by kernel_rfl) (by kernel_rfl) (by kernel_rfl) (by intro _ _ _ h; exact h) (Or.inl ⟨by rfl, ?_⟩) (by assumption) ?_; rotate_left; (focus (intro w1 hSw; (try dsimp only at hSw); go_simp; (try with_reducible rfl))); (try simp only [Act.put, List.setIfInBounds_toArray, List.set_cons_zero, List.set_cons_succ, List.getElem_toArray, List.getElem_cons_zero, List.getElem_cons_succ]); refine wpAnyH_take (i := 1) (v := ?_) (by simp only [List.getElem?_toArray, List.getElem?_cons_zero, List.getElem?_cons_succ]; rfl) (by kernel_rfl) (by kernel_rfl) (by kernel_rfl) (by intro _ _ _ h; exact h) (Or.inl ⟨by rfl, ?_⟩) (by assumption) ?_; rotate_left; (focus (intro w1 hSw; (try dsimp only at hSw); go_simp; (try with_reducible rfl))); (try simp only [Act.put, List.setIfInBounds_toArray, List.set_cons_zero, List.set_cons_succ, List.getElem_toArray, List.getElem_cons_zero, List.getElem_cons_succ]); refine wpAnyH_take (i := 2) (v := ?_) (by simp only [List.getElem?_toArray, List.getElem?_cons_zero, List.getElem?_cons_succ]; rfl) (by kernel_rfl) (by kernel_rfl) (by kernel_rfl) (by intro _ _ _ h; exact h) (Or.inl ⟨by rfl, ?_⟩) (by assumption) ?_; rotate_left; (focus (intro w1 hSw; (try dsimp only at hSw); go_simp; (try with_reducible rfl))); (try simp only [Act.put, List.setIfInBounds_toArray, List.set_cons_zero, List.set_cons_succ, List.getElem_toArray, List.getElem_cons_zero, List.getElem_cons_succ]); refine wpAnyH_take (i := 3) (v := ?_) (by simp only [List.getElem?_toArray, List.getElem?_cons_zero, List.getElem?_cons_succ]; rfl) (by kernel_rfl) (by kernel_rfl) (by kernel_rfl) (by intro _ _ _ h; exact h) (Or.inl ⟨by rfl, ?_⟩) (by assumption) ?_; rotate_left; (focus (intro w1 hSw; (try dsimp only at hSw); go_simp; (try with_reducible rfl))); (try simp only [Act.put, List.setIfInBounds_toArray, List.set_cons_zero, List.set_cons_succ, List.getElem_toArray, List.getElem_cons_zero, List.getElem_cons_succ]); refine wpAnyH_take (i := 4) (v := .agg #[.string o.tag, .string o.pl, .int .i64 o.f, .int .i64 o.t]) (by simp only [List.getElem?_toArray, List.getElem?_cons_zero, List.getElem?_cons_succ]; rfl) (by kernel_rfl) (by kernel_rfl) (by kernel_rfl) (by intro _ _ _ h; exact h) (yieldsIf_boxLoad (by rfl) rfl rfl (fun _ hw => hw.2) ⟨_, Try.underlying43, by kernel_rfl⟩) (by assumption) ?_; (try simp only [Act.put, List.setIfInBounds_toArray, List.set_cons_zero, List.set_cons_succ, List.getElem_toArray, List.getElem_cons_zero, List.getElem_cons_succ]); refine wpAnyH_ready (rs := [5]) (by kernel_rfl) (by simp) ?_; refine AllReadyH.cons (by simp only [List.getElem?_toArray, List.getElem?_cons_zero, List.getElem?_cons_succ]; rfl) (fun K hK => ?_) AllReadyH.nil; rw [if_pos (by rfl)]; go_wp2_with fail; refine (CFk.out _ bW).mono ?_; rintro e wn ⟨rfl, hbn⟩; have bW := bW.st hbn; have BA := BA.below hbn BA.lt; have BX := BX.below hbn BX.lt; go_wp2_with fail; refine hK.out _ _ ?_ (fun hHeld => ?_); (focus exact ⟨BA.cell 3 rfl, BX⟩); clear hK K; (try simp only [Act.put, List.setIfInBounds_toArray, List.set_cons_zero, List.set_cons_succ, List.getElem_toArray, List.getElem_cons_zero, List.getElem_cons_succ]); refine wpAnyH_done (by kernel_rfl) ?_ _; clear hHeld
                  go_wp2_with fail
                  go_roundw
                  case rel => exact ⟨k + 1, HK.out, by go_num, RE, BA, bW⟩
                  case measure => have := HK.out; simp [RowKit.intOf]; omega
                · have R := Lib.hid (show r = 9 by rw [HR.out, firstE_some HE.out HK.out (by rw [oneA_two HX.out HC.out hf]; decide), oneA_two HX.out HC.out hf])
                  rw [hf] at CFk
                  clear hf
                  have ltX := BX.lt; (refine wp_region_held_drew (S := (fun w' : World => w'.cell? ⟨w.heap.size, 3, none⟩ = some (.slice (some ⟨b, off, none⟩) os.length oc) ∧ Blk w' wr.heap.size #[.string o.tag, .string o.pl, .int .i64 o.f, .int .i64 o.t] 43)) (by kernel_rfl) ?_ (fun hHeld => ?_)); (focus exact ⟨BA.cell 3 rfl, BX⟩); have bW := bW.drew; have BA := BA.drew; have BX := BX.drew; (change wpAnyH _ _ _ _ _ 6 _ _ _); refine wpAnyH_take (i := 0) (v := ?_) (by simp only [List.getElem?_toArray, List.getElem?_cons_zero, List.getElem?_cons_succ]; rfl) (by kernel_rfl) (by kernel_rfl) (by kernel_rfl) (by intro _ _ _ h; exact h) (Or.inl ⟨by rfl, ?_⟩) (by assumption) ?_; rotate_left; (focus (intro w1 hSw; (try dsimp only at hSw); go_simp; (try with_reducible rfl))); (try simp only [Act.put, List.setIfInBounds_toArray, List.set_cons_zero, List.set_cons_succ, List.getElem_toArray, List.getElem_cons_zero, List.getElem_cons_succ]); refine wpAnyH_take (i := 1) (v := ?_) (by simp only [List.getElem?_toArray, List.getElem?_cons_zero, List.getElem?_cons_succ]; rfl) (by kernel_rfl) (by kernel_rfl) (by kernel_rfl) (by intro _ _ _ h; exact h) (Or.inl ⟨by rfl, ?_⟩) (by assumption) ?_; rotate_left; (focus (intro w1 hSw; (try dsimp only at hSw); go_simp; (try with_reducible rfl))); (try simp only [Act.put, List.setIfInBounds_toArray, List.set_cons_zero, List.set_cons_succ, List.getElem_toArray, List.getElem_cons_zero, List.getElem_cons_succ]); refine wpAnyH_take (i := 2) (v := ?_) (by simp only [List.getElem?_toArray, List.getElem?_cons_zero, List.getElem?_cons_succ]; rfl) (by kernel_rfl) (by kernel_rfl) (by kernel_rfl) (by intro _ _ _ h; exact h) (Or.inl ⟨by rfl, ?_⟩) (by assumption) ?_; rotate_left; (focus (intro w1 hSw; (try dsimp only at hSw); go_simp; (try with_reducible rfl))); (try simp only [Act.put, List.setIfInBounds_toArray, List.set_cons_zero, List.set_cons_succ, List.getElem_toArray, List.getElem_cons_zero, List.getElem_cons_succ]); refine wpAnyH_take (i := 3) (v := ?_) (by simp only [List.getElem?_toArray, List.getElem?_cons_zero, List.getElem?_cons_succ]; rfl) (by kernel_rfl) (by kernel_rfl) (by kernel_rfl) (by intro _ _ _ h; exact h) (Or.inl ⟨by rfl, ?_⟩) (by assumption) ?_; rotate_left; (focus (intro w1 hSw; (try dsimp only at hSw); go_simp; (try with_reducible rfl))); (try simp only [Act.put, List.setIfInBounds_toArray, List.set_cons_zero, List.set_cons_succ, List.getElem_toArray, List.getElem_cons_zero, List.getElem_cons_succ]); refine wpAnyH_take (i := 4) (v := .agg #[.string o.tag, .string o.pl, .int .i64 o.f, .int .i64 o.t]) (by simp only [List.getElem?_toArray, List.getElem?_cons_zero, List.getElem?_cons_succ]; rfl) (by kernel_rfl) (by kernel_rfl) (by kernel_rfl) (by intro _ _ _ h; exact h) (yieldsIf_boxLoad (by rfl) rfl rfl (fun _ hw => hw.2) ⟨_, Try.underlying43, by kernel_rfl⟩) (by assumption) ?_; (try simp only [Act.put, List.setIfInBounds_toArray, List.set_cons_zero, List.set_cons_succ, List.getElem_toArray, List.getElem_cons_zero, List.getElem_cons_succ]); refine wpAnyH_ready (rs := [5]) (by kernel_rfl) (by simp) ?_; refine AllReadyH.cons (by simp only [List.getElem?_toArray, List.getElem?_cons_zero, List.getElem?_cons_succ]; rfl) (fun K hK => ?_) AllReadyH.nil; rw [if_pos (by rfl)]; go_wp2_with fail; refine (CFk.out _ bW).mono ?_; rintro e wn ⟨rfl, hbn⟩; have bW := bW.st hbn; have BA := BA.below hbn BA.lt; have BX := BX.below hbn BX.lt; go_wp2_with fail; refine hK.out _ _ ?_ (fun hHeld => ?_); (focus exact ⟨BA.cell 3 rfl, BX⟩); clear hK K; (try simp only [Act.put, List.setIfInBounds_toArray, List.set_cons_zero, List.set_cons_succ, List.getElem_toArray, List.getElem_cons_zero, List.getElem_cons_succ]); refine wpAnyH_done (by kernel_rfl) ?_ _; clear hHeld
                  go_wp2_with fail
                  go_ret
                  obtain rfl := R.out; exact ⟨rfl, bW⟩
              · have R := Lib.hid (show r = corrE o by rw [HR.out, firstE_some HE.out hi (by rw [oneA_bad hx hc]; exact hc), oneA_bad hx hc])
                generalize corrE o = v at *
                have hv : (v != 0) = true := by simp [hc]
                clear hx hi hc
                go_wp2_with fail
                refine (CCk.out _).mono ?_
                rintro e wn ⟨rfl, hbn⟩
                have bW := bW.st hbn; have BA := BA.below hbn BA.lt
                go_wp2_with fail
                go_ret
                obtain rfl := R.out; exact ⟨rfl, bW⟩
            · obtain rfl : k = os.length := by omega
              have R := Lib.hid (show r = 0 by rw [HR.out, firstE_none HE.out])
              go_wp2
              go_ret
              obtain rfl := R.out; exact ⟨rfl, bW⟩
end Go.Proofs.Ytfdnciijibiodaa
