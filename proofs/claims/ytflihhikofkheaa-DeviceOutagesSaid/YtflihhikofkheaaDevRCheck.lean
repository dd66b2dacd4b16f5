/- The reference's IsName and Check, walked. -/
import Derived.Test.YtflihhikofkheaaDevROne
import Derived.Test.YtflihhikofkheaaDevCopy
import Derived.Deep.DrawnRows
namespace Go.Proofs.Ytflihhikofkheaa
open Go.RowKit Go.Lib

set_option maxHeartbeats 1000000 in
theorem rIsName_any (s : ByteArray) (w : World) :
    Calls Try.prog 31 #[.string s] w fun e w' => e = .returned (.bool (nameB s)) ∧ w' = w := by
  generalize hr : nameB s = r
  by_cases h0 : s.size < 1
  · have R := Lib.hid (show r = false by rw [← hr, nameB, show decide (1 ≤ s.size) = false from decide_eq_false (by omega)]; rfl)
    clear hr
    go_enter Try.func31, Try.ntmps31
    go_wp2
    all_goals (go_ret; rw [R.out]; exact ⟨rfl, rfl⟩)
  · by_cases h12 : 12 < s.size
    · have R := Lib.hid (show r = false by rw [← hr, nameB, show decide (s.size ≤ 12) = false from decide_eq_false (by omega)]; simp)
      clear hr
      go_enter Try.func31, Try.ntmps31
      go_wp2
      all_goals (go_ret; rw [R.out]; exact ⟨rfl, rfl⟩)
    · have hp0 : 0 < s.size := by omega
      obtain ⟨c0, hc0⟩ : ∃ c0 : Nat, (s[0]'hp0).toNat = c0 := ⟨_, rfl⟩
      cases ho0 : okByte 0 c0
      · have R := Lib.hid (show r = false by rw [← hr]; exact nameB_no hp0 (by rw [hc0]; exact ho0))
        have hz : (c0 : Int) < 97 ∨ (97 ≤ (c0 : Int) ∧ 122 < (c0 : Int)) := by
          unfold okByte at ho0
          simp at ho0
          omega
        clear hr ho0
        go_enter Try.func31, Try.ntmps31
        rcases hz with h1 | ⟨h1, h2⟩
        all_goals (go_wp2; all_goals (go_ret; rw [R.out]; exact ⟨rfl, rfl⟩))
      · have hz : 97 ≤ (c0 : Int) ∧ (c0 : Int) ≤ 122 := by
          unfold okByte at ho0
          simp at ho0
          omega
        obtain ⟨h1, h2⟩ := hz
        have HO := Lib.hid (show okByte 0 (s[0]'hp0).toNat = true by rw [hc0]; exact ho0)
        have HR := Lib.hid hr
        clear hr
        go_enter Try.func31, Try.ntmps31
        go_wp2
        go_loopw [3] (fun i wr => ∃ k : Nat, k ≤ s.size ∧ i = .int .i64 k ∧ wr = w ∧ Hid (nameTo s k)) (fun i _ => s.size - (intOf i).toNat)
        case atStart => exact ⟨0, Nat.zero_le _, rfl, rfl, fun i _ h => absurd h (Nat.not_lt_zero _)⟩
        case round =>
          obtain ⟨k, hkl, rfl, rfl, HN⟩ := hrel
          clear h1 h2 hc0
          by_cases hk : k < s.size
          · obtain ⟨c, hc⟩ : ∃ c : Nat, (s[k]'hk).toNat = c := ⟨_, rfl⟩
            cases ho : okByte k c
            · have hk0 : k ≠ 0 := by
                rintro rfl
                rw [← hc, HO.out] at ho
                cases ho
              have R := Lib.hid (show r = false by rw [← HR.out, nameB_no hk (by rw [hc]; exact ho)])
              have hno := okByte_no' ho hk0
              clear ho
              rcases hno with ⟨h1, h2⟩ | ⟨h1, h2⟩ | h1
              all_goals (go_wp2; all_goals first | (go_ret; rw [R.out]; exact ⟨rfl, rfl⟩) | (exfalso; rename_i hx; simp at hx; omega) | skip)
            · have R := Lib.hid (nameTo_succ HN.out hk (by rw [hc]; exact ho))
              have hyes := okByte_yes' ho
              clear ho
              rcases hyes with ⟨h1, h2⟩ | ⟨h1, h2, h3⟩ | ⟨h1, h2⟩
              all_goals
                go_wp2
                go_roundw
                case rel => exact ⟨k + 1, by omega, by go_num, by first | rfl | trivial, R⟩
                case measure => simp [intOf]; omega
          · obtain rfl : k = s.size := by omega
            have R := Lib.hid (show r = true by rw [← HR.out]; exact (nameB_iff s).2 ⟨by omega, by omega, HN.out⟩)
            go_wp2
            go_ret
            rw [R.out]
            exact ⟨rfl, rfl⟩

theorem devX_6r {ps : List Pt} {d : Dv} {b : Bool} (h : nameB d.name = false) : devX ps b d = 6 := by unfold devX; rw [if_pos h]
theorem devX_9r {ps : List Pt} {d : Dv} (h : nameB d.name = true) : devX ps true d = 9 := by unfold devX; rw [if_neg (by rw [h]; simp), if_pos rfl]
theorem devX_oner {ps : List Pt} {d : Dv} (h : nameB d.name = true) : devX ps false d = oneE ps d := by unfold devX; rw [if_neg (by rw [h]; simp), if_neg (by simp)]

set_option maxRecDepth 100000 in
set_option maxHeartbeats 8000000 in
theorem rcheck_any {A : Option Addr} (c : Nat) {l : List Dv} (n : Nw) {w : World} (h : Rd encD 6 w w.heap.size A l) (hz : DsOk w l) (hn : NwOk w n) (hsm : ∀ d ∈ l, smallD d) (hl3 : n.ps.length ≤ 100000000000) :
    Calls Try.prog 12 #[.slice A l.length c, NV n] w fun e w' => e = .returned (.int .i64 (devsE n.ps l)) ∧ Below w.heap.size w w' := by
  have H := Lib.hid h
  have CO := Lib.hid (fun (X : World) (hX : Below w.heap.size w X) (d : Dv) (hd : d ∈ l) => rone_any d n ((hz d hd).st hX) (hn.st hX) (hsm d hd).1 (hsm d hd).2 hl3)
  have HR := Lib.hid (show ¬ 1024 < l.length → devsE n.ps l = firstE (devE n.ps l) l.length from fun h => by unfold devsE; rw [if_neg h])
  have HB := Lib.hid (show 1024 < l.length → devsE n.ps l = 3 from fun h => by unfold devsE; rw [if_pos h])
  generalize devsE n.ps l = r at *
  clear h hz hsm hn
  obtain ⟨pA, pc, ps, lA, ln2, lc⟩ := n
  simp only [NV] at *
  obtain ⟨Y, hY⟩ : ∃ Y, w.alloc (.cells #[.slice pA ps.length pc, .slice lA ln2 lc] 26) = Y := ⟨_, rfl⟩
  have bW : Below w.heap.size w Y := by rw [← hY]; exact (Below.refl _ w).al _
  have bN : Blk Y w.heap.size #[.slice pA ps.length pc, .slice lA ln2 lc] 26 := by rw [← hY]; exact Blk.new w _ _
  by_cases hbig : 1024 < l.length
  · have R := HB.out hbig
    subst R
    clear HR HB CO
    go_enter Try.func12, Try.ntmps12
    go_wp2
    go_ret
    exact ⟨rfl, bW⟩
  · have HR := Lib.hid (HR.out hbig)
    clear HB
    go_enter Try.func12, Try.ntmps12
    go_wp2_with fail
    go_loopw [5] (fun i wr => ∃ k : Nat, k ≤ l.length ∧ i = .int .i64 k ∧ Hid (∀ j, j < k → devE ps l j = 0) ∧ Blk wr w.heap.size #[.slice pA ps.length pc, .slice lA ln2 lc] 26 ∧ Below w.heap.size w wr) (fun i _ => l.length - (intOf i).toNat)
    case atStart => exact ⟨0, Nat.zero_le _, rfl, fun j hj => absurd hj (Nat.not_lt_zero _), bN, bW⟩
    case round =>
      clear bN bW
      obtain ⟨k, hk, rfl, HE, bN, bX⟩ := hrel
      by_cases hi : k < l.length
      · have HD := fun (W : World) (hW : Below w.heap.size w W) => (H.out.st hW).d hi
        obtain ⟨b, off, d, rfl, hg, hx, d0, d1, d2, d3, d4, d5⟩ := (H.out.st bX).d hi
        have hgw : b < w.heap.size := by
          obtain ⟨b', off', _, hA, hb', _⟩ := H.out.d hi
          injection hA with hA; injection hA with hA1
          omega
        have hmem := List.mem_of_getElem? hx
        have he := devE_at (ps := ps) hx
        have COd := Lib.hid (fun (X : World) (hX : Below w.heap.size w X) => CO.out X hX d hmem)
        have HL := Lib.hid hi
        have CN := Lib.hid (rIsName_any d.name wr)
        have k0 : (0 : Int) ≤ (k : Int) := by omega
        have kl : (k : Int) < (l.length : Int) := by omega
        have n0 : World.cell? wr ⟨w.heap.size, 0, none⟩ = some (.slice pA ps.length pc) := bN.cell 0 rfl
        have n1 : World.cell? wr ⟨w.heap.size, 1, none⟩ = some (.slice lA ln2 lc) := bN.cell 1 rfl
        cases hnm : nameB d.name
        · rw [hnm] at CN
          rw [devX_6r hnm] at he
          have R := Lib.hid (show r = 6 by rw [HR.out, firstE_some HE.out hi (by rw [he]; decide), he])
          clear he COd CO hnm HD hx hmem
          go_wp2_with fail
          refine CN.out.mono ?_
          rintro e w2 ⟨rfl, rfl⟩
          go_wp2
          all_goals (go_ret; rw [R.out]; exact ⟨rfl, bX⟩)
        · rw [hnm] at CN
          have HN1 := Lib.hid (fun hf : ((l.take k).any fun y => eqS y.name d.name) = true => by rw [hf, devX_9r hnm] at he; exact he)
          have HN0 := Lib.hid (fun hf : ((l.take k).any fun y => eqS y.name d.name) = false => by rw [hf, devX_oner hnm] at he; exact he)
          have HX := Lib.hid hx
          clear hnm he CO hmem
          obtain ⟨wo, rfl⟩ : ∃ wo : World, wo = wr := ⟨_, rfl⟩
          clear hx
          go_wp2_with fail
          refine CN.out.mono ?_
          rintro e w2 ⟨rfl, rfl⟩
          go_wp2_with fail
          go_loopw [6] (fun i wr => ∃ j m : Nat, j ≤ k ∧ i = .int .i64 j ∧ Hid (∀ y ∈ (l.take k).take j, eqS y.name d.name = false) ∧ wr = w2.drewN m) (fun i _ => k - (intOf i).toNat)
          case atStart => exact ⟨0, 0, Nat.zero_le _, rfl, (by unfold Hid; simp), rfl⟩
          case round =>
            obtain ⟨j, m, hj, rfl, HQ, rfl⟩ := hrel
            by_cases hjk : j < k
            · obtain ⟨b', off', y, hA, hg', hy, e0, -, -, -, -, -⟩ := (H.out.st bX).d (show j < l.length by omega)
              injection hA with hA
              injection hA with hA1 hA2
              subst hA1 hA2
              have hj1 : (0 : Int) ≤ (j : Int) := by omega
              have hj2 : (j : Int) < (l.length : Int) := by omega
              have hdj : decide ((j : Int) < (k : Int)) = true := decide_eq_true (by omega)
              have hy2 := take_get hy hjk
              cases hq : eqS y.name d.name
              · have R := Lib.hid (all_succ' (p := fun y => eqS y.name d.name) hy2 HQ.out hq)
                have hq2 : (y.name.toList == d.name.toList) = false := hq
                have HJ := Lib.hid hjk
                clear hq hy hy2 HD HN1 HN0 HX COd
                go_wp2_with fail
                go_quiet (fail)
                go_wp2
                go_roundw
                case rel => exact ⟨j + 1, _, HJ.out, by go_num, R, rfl⟩
                case measure => have := HJ.out; simp [intOf]; omega
              · have hf : ((l.take k).any fun y => eqS y.name d.name) = true := List.any_eq_true.2 ⟨y, List.mem_of_getElem? hy2, hq⟩
                have R := Lib.hid (show r = 9 by rw [HR.out, firstE_some HE.out hi (by rw [HN1.out hf]; decide), HN1.out hf])
                have hq2 : (y.name.toList == d.name.toList) = true := hq
                clear hq hy hy2 HD HN1 HN0 HX COd hf
                go_wp2_with fail
                go_quiet (fail)
                go_wp2
                all_goals (go_ret; rw [R.out]; first | exact ⟨rfl, below_drewN bX _⟩ | exact ⟨rfl, below_drewN (below_drewN bX _) _⟩)
            · obtain rfl : j = k := by omega
              have hf : ((l.take j).any fun y => eqS y.name d.name) = false := by
                rw [List.any_eq_false]
                intro y hy
                have := HQ.out y (by rw [List.take_take, Nat.min_self]; exact hy)
                rw [this]; simp
              have he := HN0.out hf
              have hdj : decide ((j : Int) < (j : Int)) = false := decide_eq_false (by omega)
              have bX3 := below_drewN bX m
              have bN3 : Blk (w2.drewN m) w.heap.size #[.slice pA ps.length pc, .slice lA ln2 lc] 26 := bN
              clear hf HN0 HN1 HQ HX HD H
              obtain ⟨nm, pt, kd, ln, oA, oc, os, dA, dc, ds⟩ := d
              simp only [DV] at *
              have e0 : (w2.drewN m).cell? ⟨b, off + j * 6, none⟩ = some (.string nm) := d0
              have e1 : (w2.drewN m).cell? ⟨b, off + j * 6 + 1, none⟩ = some (.string pt) := d1
              have e2 : (w2.drewN m).cell? ⟨b, off + j * 6 + 2, none⟩ = some (.int .i64 kd) := d2
              have e3 : (w2.drewN m).cell? ⟨b, off + j * 6 + 3, none⟩ = some (.int .i64 ln) := d3
              have e4 : (w2.drewN m).cell? ⟨b, off + j * 6 + 4, none⟩ = some (.slice oA os.length oc) := d4
              have e5 : (w2.drewN m).cell? ⟨b, off + j * 6 + 5, none⟩ = some (.slice dA ds.length dc) := d5
              have hgq : b < (w2.drewN m).heap.size := hg
              have m0 : (w2.drewN m).cell? ⟨w.heap.size, 0, none⟩ = some (.slice pA ps.length pc) := n0
              have m1 : (w2.drewN m).cell? ⟨w.heap.size, 1, none⟩ = some (.slice lA ln2 lc) := n1
              clear d0 d1 d2 d3 d4 d5 hg n0 n1 bX bN
              generalize w2.drewN m = wq at *
              by_cases ho : oneE ps ⟨nm, pt, kd, ln, oA, oc, os, dA, dc, ds⟩ = 0
              · have HK := Lib.hid (firstE_up HE.out (he.trans ho))
                rw [ho] at COd
                clear he ho
                go_wp2_with fail
                go_region_held3 (fun w' => w'.cell? ⟨b, off + j * 6, none⟩ = some (.string nm) ∧ w'.cell? ⟨b, off + j * 6 + 1, none⟩ = some (.string pt) ∧ w'.cell? ⟨b, off + j * 6 + 2, none⟩ = some (.int .i64 kd) ∧ w'.cell? ⟨b, off + j * 6 + 3, none⟩ = some (.int .i64 ln) ∧ w'.cell? ⟨b, off + j * 6 + 4, none⟩ = some (.slice oA os.length oc) ∧ w'.cell? ⟨b, off + j * 6 + 5, none⟩ = some (.slice dA ds.length dc) ∧ w'.cell? ⟨w.heap.size, 0, none⟩ = some (.slice pA ps.length pc) ∧ w'.cell? ⟨w.heap.size, 1, none⟩ = some (.slice lA ln2 lc)) (go_keep) ((go_at_call 32; (with_reducible refine (COd.out _ (by first | exact bX3 | exact bX3.drew)).mono ?_); rintro e wn ⟨rfl, hbn⟩; (first | have bY := bX3.st hbn | have bY := bX3.drew.st hbn); (first | have bM := bN3.below hbn bN3.lt | have bM := bN3.drew.below hbn bN3.lt); have v0 := (hbn.cell (p := ⟨b, off + j * 6, none⟩) hgq).trans e0; have v1 := (hbn.cell (p := ⟨b, off + j * 6 + 1, none⟩) hgq).trans e1; have v2 := (hbn.cell (p := ⟨b, off + j * 6 + 2, none⟩) hgq).trans e2; have v3 := (hbn.cell (p := ⟨b, off + j * 6 + 3, none⟩) hgq).trans e3; have v4 := (hbn.cell (p := ⟨b, off + j * 6 + 4, none⟩) hgq).trans e4; have v5 := (hbn.cell (p := ⟨b, off + j * 6 + 5, none⟩) hgq).trans e5; have v6 : World.cell? wn ⟨w.heap.size, 0, none⟩ = some (.slice pA ps.length pc) := bM.cell 0 rfl; have v7 : World.cell? wn ⟨w.heap.size, 1, none⟩ = some (.slice lA ln2 lc) := bM.cell 1 rfl))
                all_goals
                  go_wp2
                  go_roundw
                  case rel => exact ⟨j + 1, HL.out, by go_num, HK, by first | exact bM | exact bM.drew, by first | exact bY | exact bY.drew⟩
                  case measure => have := HL.out; simp [intOf]; omega
              · have ho2 : oneE ps ⟨nm, pt, kd, ln, oA, oc, os, dA, dc, ds⟩ ≠ 0 := ho
                have R := Lib.hid (show r = oneE ps ⟨nm, pt, kd, ln, oA, oc, os, dA, dc, ds⟩ by rw [HR.out, firstE_some HE.out hi (by rw [he]; exact ho2), he])
                generalize oneE ps ⟨nm, pt, kd, ln, oA, oc, os, dA, dc, ds⟩ = v at *
                have hv : (v != 0) = true := by simp [ho2]
                clear he ho ho2
                go_wp2_with fail
                go_region_held3 (fun w' => w'.cell? ⟨b, off + j * 6, none⟩ = some (.string nm) ∧ w'.cell? ⟨b, off + j * 6 + 1, none⟩ = some (.string pt) ∧ w'.cell? ⟨b, off + j * 6 + 2, none⟩ = some (.int .i64 kd) ∧ w'.cell? ⟨b, off + j * 6 + 3, none⟩ = some (.int .i64 ln) ∧ w'.cell? ⟨b, off + j * 6 + 4, none⟩ = some (.slice oA os.length oc) ∧ w'.cell? ⟨b, off + j * 6 + 5, none⟩ = some (.slice dA ds.length dc) ∧ w'.cell? ⟨w.heap.size, 0, none⟩ = some (.slice pA ps.length pc) ∧ w'.cell? ⟨w.heap.size, 1, none⟩ = some (.slice lA ln2 lc)) (go_keep) ((go_at_call 32; (with_reducible refine (COd.out _ (by first | exact bX3 | exact bX3.drew)).mono ?_); rintro e wn ⟨rfl, hbn⟩; (first | have bY := bX3.st hbn | have bY := bX3.drew.st hbn); (first | have bM := bN3.below hbn bN3.lt | have bM := bN3.drew.below hbn bN3.lt); have v0 := (hbn.cell (p := ⟨b, off + j * 6, none⟩) hgq).trans e0; have v1 := (hbn.cell (p := ⟨b, off + j * 6 + 1, none⟩) hgq).trans e1; have v2 := (hbn.cell (p := ⟨b, off + j * 6 + 2, none⟩) hgq).trans e2; have v3 := (hbn.cell (p := ⟨b, off + j * 6 + 3, none⟩) hgq).trans e3; have v4 := (hbn.cell (p := ⟨b, off + j * 6 + 4, none⟩) hgq).trans e4; have v5 := (hbn.cell (p := ⟨b, off + j * 6 + 5, none⟩) hgq).trans e5; have v6 : World.cell? wn ⟨w.heap.size, 0, none⟩ = some (.slice pA ps.length pc) := bM.cell 0 rfl; have v7 : World.cell? wn ⟨w.heap.size, 1, none⟩ = some (.slice lA ln2 lc) := bM.cell 1 rfl))
                all_goals
                  go_wp2
                  go_ret
                  rw [R.out]
                  exact ⟨rfl, by first | exact bY | exact bY.drew⟩
      · obtain rfl : k = l.length := by omega
        have R := Lib.hid (show r = 0 by rw [HR.out, firstE_none HE.out])
        go_wp2
        go_ret
        rw [R.out]
        exact ⟨rfl, bX⟩
end Go.Proofs.Ytflihhikofkheaa
