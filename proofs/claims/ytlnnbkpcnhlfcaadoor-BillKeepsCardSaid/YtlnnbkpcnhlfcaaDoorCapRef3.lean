/- The reference's check, walked. -/
import Derived.Test.YtlnnbkpcnhlfcaaDoorJCapRMath
import Derived.Test.YtlnnbkpcnhlfcaaDoorJCapSmall
set_option linter.unusedSimpArgs false
namespace Go.Proofs.YtlnnbkpcnhlfcaaDoor
open Go.RowKit Go.Lib

set_option maxRecDepth 100000 in
set_option maxHeartbeats 8000000 in
theorem rchk_any {Ac A : Option Addr} (cc c : Nat) {caps : List Cp} {l : List Cg} {w : World} (hC : Rd encCp 4 w w.heap.size Ac caps) (hr : Rd encCg 7 w w.heap.size A l) (hcl : caps.length ≤ 9223372036854775807) (hll : l.length ≤ 9223372036854775807) :
    Calls Tryd.prog 73 #[.slice Ac caps.length cc, .slice A l.length c] w fun e w' => e = .returned (.int .i64 (applyE caps (cvs l))) ∧ Below w.heap.size w w' := by
  have hcv : (cvs l).length = l.length := by unfold cvs; simp
  have HC := Lib.hid hC
  have HR := Lib.hid hr
  clear hC hr
  by_cases q1 : 12 < caps.length
  · have R : Hid (applyE caps (cvs l) = 3) := Lib.hid (by unfold applyE; rw [if_pos (.inl q1)])
    go_enter Tryd.func73, Tryd.ntmps73
    go_wp2_with fail
    go_ret
    exact ⟨ret_int R.out.symm, Below.refl _ _⟩
  by_cases q2 : 1024 < l.length
  · have R : Hid (applyE caps (cvs l) = 3) := Lib.hid (by unfold applyE; rw [if_pos (.inr (by rw [hcv]; exact q2))])
    go_enter Tryd.func73, Tryd.ntmps73
    go_wp2_with fail
    go_ret
    exact ⟨ret_int R.out.symm, Below.refl _ _⟩
  have HE : Hid (applyE caps (cvs l) = if firstI (caps.map capE) ≠ 0 then firstI (caps.map capE) else firstI ((cvs l).map chE)) := Lib.hid (by unfold applyE; rw [if_neg (by rw [hcv]; omega)])
  go_enter Tryd.func73, Tryd.ntmps73
  go_wp2_with fail
  go_loopw [5] (fun i wr => ∃ k : Nat, k ≤ caps.length ∧ i = .int .i64 k ∧ Hid (∀ y ∈ (caps.map capE).take k, y = 0) ∧ Below w.heap.size w wr) (fun i _ => caps.length - (RowKit.intOf i).toNat)
  case atStart => exact ⟨0, Nat.zero_le _, rfl, (by unfold Hid; simp), Below.refl _ _⟩
  case round =>
    obtain ⟨k, hk, rfl, HZ, bW⟩ := hrel
    by_cases hi : k < caps.length
    · obtain ⟨b, off, x, hA1, hb, hx, d0, d1, d2, d3⟩ := (HC.out.st bW).cp hi
      have HK := Lib.hid hi
      have HY := Lib.hid (fun (q : capE x ≠ 0) => firstI_yes HZ.out (by rw [List.getElem?_map, hx]; rfl) q)
      have HN := Lib.hid (fun (q : capE x = 0) => zero_succ hx HZ.out q)
      subst hA1
      obtain ⟨nm, sy, dy, ct⟩ := x
      simp only at *
      have hi1 : (0 : Int) ≤ (k : Int) := by omega
      have hi2 : (k : Int) < (caps.length : Int) := by omega
      have CK := Lib.hid (fun (X : World) => rcheck25_any nm sy dy ct X)
      generalize capE ⟨nm, sy, dy, ct⟩ = ce at CK HY HN
      clear hx hi hb HZ
      go_wp2_with fail
      refine (CK.out _).mono ?_
      rintro e w6 ⟨rfl, hbn⟩
      have bW := bW.st hbn
      clear hbn
      by_cases hce : ce = 0
      · have R := Lib.hid (HN.out hce)
        subst hce
        clear HN HY
        go_wp2_with fail
        go_roundw
        case rel => exact ⟨k + 1, HK.out, by go_num, R, bW⟩
        case measure => have := HK.out; simp [RowKit.intOf]; omega
      · have R2 : Hid (applyE caps (cvs l) = ce) := Lib.hid (by rw [HE.out, HY.out hce, if_pos hce])
        have hce2 : (ce != 0) = true := by simp [hce]
        clear HN HY hce
        go_wp2_with fail
        go_ret
        exact ⟨ret_int R2.out.symm, bW⟩
    · obtain rfl : k = caps.length := by omega
      have HF0 : Hid (firstI (caps.map capE) = 0) := Lib.hid (zero_all (by simpa using HZ.out))
      have HE2 : Hid (applyE caps (cvs l) = firstI ((cvs l).map chE)) := Lib.hid (by rw [HE.out, if_neg (by simp [HF0.out])])
      have HB0 := Lib.hid bW
      clear HZ bW
      go_wp2_with fail
      go_loopw [7] (fun i wr => ∃ k : Nat, k ≤ l.length ∧ i = .int .i64 k ∧ Hid (∀ y ∈ ((cvs l).map chE).take k, y = 0) ∧ Below w.heap.size w wr) (fun i _ => l.length - (RowKit.intOf i).toNat)
      case atStart => exact ⟨0, Nat.zero_le _, rfl, (by unfold Hid; simp), HB0.out⟩
      case round =>
        clear HB0
        obtain ⟨k, hk, rfl, HZ, bW⟩ := hrel
        by_cases hi : k < l.length
        · obtain ⟨b, off, x, hA1, hb, hx, -, -, -, -, d4, -, d6⟩ := (HR.out.st bW).cg hi
          have HK := Lib.hid hi
          have hxc : (cvs l)[k]? = some x.c := by unfold cvs; rw [List.getElem?_map, hx]; rfl
          have HY := Lib.hid (fun (q : chE x.c ≠ 0) => firstI_yes HZ.out (by rw [List.getElem?_map, hxc]; rfl) q)
          have HN := Lib.hid (fun (q : chE x.c = 0) => zero_succ hxc HZ.out q)
          subst hA1
          obtain ⟨⟨key, veh, sys, cls, tm, lns, cn⟩, lA, lc⟩ := x
          simp only at *
          have hi1 : (0 : Int) ≤ (k : Int) := by omega
          have hi2 : (k : Int) < (l.length : Int) := by omega
          have CA := Lib.hid (fun (X : World) => ram_any cn X)
          have CT := Lib.hid (fun (X : World) => risTime_any tm X)
          have CD := Lib.hid (fun (X : World) => rday_any tm X)
          have CI := Lib.hid (fun (X : World) => risDay_any (dayN tm) X)
          clear hx hxc hi hb HZ
          have HCE : Hid (chE ⟨key, veh, sys, cls, tm, lns, cn⟩ = if amB cn = false then 13 else if (decide (0 ≤ tm ∧ tm < 68719476736) && decide (0 ≤ dayN tm ∧ dayN tm < 795364)) = false then 12 else 0) := Lib.hid rfl
          generalize hz1 : decide (0 ≤ tm ∧ tm < 68719476736) = t1 at *
          generalize hz2 : decide (0 ≤ dayN tm ∧ dayN tm < 795364) = t2 at *
          generalize dayN tm = dd at *
          cases ha : amB cn
          · have R2 : Hid (applyE caps (cvs l) = 13) := Lib.hid (by
              rw [HE2.out]
              have e : chE ⟨key, veh, sys, cls, tm, lns, cn⟩ = 13 := by rw [HCE.out, if_pos ha]
              rw [HY.out (by rw [e]; decide), e])
            rw [ha] at CA
            clear HN HY HCE ha hz1 hz2
            go_wp2_with fail
            refine (CA.out _).mono ?_
            rintro e w7 ⟨rfl, rfl⟩
            go_wp2_with fail
            go_ret
            exact ⟨ret_int R2.out.symm, bW⟩
          · rw [ha] at CA
            cases t1
            · have R2 : Hid (applyE caps (cvs l) = 12) := Lib.hid (by
                rw [HE2.out]
                have e : chE ⟨key, veh, sys, cls, tm, lns, cn⟩ = 12 := by rw [HCE.out, ha]; simp
                rw [HY.out (by rw [e]; decide), e])
              clear HN HY HCE ha hz1 hz2
              go_wp2_with fail
              refine (CA.out _).mono ?_
              rintro e w7 ⟨rfl, rfl⟩
              go_wp2_with fail
              refine (CT.out _).mono ?_
              rintro e w8 ⟨rfl, rfl⟩
              go_wp2_with fail
              go_ret
              exact ⟨ret_int R2.out.symm, bW⟩
            · cases t2
              · have R2 : Hid (applyE caps (cvs l) = 12) := Lib.hid (by
                  rw [HE2.out]
                  have e : chE ⟨key, veh, sys, cls, tm, lns, cn⟩ = 12 := by rw [HCE.out, ha]; simp
                  rw [HY.out (by rw [e]; decide), e])
                clear HN HY HCE ha hz1 hz2
                go_wp2_with fail
                refine (CA.out _).mono ?_
                rintro e w7 ⟨rfl, rfl⟩
                go_wp2_with fail
                refine (CT.out _).mono ?_
                rintro e w8 ⟨rfl, rfl⟩
                go_wp2_with fail
                refine (CD.out _).mono ?_
                rintro e w9 ⟨rfl, rfl⟩
                go_wp2_with fail
                refine (CI.out _).mono ?_
                rintro e w10 ⟨rfl, rfl⟩
                go_wp2_with fail
                go_ret
                exact ⟨ret_int R2.out.symm, bW⟩
              · have R := Lib.hid (HN.out (by rw [HCE.out, ha]; simp))
                clear HN HY HCE ha hz1 hz2
                go_wp2_with fail
                refine (CA.out _).mono ?_
                rintro e w7 ⟨rfl, rfl⟩
                go_wp2_with fail
                refine (CT.out _).mono ?_
                rintro e w8 ⟨rfl, rfl⟩
                go_wp2_with fail
                refine (CD.out _).mono ?_
                rintro e w9 ⟨rfl, rfl⟩
                go_wp2_with fail
                refine (CI.out _).mono ?_
                rintro e w10 ⟨rfl, rfl⟩
                go_wp2_with fail
                go_roundw
                case rel => exact ⟨k + 1, HK.out, by go_num, R, bW⟩
                case measure => have := HK.out; simp [RowKit.intOf]; omega
        · obtain rfl : k = l.length := by omega
          have R : Hid (applyE caps (cvs l) = 0) := Lib.hid (by rw [HE2.out]; exact zero_all (by simpa [hcv] using HZ.out))
          clear HZ
          go_wp2_with fail
          go_ret
          exact ⟨ret_int R.out.symm, bW⟩
end Go.Proofs.YtlnnbkpcnhlfcaaDoor
