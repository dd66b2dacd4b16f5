/- slices.SortFunc's family on ints where the comparison is a method value: partitionEqual, walked. -/
import Derived.Test.YtlnnbkpcnhlfcaaDoorJBillDayIx
import Derived.Sort.WalkC
import Derived.BigRegion

namespace Go.Proofs.YtlnnbkpcnhlfcaaDoor
open Go.RowKit Go.Lib Go.Sort Go.Shelf

section
variable {β : Type} [Inhabited β] {enc : β → Value} {w0 W : World} {blk off : Nat} {d0 d : Array β}
set_option maxHeartbeats 16000000 in
set_option maxRecDepth 1000000 in
theorem peqM_any (R : Row1 enc w0 blk off d0) (cf : β → β → Int) (g : Nat) (rv : Value) (eg : ∀ args w, (callFunc g args).run Tryd.prog w = .ok (.enter g args) w) (hC : CmpM Tryd.prog g rv enc cf blk off d0.size w0)
    (hsd : d.size = d0.size) (hsz : d0.size ≤ 1000000) (cap a b pivot : Nat) (hap : a ≤ pivot) (hpb : pivot < b) (hb : b ≤ d0.size) (hW : SW enc w0 blk off d W) :
    Calls Tryd.prog 101 #[.slice (some ⟨blk, off, none⟩) d0.size cap, .int .i64 a, .int .i64 b, .int .i64 pivot, (.func (.func g) #[rv] #[])] W fun e w' =>
      e = .returned (.int .i64 (Sort.partitionEqual (ltOf cf) d a b pivot).1) ∧ SW enc w0 blk off (Sort.partitionEqual (ltOf cf) d a b pivot).2 w' := by
  have S := stF
  have mixed := S.mixed; have t0 := S.t0; have a0 := S.a0; have z0 := S.z0; have v0 := S.v0; have t3 := S.t3; have a3 := S.a3; have z3 := S.z3; have v3 := S.v3; have t4 := S.t4; have a4 := S.a4; have z4 := S.z4; have v4 := S.v4; have t22 := S.t22; have a22 := S.a22; have z22 := S.z22; have v22 := S.v22; have t78 := S.t78; have a78 := S.a78; have z78 := S.z78; have v78 := S.v78; have t96 := S.t96; have a96 := S.a96; have z96 := S.z96; have v96 := S.v96; have aE := S.aE; have zE := S.zE; have u22 := run_underlying S.t22; have hst := R.hO.store Tryd.prog; have hcl0 := R.hO.cells; simp only [Value.cells] at hcl0
  have HK := Lib.hid hW
  have HR := Lib.hid R
  have HC := Lib.hid hC
  clear hW R hC S
  go_enter Tryd.func101, Tryd.ntmps101
  go_wp2_with fail
  obtain ⟨iz, hiz⟩ : ∃ zq : Nat, zq = a := ⟨_, rfl⟩; obtain ⟨jz, hjz⟩ : ∃ zq : Nat, zq = pivot := ⟨_, rfl⟩; have eaz : ((a : Int) : Int).toNat = iz := (by omega); have paz : (0 : Int) ≤ (a : Int) := (by omega); have baz : ((a : Int) : Int) < (d0.size : Int) := (by omega); have raz : IntKind.i64.wrap ((a : Int)) = (a : Int) := (by rw [IntKind.wrap_i64]; omega); have ecz : ((pivot : Int) : Int).toNat = jz := (by omega); have pcz : (0 : Int) ≤ (pivot : Int) := (by omega); have bcz : ((pivot : Int) : Int) < (d0.size : Int) := (by omega); have rcz : IntKind.i64.wrap ((pivot : Int)) = (pivot : Int) := (by rw [IntKind.wrap_i64]; omega); obtain ⟨xz, hxz⟩ : ∃ zx, zx = d[a]! := ⟨_, rfl⟩; obtain ⟨yz, hyz⟩ : ∃ zx, zx = d[pivot]! := ⟨_, rfl⟩; have HXz : Hid (SW enc w0 blk off (swp d (a) (pivot)) (World.drew (World.setCell (World.setCell W ⟨blk, off + iz, none⟩ (enc yz)) ⟨blk, off + jz, none⟩ (enc xz)))) := Lib.hid (by rw [hiz, hjz, hxz, hyz]; exact HK.out.swapped HR.out (a) (pivot) (by omega) (by omega)); have l1z := HK.out.c1 HR.out (by omega) (a) (by omega); have l2z := HK.out.c1 HR.out (by omega) (pivot) (by omega); have f1z := HK.out.f1 HR.out (by omega) (a) (by omega); have f2z := HK.out.f1 HR.out (by omega) (pivot) (by omega); obtain ⟨uz, l3z⟩ := HK.out.c2 HR.out (by omega) (a) (pivot) (by omega) (by omega) (enc yz); rw [← hxz] at l1z; rw [← hyz] at l2z; rw [← hjz, ← hiz] at l3z; rw [← hiz] at l1z f1z; rw [← hjz] at l2z f2z; clear hxz hyz hiz hjz HK; go_wp2_with fail; go_big_region_o; clear l1z l2z l3z f1z f2z eaz ecz paz baz raz pcz bcz rcz; have HK := HXz; clear HXz
  generalize World.drew (World.setCell (World.setCell W ⟨blk, off + iz, none⟩ (enc yz)) ⟨blk, off + jz, none⟩ (enc xz)) = w1 at HK ⊢
  have hs1 : (swp d a pivot).size = d0.size := by rw [size_swp]; exact hsd
  go_wp2
  go_loopw [11, 12] (fun vi vj wr => ∃ (i j : Nat) (dk : Array β), vi = .int .i64 i ∧ vj = .int .i64 j ∧ a < i ∧ i ≤ j + 1 ∧ j < b ∧ dk.size = d0.size ∧ Hid (SW enc w0 blk off dk wr) ∧
      Hid (Sort.partEqLoop (ltOf cf) a i j dk = Sort.partEqLoop (ltOf cf) a (a + 1) (b - 1) (Sort.swp d a pivot)))
    (fun vi vj _ => (RowKit.intOf vj).toNat + 1 - (RowKit.intOf vi).toNat)
  case atStart => exact ⟨a + 1, b - 1, Sort.swp d a pivot, by go_num, by go_num, by omega, by omega, by omega, hs1, HK, rfl⟩
  case round =>
    clear HK hs1
    obtain ⟨i, j, dk, rfl, rfl, hai, hij, hjb, hsk, HK, HE⟩ := hrel
    go_wp2
    go_loopw [11] (fun vi wq => ∃ (p : Nat), vi = .int .i64 p ∧ i ≤ p ∧ p ≤ j + 1 ∧ Hid (SW enc w0 blk off dk wq) ∧
        Hid (Sort.scanUp (fun x => !(ltOf cf) dk[a]! x) dk j p = Sort.scanUp (fun x => !(ltOf cf) dk[a]! x) dk j i))
      (fun vi _ => j + 1 - (RowKit.intOf vi).toNat)
    case atStart => exact ⟨i, rfl, Nat.le_refl _, hij, HK, rfl⟩
    case round =>
      clear HK
      obtain ⟨p, rfl, hip, hpj, HK, HS1⟩ := hrel
      by_cases hle : p ≤ j
      · have hgu : decide ((p : Int) ≤ (j : Int)) = true := decide_eq_true (by omega)
        cases hL : (ltOf cf) dk[a]! dk[p]! with
        | false =>
          have HS2 : Hid (Sort.scanUp (fun x => !(ltOf cf) dk[a]! x) dk j (p + 1) = Sort.scanUp (fun x => !(ltOf cf) dk[a]! x) dk j i) := Lib.hid ((scanUp_go (fun x => !(ltOf cf) dk[a]! x) dk j p hle (by simp [hL])).symm.trans HS1.out)
          obtain ⟨is, his⟩ : ∃ zq : Nat, zq = a := ⟨_, rfl⟩; obtain ⟨js, hjs⟩ : ∃ zq : Nat, zq = p := ⟨_, rfl⟩; have eas : ((a : Int) : Int).toNat = is := (by omega); have pas : (0 : Int) ≤ (a : Int) := (by omega); have bas : ((a : Int) : Int) < (d0.size : Int) := (by omega); have ras : IntKind.i64.wrap ((a : Int)) = (a : Int) := (by rw [IntKind.wrap_i64]; omega); have ecs : ((p : Int) : Int).toNat = js := (by omega); have pcs : (0 : Int) ≤ (p : Int) := (by omega); have bcs : ((p : Int) : Int) < (d0.size : Int) := (by omega); have rcs : IntKind.i64.wrap ((p : Int)) = (p : Int) := (by rw [IntKind.wrap_i64]; omega); obtain ⟨xs, hxs⟩ : ∃ zx, zx = dk[a]! := ⟨_, rfl⟩; obtain ⟨ys, hys⟩ : ∃ zx, zx = dk[p]! := ⟨_, rfl⟩; have las := HK.out.cl HR.out (by omega) (a) (by omega); have lbs := HK.out.cl HR.out (by omega) (p) (by omega); rw [← hxs, ← his] at las; rw [← hys, ← hjs] at lbs; have hcs := fun n' os' => HK.out.cmpM HC.out (by omega) xs ys n' os'; have hds : decide (cf xs ys < 0) = false := (by rw [hxs, hys]; exact hL); clear hxs hys his hjs; generalize cf xs ys = cvs at hcs hds
          clear hL HS1
          go_wp2_with fail; go_quiet_grown (first | (go_at_fn g; refine Calls.grown_of (hcs _ _))); have HK2 := Lib.hid (HK.out.grown nq osq); clear HK las lbs hcs; have HK := HK2; clear HK2; generalize grow (World.drewN wr nq) osq = w2 at HK ⊢; clear nq osq eas ecs pas bas ras pcs bcs rcs
          go_wp2
          go_roundw
          case rel => exact ⟨p + 1, by go_num, by omega, by omega, HK, HS2⟩
          case measure => simp [RowKit.intOf]; omega
        | true =>
          have hi2 : Hid (p = Sort.scanUp (fun x => !(ltOf cf) dk[a]! x) dk j i) := Lib.hid ((scanUp_end (fun x => !(ltOf cf) dk[a]! x) dk j p (Or.inr (by simp [hL]))).symm.trans HS1.out)
          obtain ⟨is, his⟩ : ∃ zq : Nat, zq = a := ⟨_, rfl⟩; obtain ⟨js, hjs⟩ : ∃ zq : Nat, zq = p := ⟨_, rfl⟩; have eas : ((a : Int) : Int).toNat = is := (by omega); have pas : (0 : Int) ≤ (a : Int) := (by omega); have bas : ((a : Int) : Int) < (d0.size : Int) := (by omega); have ras : IntKind.i64.wrap ((a : Int)) = (a : Int) := (by rw [IntKind.wrap_i64]; omega); have ecs : ((p : Int) : Int).toNat = js := (by omega); have pcs : (0 : Int) ≤ (p : Int) := (by omega); have bcs : ((p : Int) : Int) < (d0.size : Int) := (by omega); have rcs : IntKind.i64.wrap ((p : Int)) = (p : Int) := (by rw [IntKind.wrap_i64]; omega); obtain ⟨xs, hxs⟩ : ∃ zx, zx = dk[a]! := ⟨_, rfl⟩; obtain ⟨ys, hys⟩ : ∃ zx, zx = dk[p]! := ⟨_, rfl⟩; have las := HK.out.cl HR.out (by omega) (a) (by omega); have lbs := HK.out.cl HR.out (by omega) (p) (by omega); rw [← hxs, ← his] at las; rw [← hys, ← hjs] at lbs; have hcs := fun n' os' => HK.out.cmpM HC.out (by omega) xs ys n' os'; have hds : decide (cf xs ys < 0) = true := (by rw [hxs, hys]; exact hL); clear hxs hys his hjs; generalize cf xs ys = cvs at hcs hds
          clear hL HS1
          go_wp2_with fail; go_quiet_grown (first | (go_at_fn g; refine Calls.grown_of (hcs _ _))); have HK2 := Lib.hid (HK.out.grown nq osq); clear HK las lbs hcs; have HK := HK2; clear HK2; generalize grow (World.drewN wr nq) osq = w2 at HK ⊢; clear nq osq eas ecs pas bas ras pcs bcs rcs
          (go_wp2); (go_loopw [12] (fun vj wq => ∃ (q : Nat), vj = .int .i64 q ∧ q ≤ j ∧ p ≤ q + 1 ∧ Hid (SW enc w0 blk off dk wq) ∧ Hid (Sort.scanDown (fun x => (ltOf cf) dk[a]! x) dk p q = Sort.scanDown (fun x => (ltOf cf) dk[a]! x) dk p j)) (fun vj _ => (RowKit.intOf vj).toNat)); (case' atStart => exact ⟨j, rfl, Nat.le_refl _, hpj, HK, rfl⟩); (case' round => (clear HK); (obtain ⟨q, rfl, hqj, hpq, HK, HS2⟩ := hrel))
          by_cases hle2 : p ≤ q
          · have hgd : decide ((p : Int) ≤ (q : Int)) = true := decide_eq_true (by omega)
            cases hM : (ltOf cf) dk[a]! dk[q]! with
            | true =>
              have HS3 : Hid (Sort.scanDown (fun x => (ltOf cf) dk[a]! x) dk p (q - 1) = Sort.scanDown (fun x => (ltOf cf) dk[a]! x) dk p j) := Lib.hid ((scanDown_go (fun x => (ltOf cf) dk[a]! x) dk p q hle2 (by omega) hM).symm.trans HS2.out)
              obtain ⟨is, his⟩ : ∃ zq : Nat, zq = a := ⟨_, rfl⟩; obtain ⟨js, hjs⟩ : ∃ zq : Nat, zq = q := ⟨_, rfl⟩; have eas : ((a : Int) : Int).toNat = is := (by omega); have pas : (0 : Int) ≤ (a : Int) := (by omega); have bas : ((a : Int) : Int) < (d0.size : Int) := (by omega); have ras : IntKind.i64.wrap ((a : Int)) = (a : Int) := (by rw [IntKind.wrap_i64]; omega); have ecs : ((q : Int) : Int).toNat = js := (by omega); have pcs : (0 : Int) ≤ (q : Int) := (by omega); have bcs : ((q : Int) : Int) < (d0.size : Int) := (by omega); have rcs : IntKind.i64.wrap ((q : Int)) = (q : Int) := (by rw [IntKind.wrap_i64]; omega); obtain ⟨xs, hxs⟩ : ∃ zx, zx = dk[a]! := ⟨_, rfl⟩; obtain ⟨ys, hys⟩ : ∃ zx, zx = dk[q]! := ⟨_, rfl⟩; have las := HK.out.cl HR.out (by omega) (a) (by omega); have lbs := HK.out.cl HR.out (by omega) (q) (by omega); rw [← hxs, ← his] at las; rw [← hys, ← hjs] at lbs; have hcs := fun n' os' => HK.out.cmpM HC.out (by omega) xs ys n' os'; have hds : decide (cf xs ys < 0) = true := (by rw [hxs, hys]; exact hM); clear hxs hys his hjs; generalize cf xs ys = cvs at hcs hds
              clear hM HS2
              go_wp2_with fail; go_quiet_grown (first | (go_at_fn g; refine Calls.grown_of (hcs _ _))); have HK2 := Lib.hid (HK.out.grown nq osq); clear HK las lbs hcs; have HK := HK2; clear HK2; generalize grow (World.drewN wr nq) osq = w3 at HK ⊢; clear nq osq eas ecs pas bas ras pcs bcs rcs
              go_wp2
              go_roundw
              case rel => exact ⟨q - 1, by go_num, by omega, by omega, HK, HS3⟩
              case measure => simp [RowKit.intOf]; omega
            | false =>
              have hj2 : Hid (q = Sort.scanDown (fun x => (ltOf cf) dk[a]! x) dk p j) := Lib.hid ((scanDown_end (fun x => (ltOf cf) dk[a]! x) dk p q (Or.inr hM)).symm.trans HS2.out)
              have hlt3 := scans_lt (ltOf cf) a i j dk (by omega) hi2.out hj2.out hle2
              have HE2 : Hid (Sort.partEqLoop (ltOf cf) a (p + 1) (q - 1) (swp dk p q) = Sort.partEqLoop (ltOf cf) a (a + 1) (b - 1) (Sort.swp d a pivot)) := Lib.hid (by rw [← HE.out]; exact (partEq_go (ltOf cf) a i j dk hi2.out hj2.out (by omega)).symm)
              have hgt : decide ((q : Int) < (p : Int)) = false := decide_eq_false (by omega)
              obtain ⟨is, his⟩ : ∃ zq : Nat, zq = a := ⟨_, rfl⟩; obtain ⟨js, hjs⟩ : ∃ zq : Nat, zq = q := ⟨_, rfl⟩; have eas : ((a : Int) : Int).toNat = is := (by omega); have pas : (0 : Int) ≤ (a : Int) := (by omega); have bas : ((a : Int) : Int) < (d0.size : Int) := (by omega); have ras : IntKind.i64.wrap ((a : Int)) = (a : Int) := (by rw [IntKind.wrap_i64]; omega); have ecs : ((q : Int) : Int).toNat = js := (by omega); have pcs : (0 : Int) ≤ (q : Int) := (by omega); have bcs : ((q : Int) : Int) < (d0.size : Int) := (by omega); have rcs : IntKind.i64.wrap ((q : Int)) = (q : Int) := (by rw [IntKind.wrap_i64]; omega); obtain ⟨xs, hxs⟩ : ∃ zx, zx = dk[a]! := ⟨_, rfl⟩; obtain ⟨ys, hys⟩ : ∃ zx, zx = dk[q]! := ⟨_, rfl⟩; have las := HK.out.cl HR.out (by omega) (a) (by omega); have lbs := HK.out.cl HR.out (by omega) (q) (by omega); rw [← hxs, ← his] at las; rw [← hys, ← hjs] at lbs; have hcs := fun n' os' => HK.out.cmpM HC.out (by omega) xs ys n' os'; have hds : decide (cf xs ys < 0) = false := (by rw [hxs, hys]; exact hM); clear hxs hys his hjs; generalize cf xs ys = cvs at hcs hds
              clear hM HS2 HE hi2 hj2
              go_wp2_with fail; go_quiet_grown (first | (go_at_fn g; refine Calls.grown_of (hcs _ _))); have HK2 := Lib.hid (HK.out.grown nq osq); clear HK las lbs hcs; have HK := HK2; clear HK2; generalize grow (World.drewN wr nq) osq = w3 at HK ⊢; clear nq osq eas ecs pas bas ras pcs bcs rcs
              go_wp2_with fail
              obtain ⟨ie, hie⟩ : ∃ zq : Nat, zq = p := ⟨_, rfl⟩; obtain ⟨je, hje⟩ : ∃ zq : Nat, zq = q := ⟨_, rfl⟩; have eae : ((p : Int) : Int).toNat = ie := (by omega); have pae : (0 : Int) ≤ (p : Int) := (by omega); have bae : ((p : Int) : Int) < (d0.size : Int) := (by omega); have rae : IntKind.i64.wrap ((p : Int)) = (p : Int) := (by rw [IntKind.wrap_i64]; omega); have ece : ((q : Int) : Int).toNat = je := (by omega); have pce : (0 : Int) ≤ (q : Int) := (by omega); have bce : ((q : Int) : Int) < (d0.size : Int) := (by omega); have rce : IntKind.i64.wrap ((q : Int)) = (q : Int) := (by rw [IntKind.wrap_i64]; omega); obtain ⟨xe, hxe⟩ : ∃ zx, zx = dk[p]! := ⟨_, rfl⟩; obtain ⟨ye, hye⟩ : ∃ zx, zx = dk[q]! := ⟨_, rfl⟩; have HXe : Hid (SW enc w0 blk off (swp dk (p) (q)) (World.drew (World.setCell (World.setCell w3 ⟨blk, off + ie, none⟩ (enc ye)) ⟨blk, off + je, none⟩ (enc xe)))) := Lib.hid (by rw [hie, hje, hxe, hye]; exact HK.out.swapped HR.out (p) (q) (by omega) (by omega)); have l1e := HK.out.c1 HR.out (by omega) (p) (by omega); have l2e := HK.out.c1 HR.out (by omega) (q) (by omega); have f1e := HK.out.f1 HR.out (by omega) (p) (by omega); have f2e := HK.out.f1 HR.out (by omega) (q) (by omega); obtain ⟨ue, l3e⟩ := HK.out.c2 HR.out (by omega) (p) (q) (by omega) (by omega) (enc ye); rw [← hxe] at l1e; rw [← hye] at l2e; rw [← hje, ← hie] at l3e; rw [← hie] at l1e f1e; rw [← hje] at l2e f2e; clear hxe hye hie hje HK; go_wp2_with fail; go_big_region_o; clear l1e l2e l3e f1e f2e eae ece pae bae rae pce bce rce; have HK := HXe; clear HXe
              generalize World.drew (World.setCell (World.setCell w3 ⟨blk, off + ie, none⟩ (enc ye)) ⟨blk, off + je, none⟩ (enc xe)) = w4 at HK ⊢
              go_wp2
              go_roundw
              case rel => exact ⟨p + 1, q - 1, Sort.swp dk p q, by go_num, by go_num, by omega, by omega, by omega, by rw [size_swp]; exact hsk, HK, HE2⟩
              case measure => simp [RowKit.intOf]; omega
          · (have hj2 : Hid (q = Sort.scanDown (fun x => (ltOf cf) dk[a]! x) dk p j) := (scanDown_end (fun x => (ltOf cf) dk[a]! x) dk p q (Or.inl hle2)).symm.trans HS2.out); (have HF := Lib.hid (show Sort.partitionEqual (ltOf cf) d a b pivot = (p, dk) by unfold Sort.partitionEqual; rw [← HE.out]; exact partEq_break (ltOf cf) a i j dk hi2.out hj2.out (by omega))); (have hgd : decide ((p : Int) ≤ (q : Int)) = false := decide_eq_false (by omega)); (have hgt : decide ((q : Int) < (p : Int)) = true := decide_eq_true (by omega)); (clear HS2 hj2 hi2 HE); (go_wp2_with fail; go_big_region_o; have HK2 := Lib.hid HK.out.drew; clear HK; have HK := HK2; clear HK2; generalize World.drew wr = w4 at HK ⊢); (go_wp2); (go_ret); (rw [HF.out]); (exact ⟨rfl, HK.out⟩)
      · have hi2 : Hid (p = Sort.scanUp (fun x => !(ltOf cf) dk[a]! x) dk j i) := Lib.hid ((scanUp_end (fun x => !(ltOf cf) dk[a]! x) dk j p (Or.inl hle)).symm.trans HS1.out)
        have hgu : decide ((p : Int) ≤ (j : Int)) = false := decide_eq_false (by omega)
        clear HS1
        go_wp2_with fail; go_big_region_o; have HK2 := Lib.hid HK.out.drew; clear HK; have HK := HK2; clear HK2; generalize World.drew wr = w2 at HK ⊢
        (go_wp2); (go_loopw [12] (fun vj wq => ∃ (q : Nat), vj = .int .i64 q ∧ q ≤ j ∧ p ≤ q + 1 ∧ Hid (SW enc w0 blk off dk wq) ∧ Hid (Sort.scanDown (fun x => (ltOf cf) dk[a]! x) dk p q = Sort.scanDown (fun x => (ltOf cf) dk[a]! x) dk p j)) (fun vj _ => (RowKit.intOf vj).toNat)); (case' atStart => exact ⟨j, rfl, Nat.le_refl _, hpj, HK, rfl⟩); (case' round => (clear HK); (obtain ⟨q, rfl, hqj, hpq, HK, HS2⟩ := hrel))
        by_cases hle2 : p ≤ q
        · exfalso; omega
        · (have hj2 : Hid (q = Sort.scanDown (fun x => (ltOf cf) dk[a]! x) dk p j) := (scanDown_end (fun x => (ltOf cf) dk[a]! x) dk p q (Or.inl hle2)).symm.trans HS2.out); (have HF := Lib.hid (show Sort.partitionEqual (ltOf cf) d a b pivot = (p, dk) by unfold Sort.partitionEqual; rw [← HE.out]; exact partEq_break (ltOf cf) a i j dk hi2.out hj2.out (by omega))); (have hgd : decide ((p : Int) ≤ (q : Int)) = false := decide_eq_false (by omega)); (have hgt : decide ((q : Int) < (p : Int)) = true := decide_eq_true (by omega)); (clear HS2 hj2 hi2 HE); (go_wp2_with fail; go_big_region_o; have HK2 := Lib.hid HK.out.drew; clear HK; have HK := HK2; clear HK2; generalize World.drew wr = w4 at HK ⊢); (go_wp2); (go_ret); (rw [HF.out]); (exact ⟨rfl, HK.out⟩)
end
end Go.Proofs.YtlnnbkpcnhlfcaaDoor
