/- slices.SortFunc's family on ints where the comparison is a method value: partition, walked. (printed by tools/gen_mpt.py) -/
import Derived.Test.YtlnnbkpcnhlfcaaDoorJBillDayIx
import Derived.Sort.WalkC4
import Derived.BigRegion
import Derived.OwnWalk

namespace Go.Proofs.YtlnnbkpcnhlfcaaDoor
open Go.RowKit Go.Lib Go.Sort Go.Shelf

section
variable {β : Type} [Inhabited β] {enc : β → Value} {w0 W : World} {blk off : Nat} {d0 d : Array β}
set_option maxHeartbeats 32000000 in
set_option maxRecDepth 1000000 in
theorem ptM_any (R : Row1 enc w0 blk off d0) (cf : β → β → Int) (g : Nat) (rv : Value) (eg : ∀ args w, (callFunc g args).run Tryd.prog w = .ok (.enter g args) w) (hC : CmpM Tryd.prog g rv enc cf blk off d0.size w0)
    (hsd : d.size = d0.size) (hsz : d0.size ≤ 1000000) (cap a b pivot : Nat) (hap : a ≤ pivot) (hpb : pivot < b) (hb : b ≤ d0.size) (hW : SW enc w0 blk off d W) :
    Calls Tryd.prog 102 #[.slice (some ⟨blk, off, none⟩) d0.size cap, .int .i64 a, .int .i64 b, .int .i64 pivot, (.func (.func g) #[rv] #[])] W fun e w' =>
      e = .returned (.tuple #[.int .i64 (Sort.partition (ltOf cf) d a b pivot).1, .bool (Sort.partition (ltOf cf) d a b pivot).2.1]) ∧ SW enc w0 blk off (Sort.partition (ltOf cf) d a b pivot).2.2 w' := by
  have S := stF
  have mixed := S.mixed; have t0 := S.t0; have a0 := S.a0; have z0 := S.z0; have v0 := S.v0; have t3 := S.t3; have a3 := S.a3; have z3 := S.z3; have v3 := S.v3; have t4 := S.t4; have a4 := S.a4; have z4 := S.z4; have v4 := S.v4; have t22 := S.t22; have a22 := S.a22; have z22 := S.z22; have v22 := S.v22; have t78 := S.t78; have a78 := S.a78; have z78 := S.z78; have v78 := S.v78; have t96 := S.t96; have a96 := S.a96; have z96 := S.z96; have v96 := S.v96; have aE := S.aE; have zE := S.zE; have u22 := run_underlying S.t22; have hst := R.hO.store Tryd.prog; have hcl0 := R.hO.cells; simp only [Value.cells] at hcl0
  have HK := Lib.hid hW
  have HR := Lib.hid R
  have HC := Lib.hid hC
  clear hW R hC S
  go_enter Tryd.func102, Tryd.ntmps102
  go_wp2_with fail
  obtain ⟨iz, hiz⟩ : ∃ zq : Nat, zq = a := ⟨_, rfl⟩; obtain ⟨jz, hjz⟩ : ∃ zq : Nat, zq = pivot := ⟨_, rfl⟩; have eaz : ((a : Int) : Int).toNat = iz := (by omega); have paz : (0 : Int) ≤ (a : Int) := (by omega); have baz : ((a : Int) : Int) < (d0.size : Int) := (by omega); have raz : IntKind.i64.wrap ((a : Int)) = (a : Int) := (by rw [IntKind.wrap_i64]; omega); have ecz : ((pivot : Int) : Int).toNat = jz := (by omega); have pcz : (0 : Int) ≤ (pivot : Int) := (by omega); have bcz : ((pivot : Int) : Int) < (d0.size : Int) := (by omega); have rcz : IntKind.i64.wrap ((pivot : Int)) = (pivot : Int) := (by rw [IntKind.wrap_i64]; omega); obtain ⟨xz, hxz⟩ : ∃ zx, zx = d[a]! := ⟨_, rfl⟩; obtain ⟨yz, hyz⟩ : ∃ zx, zx = d[pivot]! := ⟨_, rfl⟩; have HXz : Hid (SW enc w0 blk off (swp d (a) (pivot)) (World.drew (World.setCell (World.setCell W ⟨blk, off + iz, none⟩ (enc yz)) ⟨blk, off + jz, none⟩ (enc xz)))) := Lib.hid (by rw [hiz, hjz, hxz, hyz]; exact HK.out.swapped HR.out (a) (pivot) (by omega) (by omega)); have l1z := HK.out.c1 HR.out (by omega) (a) (by omega); have l2z := HK.out.c1 HR.out (by omega) (pivot) (by omega); have f1z := HK.out.f1 HR.out (by omega) (a) (by omega); have f2z := HK.out.f1 HR.out (by omega) (pivot) (by omega); obtain ⟨uz, l3z⟩ := HK.out.c2 HR.out (by omega) (a) (pivot) (by omega) (by omega) (enc yz); rw [← hxz] at l1z; rw [← hyz] at l2z; rw [← hjz, ← hiz] at l3z; rw [← hiz] at l1z f1z; rw [← hjz] at l2z f2z; clear hxz hyz hiz hjz HK; go_wp2_with fail; go_big_region_o; clear l1z l2z l3z f1z f2z eaz ecz paz baz raz pcz bcz rcz; have HK := HXz; clear HXz
  generalize World.drew (World.setCell (World.setCell W ⟨blk, off + iz, none⟩ (enc yz)) ⟨blk, off + jz, none⟩ (enc xz)) = w1 at HK ⊢
  obtain ⟨i, hi⟩ : ∃ i : Nat, i = a + 1 := ⟨_, rfl⟩
  obtain ⟨j, hj⟩ : ∃ j : Nat, j = b - 1 := ⟨_, rfl⟩
  obtain ⟨dk, hdk⟩ : ∃ dk : Array β, dk = Sort.swp d a pivot := ⟨_, rfl⟩
  rw [← hdk] at HK
  have hsk : dk.size = d0.size := by rw [hdk, size_swp]; exact hsd
  have hai : a < i := by omega
  have hij : i ≤ j + 1 := by omega
  have hjb : j < b := by omega
  have Hi : Hid (i = a + 1) := hi
  have Hj : Hid (j = b - 1) := hj
  have Hdk : Hid (dk = Sort.swp d a pivot) := hdk
  have ezi : ((a : Int) + 1) = (i : Int) := by omega
  have ezj : ((b : Int) - 1) = (j : Int) := by omega
  clear hi hj hdk
  go_wp2
  go_loopw [12] (fun vi wq => ∃ (p : Nat), vi = .int .i64 p ∧ i ≤ p ∧ p ≤ j + 1 ∧ Hid (SW enc w0 blk off dk wq) ∧ Hid (Sort.scanUp (fun x => (ltOf cf) x dk[a]!) dk j p = Sort.scanUp (fun x => (ltOf cf) x dk[a]!) dk j i)) (fun vi _ => j + 1 - (RowKit.intOf vi).toNat)
  case atStart => exact ⟨i, rfl, Nat.le_refl _, hij, HK, rfl⟩
  case round =>
    clear HK
    obtain ⟨p, rfl, hip, hpj, HK, HS1⟩ := hrel
    by_cases hle : p ≤ j
    · have hgu : decide ((p : Int) ≤ (j : Int)) = true := decide_eq_true (by omega)
      cases hL : (ltOf cf) dk[p]! dk[a]! with
      | true =>
        have HS2 : Hid (Sort.scanUp (fun x => (ltOf cf) x dk[a]!) dk j (p + 1) = Sort.scanUp (fun x => (ltOf cf) x dk[a]!) dk j i) := Lib.hid ((scanUp_go (fun x => (ltOf cf) x dk[a]!) dk j p hle hL).symm.trans HS1.out)
        obtain ⟨is, his⟩ : ∃ zq : Nat, zq = p := ⟨_, rfl⟩; obtain ⟨js, hjs⟩ : ∃ zq : Nat, zq = a := ⟨_, rfl⟩; have eas : ((p : Int) : Int).toNat = is := (by omega); have pas : (0 : Int) ≤ (p : Int) := (by omega); have bas : ((p : Int) : Int) < (d0.size : Int) := (by omega); have ras : IntKind.i64.wrap ((p : Int)) = (p : Int) := (by rw [IntKind.wrap_i64]; omega); have ecs : ((a : Int) : Int).toNat = js := (by omega); have pcs : (0 : Int) ≤ (a : Int) := (by omega); have bcs : ((a : Int) : Int) < (d0.size : Int) := (by omega); have rcs : IntKind.i64.wrap ((a : Int)) = (a : Int) := (by rw [IntKind.wrap_i64]; omega); obtain ⟨xs, hxs⟩ : ∃ zx, zx = dk[p]! := ⟨_, rfl⟩; obtain ⟨ys, hys⟩ : ∃ zx, zx = dk[a]! := ⟨_, rfl⟩; have las := HK.out.cl HR.out (by omega) (p) (by omega); have lbs := HK.out.cl HR.out (by omega) (a) (by omega); rw [← hxs, ← his] at las; rw [← hys, ← hjs] at lbs; have hcs := fun n' os' => HK.out.cmpM HC.out (by omega) xs ys n' os'; have hds : decide (cf xs ys < 0) = true := (by rw [hxs, hys]; exact hL); clear hxs hys his hjs; generalize cf xs ys = cvs at hcs hds
        clear hL HS1
        go_wp2_with fail; go_quiet_grown (first | (go_at_fn g; refine Calls.grown_of (hcs _ _))); have HK2 := Lib.hid (HK.out.grown nq osq); clear HK las lbs hcs; have HK := HK2; clear HK2; generalize grow (World.drewN wr nq) osq = w2 at HK ⊢; clear nq osq eas ecs pas bas ras pcs bcs rcs
        go_wp2
        go_roundw
        case rel => exact ⟨p + 1, by go_num, by omega, by omega, HK, HS2⟩
        case measure => simp [RowKit.intOf]; omega
      | false =>
        have hi2 : Hid (p = Sort.scanUp (fun x => (ltOf cf) x dk[a]!) dk j i) := Lib.hid ((scanUp_end (fun x => (ltOf cf) x dk[a]!) dk j p (Or.inr hL)).symm.trans HS1.out)
        obtain ⟨is, his⟩ : ∃ zq : Nat, zq = p := ⟨_, rfl⟩; obtain ⟨js, hjs⟩ : ∃ zq : Nat, zq = a := ⟨_, rfl⟩; have eas : ((p : Int) : Int).toNat = is := (by omega); have pas : (0 : Int) ≤ (p : Int) := (by omega); have bas : ((p : Int) : Int) < (d0.size : Int) := (by omega); have ras : IntKind.i64.wrap ((p : Int)) = (p : Int) := (by rw [IntKind.wrap_i64]; omega); have ecs : ((a : Int) : Int).toNat = js := (by omega); have pcs : (0 : Int) ≤ (a : Int) := (by omega); have bcs : ((a : Int) : Int) < (d0.size : Int) := (by omega); have rcs : IntKind.i64.wrap ((a : Int)) = (a : Int) := (by rw [IntKind.wrap_i64]; omega); obtain ⟨xs, hxs⟩ : ∃ zx, zx = dk[p]! := ⟨_, rfl⟩; obtain ⟨ys, hys⟩ : ∃ zx, zx = dk[a]! := ⟨_, rfl⟩; have las := HK.out.cl HR.out (by omega) (p) (by omega); have lbs := HK.out.cl HR.out (by omega) (a) (by omega); rw [← hxs, ← his] at las; rw [← hys, ← hjs] at lbs; have hcs := fun n' os' => HK.out.cmpM HC.out (by omega) xs ys n' os'; have hds : decide (cf xs ys < 0) = false := (by rw [hxs, hys]; exact hL); clear hxs hys his hjs; generalize cf xs ys = cvs at hcs hds
        clear hL HS1
        go_wp2_with fail; go_quiet_grown (first | (go_at_fn g; refine Calls.grown_of (hcs _ _))); have HK2 := Lib.hid (HK.out.grown nq osq); clear HK las lbs hcs; have HK := HK2; clear HK2; generalize grow (World.drewN wr nq) osq = w2 at HK ⊢; clear nq osq eas ecs pas bas ras pcs bcs rcs
        go_wp2
        go_loopw [13] (fun vj wq => ∃ (q : Nat), vj = .int .i64 q ∧ q ≤ j ∧ p ≤ q + 1 ∧ Hid (SW enc w0 blk off dk wq) ∧ Hid (Sort.scanDown (fun x => !(ltOf cf) x dk[a]!) dk p q = Sort.scanDown (fun x => !(ltOf cf) x dk[a]!) dk p j)) (fun vj _ => (RowKit.intOf vj).toNat)
        case atStart => exact ⟨j, rfl, Nat.le_refl _, hpj, HK, rfl⟩
        case round =>
          clear HK
          obtain ⟨q, rfl, hqj, hpq, HK, HS2⟩ := hrel
          by_cases hle2 : p ≤ q
          · have hgd : decide ((p : Int) ≤ (q : Int)) = true := decide_eq_true (by omega)
            cases hM : (ltOf cf) dk[q]! dk[a]! with
            | false =>
              have HS3 : Hid (Sort.scanDown (fun x => !(ltOf cf) x dk[a]!) dk p (q - 1) = Sort.scanDown (fun x => !(ltOf cf) x dk[a]!) dk p j) := Lib.hid ((scanDown_go (fun x => !(ltOf cf) x dk[a]!) dk p q hle2 (by omega) (by simp [hM])).symm.trans HS2.out)
              obtain ⟨is, his⟩ : ∃ zq : Nat, zq = q := ⟨_, rfl⟩; obtain ⟨js, hjs⟩ : ∃ zq : Nat, zq = a := ⟨_, rfl⟩; have eas : ((q : Int) : Int).toNat = is := (by omega); have pas : (0 : Int) ≤ (q : Int) := (by omega); have bas : ((q : Int) : Int) < (d0.size : Int) := (by omega); have ras : IntKind.i64.wrap ((q : Int)) = (q : Int) := (by rw [IntKind.wrap_i64]; omega); have ecs : ((a : Int) : Int).toNat = js := (by omega); have pcs : (0 : Int) ≤ (a : Int) := (by omega); have bcs : ((a : Int) : Int) < (d0.size : Int) := (by omega); have rcs : IntKind.i64.wrap ((a : Int)) = (a : Int) := (by rw [IntKind.wrap_i64]; omega); obtain ⟨xs, hxs⟩ : ∃ zx, zx = dk[q]! := ⟨_, rfl⟩; obtain ⟨ys, hys⟩ : ∃ zx, zx = dk[a]! := ⟨_, rfl⟩; have las := HK.out.cl HR.out (by omega) (q) (by omega); have lbs := HK.out.cl HR.out (by omega) (a) (by omega); rw [← hxs, ← his] at las; rw [← hys, ← hjs] at lbs; have hcs := fun n' os' => HK.out.cmpM HC.out (by omega) xs ys n' os'; have hds : decide (cf xs ys < 0) = false := (by rw [hxs, hys]; exact hM); clear hxs hys his hjs; generalize cf xs ys = cvs at hcs hds
              clear hM HS2
              go_wp2_with fail; go_quiet_grown (first | (go_at_fn g; refine Calls.grown_of (hcs _ _))); have HK2 := Lib.hid (HK.out.grown nq osq); clear HK las lbs hcs; have HK := HK2; clear HK2; generalize grow (World.drewN wr nq) osq = w3 at HK ⊢; clear nq osq eas ecs pas bas ras pcs bcs rcs
              go_wp2
              go_roundw
              case rel => exact ⟨q - 1, by go_num, by omega, by omega, HK, HS3⟩
              case measure => simp [RowKit.intOf]; omega
            | true =>
              have hj2 : Hid (q = Sort.scanDown (fun x => !(ltOf cf) x dk[a]!) dk p j) := Lib.hid ((scanDown_end (fun x => !(ltOf cf) x dk[a]!) dk p q (Or.inr (by simp [hM]))).symm.trans HS2.out)
              have hlt3 := part_scans_lt (ltOf cf) a i j dk (by omega) hi2.out hj2.out hle2
              have hgt : decide ((q : Int) < (p : Int)) = false := decide_eq_false (by omega)
              have hgn : decide (q < p) = false := decide_eq_false (by omega)
              obtain ⟨is, his⟩ : ∃ zq : Nat, zq = q := ⟨_, rfl⟩; obtain ⟨js, hjs⟩ : ∃ zq : Nat, zq = a := ⟨_, rfl⟩; have eas : ((q : Int) : Int).toNat = is := (by omega); have pas : (0 : Int) ≤ (q : Int) := (by omega); have bas : ((q : Int) : Int) < (d0.size : Int) := (by omega); have ras : IntKind.i64.wrap ((q : Int)) = (q : Int) := (by rw [IntKind.wrap_i64]; omega); have ecs : ((a : Int) : Int).toNat = js := (by omega); have pcs : (0 : Int) ≤ (a : Int) := (by omega); have bcs : ((a : Int) : Int) < (d0.size : Int) := (by omega); have rcs : IntKind.i64.wrap ((a : Int)) = (a : Int) := (by rw [IntKind.wrap_i64]; omega); obtain ⟨xs, hxs⟩ : ∃ zx, zx = dk[q]! := ⟨_, rfl⟩; obtain ⟨ys, hys⟩ : ∃ zx, zx = dk[a]! := ⟨_, rfl⟩; have las := HK.out.cl HR.out (by omega) (q) (by omega); have lbs := HK.out.cl HR.out (by omega) (a) (by omega); rw [← hxs, ← his] at las; rw [← hys, ← hjs] at lbs; have hcs := fun n' os' => HK.out.cmpM HC.out (by omega) xs ys n' os'; have hds : decide (cf xs ys < 0) = true := (by rw [hxs, hys]; exact hM); clear hxs hys his hjs; generalize cf xs ys = cvs at hcs hds
              clear hM HS2
              go_wp2_with fail; go_quiet_grown (first | (go_at_fn g; refine Calls.grown_of (hcs _ _))); have HK2 := Lib.hid (HK.out.grown nq osq); clear HK las lbs hcs; have HK := HK2; clear HK2; generalize grow (World.drewN wr nq) osq = w3 at HK ⊢; clear nq osq eas ecs pas bas ras pcs bcs rcs
              go_wp2_with fail
              obtain ⟨ie, hie⟩ : ∃ zq : Nat, zq = p := ⟨_, rfl⟩; obtain ⟨je, hje⟩ : ∃ zq : Nat, zq = q := ⟨_, rfl⟩; have eae : ((p : Int) : Int).toNat = ie := (by omega); have pae : (0 : Int) ≤ (p : Int) := (by omega); have bae : ((p : Int) : Int) < (d0.size : Int) := (by omega); have rae : IntKind.i64.wrap ((p : Int)) = (p : Int) := (by rw [IntKind.wrap_i64]; omega); have ece : ((q : Int) : Int).toNat = je := (by omega); have pce : (0 : Int) ≤ (q : Int) := (by omega); have bce : ((q : Int) : Int) < (d0.size : Int) := (by omega); have rce : IntKind.i64.wrap ((q : Int)) = (q : Int) := (by rw [IntKind.wrap_i64]; omega); obtain ⟨xe, hxe⟩ : ∃ zx, zx = dk[p]! := ⟨_, rfl⟩; obtain ⟨ye, hye⟩ : ∃ zx, zx = dk[q]! := ⟨_, rfl⟩; have HXe : Hid (SW enc w0 blk off (swp dk (p) (q)) (World.drew (World.setCell (World.setCell w3 ⟨blk, off + ie, none⟩ (enc ye)) ⟨blk, off + je, none⟩ (enc xe)))) := Lib.hid (by rw [hie, hje, hxe, hye]; exact HK.out.swapped HR.out (p) (q) (by omega) (by omega)); have l1e := HK.out.c1 HR.out (by omega) (p) (by omega); have l2e := HK.out.c1 HR.out (by omega) (q) (by omega); have f1e := HK.out.f1 HR.out (by omega) (p) (by omega); have f2e := HK.out.f1 HR.out (by omega) (q) (by omega); obtain ⟨ue, l3e⟩ := HK.out.c2 HR.out (by omega) (p) (q) (by omega) (by omega) (enc ye); rw [← hxe] at l1e; rw [← hye] at l2e; rw [← hje, ← hie] at l3e; rw [← hie] at l1e f1e; rw [← hje] at l2e f2e; clear hxe hye hie hje HK; go_wp2_with fail; go_big_region_o; clear l1e l2e l3e f1e f2e eae ece pae bae rae pce bce rce; have HK := HXe; clear HXe
              generalize World.drew (World.setCell (World.setCell w3 ⟨blk, off + ie, none⟩ (enc ye)) ⟨blk, off + je, none⟩ (enc xe)) = w4 at HK ⊢
              obtain ⟨I0, hI0⟩ : ∃ I0 : Nat, I0 = p + 1 := ⟨_, rfl⟩
              obtain ⟨J0, hJ0⟩ : ∃ J0 : Nat, J0 = q - 1 := ⟨_, rfl⟩
              obtain ⟨D0, hD0⟩ : ∃ D0 : Array β, D0 = Sort.swp dk p q := ⟨_, rfl⟩
              have PF : Hid (Sort.partition (ltOf cf) d a b pivot = ((Sort.partLoop (ltOf cf) a I0 J0 D0).1, false, Sort.swp (Sort.partLoop (ltOf cf) a I0 J0 D0).2 (Sort.partLoop (ltOf cf) a I0 J0 D0).1 a)) := Lib.hid (by rw [hI0, hJ0, hD0]; exact part_first_go (ltOf cf) d a b pivot Hi.out Hj.out Hdk.out hi2.out hj2.out (by omega))
              have hs0 : (Sort.swp dk p q).size = d0.size := by rw [size_swp]; exact hsk
              go_wp2
              go_loopw [12, 13] (fun vi vj wr => ∃ (i2 j2 : Nat) (dk2 : Array β), vi = .int .i64 i2 ∧ vj = .int .i64 j2 ∧ a < i2 ∧ i2 ≤ j2 + 1 ∧ j2 < b ∧ dk2.size = d0.size ∧ Hid (SW enc w0 blk off dk2 wr) ∧ Hid (Sort.partLoop (ltOf cf) a i2 j2 dk2 = Sort.partLoop (ltOf cf) a I0 J0 D0))
                (fun vi vj _ => (RowKit.intOf vj).toNat + 1 - (RowKit.intOf vi).toNat)
              case atStart => exact ⟨p + 1, q - 1, Sort.swp dk p q, by go_num, by go_num, by omega, by omega, by omega, hs0, HK, by rw [hI0, hJ0, hD0]; rfl⟩
              case round =>
                clear HK hI0 hJ0 hD0 hs0 hi2 hj2 hlt3 Hi Hj Hdk hgt hgn hgd hgu hle hle2 hip hpj hqj hpq hai hij hjb hsk ezi ezj
                obtain ⟨i, j, dk, rfl, rfl, hai, hij, hjb, hsk, HK, HE⟩ := hrel
                go_wp2
                go_loopw [12] (fun vi wq => ∃ (p : Nat), vi = .int .i64 p ∧ i ≤ p ∧ p ≤ j + 1 ∧ Hid (SW enc w0 blk off dk wq) ∧ Hid (Sort.scanUp (fun x => (ltOf cf) x dk[a]!) dk j p = Sort.scanUp (fun x => (ltOf cf) x dk[a]!) dk j i)) (fun vi _ => j + 1 - (RowKit.intOf vi).toNat)
                case atStart => exact ⟨i, rfl, Nat.le_refl _, hij, HK, rfl⟩
                case round =>
                  clear HK
                  obtain ⟨p, rfl, hip, hpj, HK, HS1⟩ := hrel
                  by_cases hle : p ≤ j
                  · have hgu : decide ((p : Int) ≤ (j : Int)) = true := decide_eq_true (by omega)
                    cases hL : (ltOf cf) dk[p]! dk[a]! with
                    | true =>
                      have HS2 : Hid (Sort.scanUp (fun x => (ltOf cf) x dk[a]!) dk j (p + 1) = Sort.scanUp (fun x => (ltOf cf) x dk[a]!) dk j i) := Lib.hid ((scanUp_go (fun x => (ltOf cf) x dk[a]!) dk j p hle hL).symm.trans HS1.out)
                      obtain ⟨is, his⟩ : ∃ zq : Nat, zq = p := ⟨_, rfl⟩; obtain ⟨js, hjs⟩ : ∃ zq : Nat, zq = a := ⟨_, rfl⟩; have eas : ((p : Int) : Int).toNat = is := (by omega); have pas : (0 : Int) ≤ (p : Int) := (by omega); have bas : ((p : Int) : Int) < (d0.size : Int) := (by omega); have ras : IntKind.i64.wrap ((p : Int)) = (p : Int) := (by rw [IntKind.wrap_i64]; omega); have ecs : ((a : Int) : Int).toNat = js := (by omega); have pcs : (0 : Int) ≤ (a : Int) := (by omega); have bcs : ((a : Int) : Int) < (d0.size : Int) := (by omega); have rcs : IntKind.i64.wrap ((a : Int)) = (a : Int) := (by rw [IntKind.wrap_i64]; omega); obtain ⟨xs, hxs⟩ : ∃ zx, zx = dk[p]! := ⟨_, rfl⟩; obtain ⟨ys, hys⟩ : ∃ zx, zx = dk[a]! := ⟨_, rfl⟩; have las := HK.out.cl HR.out (by omega) (p) (by omega); have lbs := HK.out.cl HR.out (by omega) (a) (by omega); rw [← hxs, ← his] at las; rw [← hys, ← hjs] at lbs; have hcs := fun n' os' => HK.out.cmpM HC.out (by omega) xs ys n' os'; have hds : decide (cf xs ys < 0) = true := (by rw [hxs, hys]; exact hL); clear hxs hys his hjs; generalize cf xs ys = cvs at hcs hds
                      clear hL HS1
                      go_wp2_with fail; go_quiet_grown (first | (go_at_fn g; refine Calls.grown_of (hcs _ _))); have HK2 := Lib.hid (HK.out.grown nq osq); clear HK las lbs hcs; have HK := HK2; clear HK2; generalize grow (World.drewN wr nq) osq = w2 at HK ⊢; clear nq osq eas ecs pas bas ras pcs bcs rcs
                      go_wp2
                      go_roundw
                      case rel => exact ⟨p + 1, by go_num, by omega, by omega, HK, HS2⟩
                      case measure => simp [RowKit.intOf]; omega
                    | false =>
                      have hi2 : Hid (p = Sort.scanUp (fun x => (ltOf cf) x dk[a]!) dk j i) := Lib.hid ((scanUp_end (fun x => (ltOf cf) x dk[a]!) dk j p (Or.inr hL)).symm.trans HS1.out)
                      obtain ⟨is, his⟩ : ∃ zq : Nat, zq = p := ⟨_, rfl⟩; obtain ⟨js, hjs⟩ : ∃ zq : Nat, zq = a := ⟨_, rfl⟩; have eas : ((p : Int) : Int).toNat = is := (by omega); have pas : (0 : Int) ≤ (p : Int) := (by omega); have bas : ((p : Int) : Int) < (d0.size : Int) := (by omega); have ras : IntKind.i64.wrap ((p : Int)) = (p : Int) := (by rw [IntKind.wrap_i64]; omega); have ecs : ((a : Int) : Int).toNat = js := (by omega); have pcs : (0 : Int) ≤ (a : Int) := (by omega); have bcs : ((a : Int) : Int) < (d0.size : Int) := (by omega); have rcs : IntKind.i64.wrap ((a : Int)) = (a : Int) := (by rw [IntKind.wrap_i64]; omega); obtain ⟨xs, hxs⟩ : ∃ zx, zx = dk[p]! := ⟨_, rfl⟩; obtain ⟨ys, hys⟩ : ∃ zx, zx = dk[a]! := ⟨_, rfl⟩; have las := HK.out.cl HR.out (by omega) (p) (by omega); have lbs := HK.out.cl HR.out (by omega) (a) (by omega); rw [← hxs, ← his] at las; rw [← hys, ← hjs] at lbs; have hcs := fun n' os' => HK.out.cmpM HC.out (by omega) xs ys n' os'; have hds : decide (cf xs ys < 0) = false := (by rw [hxs, hys]; exact hL); clear hxs hys his hjs; generalize cf xs ys = cvs at hcs hds
                      clear hL HS1
                      go_wp2_with fail; go_quiet_grown (first | (go_at_fn g; refine Calls.grown_of (hcs _ _))); have HK2 := Lib.hid (HK.out.grown nq osq); clear HK las lbs hcs; have HK := HK2; clear HK2; generalize grow (World.drewN wr nq) osq = w2 at HK ⊢; clear nq osq eas ecs pas bas ras pcs bcs rcs
                      go_wp2
                      go_loopw [13] (fun vj wq => ∃ (q : Nat), vj = .int .i64 q ∧ q ≤ j ∧ p ≤ q + 1 ∧ Hid (SW enc w0 blk off dk wq) ∧ Hid (Sort.scanDown (fun x => !(ltOf cf) x dk[a]!) dk p q = Sort.scanDown (fun x => !(ltOf cf) x dk[a]!) dk p j)) (fun vj _ => (RowKit.intOf vj).toNat)
                      case atStart => exact ⟨j, rfl, Nat.le_refl _, hpj, HK, rfl⟩
                      case round =>
                        clear HK
                        obtain ⟨q, rfl, hqj, hpq, HK, HS2⟩ := hrel
                        by_cases hle2 : p ≤ q
                        · have hgd : decide ((p : Int) ≤ (q : Int)) = true := decide_eq_true (by omega)
                          cases hM : (ltOf cf) dk[q]! dk[a]! with
                          | false =>
                            have HS3 : Hid (Sort.scanDown (fun x => !(ltOf cf) x dk[a]!) dk p (q - 1) = Sort.scanDown (fun x => !(ltOf cf) x dk[a]!) dk p j) := Lib.hid ((scanDown_go (fun x => !(ltOf cf) x dk[a]!) dk p q hle2 (by omega) (by simp [hM])).symm.trans HS2.out)
                            obtain ⟨is, his⟩ : ∃ zq : Nat, zq = q := ⟨_, rfl⟩; obtain ⟨js, hjs⟩ : ∃ zq : Nat, zq = a := ⟨_, rfl⟩; have eas : ((q : Int) : Int).toNat = is := (by omega); have pas : (0 : Int) ≤ (q : Int) := (by omega); have bas : ((q : Int) : Int) < (d0.size : Int) := (by omega); have ras : IntKind.i64.wrap ((q : Int)) = (q : Int) := (by rw [IntKind.wrap_i64]; omega); have ecs : ((a : Int) : Int).toNat = js := (by omega); have pcs : (0 : Int) ≤ (a : Int) := (by omega); have bcs : ((a : Int) : Int) < (d0.size : Int) := (by omega); have rcs : IntKind.i64.wrap ((a : Int)) = (a : Int) := (by rw [IntKind.wrap_i64]; omega); obtain ⟨xs, hxs⟩ : ∃ zx, zx = dk[q]! := ⟨_, rfl⟩; obtain ⟨ys, hys⟩ : ∃ zx, zx = dk[a]! := ⟨_, rfl⟩; have las := HK.out.cl HR.out (by omega) (q) (by omega); have lbs := HK.out.cl HR.out (by omega) (a) (by omega); rw [← hxs, ← his] at las; rw [← hys, ← hjs] at lbs; have hcs := fun n' os' => HK.out.cmpM HC.out (by omega) xs ys n' os'; have hds : decide (cf xs ys < 0) = false := (by rw [hxs, hys]; exact hM); clear hxs hys his hjs; generalize cf xs ys = cvs at hcs hds
                            clear hM HS2
                            go_wp2_with fail; go_quiet_grown (first | (go_at_fn g; refine Calls.grown_of (hcs _ _))); have HK2 := Lib.hid (HK.out.grown nq osq); clear HK las lbs hcs; have HK := HK2; clear HK2; generalize grow (World.drewN wr nq) osq = w3 at HK ⊢; clear nq osq eas ecs pas bas ras pcs bcs rcs
                            go_wp2
                            go_roundw
                            case rel => exact ⟨q - 1, by go_num, by omega, by omega, HK, HS3⟩
                            case measure => simp [RowKit.intOf]; omega
                          | true =>
                            have hj2 : Hid (q = Sort.scanDown (fun x => !(ltOf cf) x dk[a]!) dk p j) := Lib.hid ((scanDown_end (fun x => !(ltOf cf) x dk[a]!) dk p q (Or.inr (by simp [hM]))).symm.trans HS2.out)
                            have hlt3 := part_scans_lt (ltOf cf) a i j dk (by omega) hi2.out hj2.out hle2
                            have hgt : decide ((q : Int) < (p : Int)) = false := decide_eq_false (by omega)
                            have hgn : decide (q < p) = false := decide_eq_false (by omega)
                            obtain ⟨is, his⟩ : ∃ zq : Nat, zq = q := ⟨_, rfl⟩; obtain ⟨js, hjs⟩ : ∃ zq : Nat, zq = a := ⟨_, rfl⟩; have eas : ((q : Int) : Int).toNat = is := (by omega); have pas : (0 : Int) ≤ (q : Int) := (by omega); have bas : ((q : Int) : Int) < (d0.size : Int) := (by omega); have ras : IntKind.i64.wrap ((q : Int)) = (q : Int) := (by rw [IntKind.wrap_i64]; omega); have ecs : ((a : Int) : Int).toNat = js := (by omega); have pcs : (0 : Int) ≤ (a : Int) := (by omega); have bcs : ((a : Int) : Int) < (d0.size : Int) := (by omega); have rcs : IntKind.i64.wrap ((a : Int)) = (a : Int) := (by rw [IntKind.wrap_i64]; omega); obtain ⟨xs, hxs⟩ : ∃ zx, zx = dk[q]! := ⟨_, rfl⟩; obtain ⟨ys, hys⟩ : ∃ zx, zx = dk[a]! := ⟨_, rfl⟩; have las := HK.out.cl HR.out (by omega) (q) (by omega); have lbs := HK.out.cl HR.out (by omega) (a) (by omega); rw [← hxs, ← his] at las; rw [← hys, ← hjs] at lbs; have hcs := fun n' os' => HK.out.cmpM HC.out (by omega) xs ys n' os'; have hds : decide (cf xs ys < 0) = true := (by rw [hxs, hys]; exact hM); clear hxs hys his hjs; generalize cf xs ys = cvs at hcs hds
                            clear hM HS2
                            go_wp2_with fail; go_quiet_grown (first | (go_at_fn g; refine Calls.grown_of (hcs _ _))); have HK2 := Lib.hid (HK.out.grown nq osq); clear HK las lbs hcs; have HK := HK2; clear HK2; generalize grow (World.drewN wr nq) osq = w3 at HK ⊢; clear nq osq eas ecs pas bas ras pcs bcs rcs
                            go_wp2_with fail
                            obtain ⟨ie, hie⟩ : ∃ zq : Nat, zq = p := ⟨_, rfl⟩; obtain ⟨je, hje⟩ : ∃ zq : Nat, zq = q := ⟨_, rfl⟩; have eae : ((p : Int) : Int).toNat = ie := (by omega); have pae : (0 : Int) ≤ (p : Int) := (by omega); have bae : ((p : Int) : Int) < (d0.size : Int) := (by omega); have rae : IntKind.i64.wrap ((p : Int)) = (p : Int) := (by rw [IntKind.wrap_i64]; omega); have ece : ((q : Int) : Int).toNat = je := (by omega); have pce : (0 : Int) ≤ (q : Int) := (by omega); have bce : ((q : Int) : Int) < (d0.size : Int) := (by omega); have rce : IntKind.i64.wrap ((q : Int)) = (q : Int) := (by rw [IntKind.wrap_i64]; omega); obtain ⟨xe, hxe⟩ : ∃ zx, zx = dk[p]! := ⟨_, rfl⟩; obtain ⟨ye, hye⟩ : ∃ zx, zx = dk[q]! := ⟨_, rfl⟩; have HXe : Hid (SW enc w0 blk off (swp dk (p) (q)) (World.drew (World.setCell (World.setCell w3 ⟨blk, off + ie, none⟩ (enc ye)) ⟨blk, off + je, none⟩ (enc xe)))) := Lib.hid (by rw [hie, hje, hxe, hye]; exact HK.out.swapped HR.out (p) (q) (by omega) (by omega)); have l1e := HK.out.c1 HR.out (by omega) (p) (by omega); have l2e := HK.out.c1 HR.out (by omega) (q) (by omega); have f1e := HK.out.f1 HR.out (by omega) (p) (by omega); have f2e := HK.out.f1 HR.out (by omega) (q) (by omega); obtain ⟨ue, l3e⟩ := HK.out.c2 HR.out (by omega) (p) (q) (by omega) (by omega) (enc ye); rw [← hxe] at l1e; rw [← hye] at l2e; rw [← hje, ← hie] at l3e; rw [← hie] at l1e f1e; rw [← hje] at l2e f2e; clear hxe hye hie hje HK; go_wp2_with fail; go_big_region_o; clear l1e l2e l3e f1e f2e eae ece pae bae rae pce bce rce; have HK := HXe; clear HXe
                            generalize World.drew (World.setCell (World.setCell w3 ⟨blk, off + ie, none⟩ (enc ye)) ⟨blk, off + je, none⟩ (enc xe)) = w4 at HK ⊢
                            have HE2 : Hid (Sort.partLoop (ltOf cf) a (p + 1) (q - 1) (swp dk p q) = Sort.partLoop (ltOf cf) a I0 J0 D0) := Lib.hid (by rw [← HE.out]; exact (part_go (ltOf cf) a i j dk hi2.out hj2.out (by omega)).symm)
                            clear hi2 hj2 HE
                            go_wp2
                            go_roundw
                            case rel => exact ⟨p + 1, q - 1, Sort.swp dk p q, by go_num, by go_num, by omega, by omega, by omega, by rw [size_swp]; exact hsk, HK, HE2⟩
                            case measure => simp [RowKit.intOf]; omega
                        · have hj2 : Hid (q = Sort.scanDown (fun x => !(ltOf cf) x dk[a]!) dk p j) := Lib.hid ((scanDown_end (fun x => !(ltOf cf) x dk[a]!) dk p q (Or.inl hle2)).symm.trans HS2.out)
                          have hgd : decide ((p : Int) ≤ (q : Int)) = false := decide_eq_false (by omega)
                          have hgt : decide ((q : Int) < (p : Int)) = true := decide_eq_true (by omega)
                          have hgn : decide (q < p) = true := decide_eq_true (by omega)
                          clear HS2
                          go_wp2_with fail; go_big_region_o; have HK2 := Lib.hid HK.out.drew; clear HK; have HK := HK2; clear HK2; generalize World.drew wr = w4 at HK ⊢
                          have HF := Lib.hid (show Sort.partition (ltOf cf) d a b pivot = (q, false, swp dk q a) by rw [PF.out, ← HE.out, part_break (ltOf cf) a i j dk hi2.out hj2.out (by omega)])
                          clear hi2 hj2 HE PF
                          go_wp2_with fail
                          obtain ⟨ie, hie⟩ : ∃ zq : Nat, zq = q := ⟨_, rfl⟩; obtain ⟨je, hje⟩ : ∃ zq : Nat, zq = a := ⟨_, rfl⟩; have eae : ((q : Int) : Int).toNat = ie := (by omega); have pae : (0 : Int) ≤ (q : Int) := (by omega); have bae : ((q : Int) : Int) < (d0.size : Int) := (by omega); have rae : IntKind.i64.wrap ((q : Int)) = (q : Int) := (by rw [IntKind.wrap_i64]; omega); have ece : ((a : Int) : Int).toNat = je := (by omega); have pce : (0 : Int) ≤ (a : Int) := (by omega); have bce : ((a : Int) : Int) < (d0.size : Int) := (by omega); have rce : IntKind.i64.wrap ((a : Int)) = (a : Int) := (by rw [IntKind.wrap_i64]; omega); obtain ⟨xe, hxe⟩ : ∃ zx, zx = dk[q]! := ⟨_, rfl⟩; obtain ⟨ye, hye⟩ : ∃ zx, zx = dk[a]! := ⟨_, rfl⟩; have HXe : Hid (SW enc w0 blk off (swp dk (q) (a)) (World.drew (World.setCell (World.setCell w4 ⟨blk, off + ie, none⟩ (enc ye)) ⟨blk, off + je, none⟩ (enc xe)))) := Lib.hid (by rw [hie, hje, hxe, hye]; exact HK.out.swapped HR.out (q) (a) (by omega) (by omega)); have l1e := HK.out.c1 HR.out (by omega) (q) (by omega); have l2e := HK.out.c1 HR.out (by omega) (a) (by omega); have f1e := HK.out.f1 HR.out (by omega) (q) (by omega); have f2e := HK.out.f1 HR.out (by omega) (a) (by omega); obtain ⟨ue, l3e⟩ := HK.out.c2 HR.out (by omega) (q) (a) (by omega) (by omega) (enc ye); rw [← hxe] at l1e; rw [← hye] at l2e; rw [← hje, ← hie] at l3e; rw [← hie] at l1e f1e; rw [← hje] at l2e f2e; clear hxe hye hie hje HK; go_wp2_with fail; go_big_region_o; clear l1e l2e l3e f1e f2e eae ece pae bae rae pce bce rce; have HK := HXe; clear HXe
                          generalize World.drew (World.setCell (World.setCell w4 ⟨blk, off + ie, none⟩ (enc ye)) ⟨blk, off + je, none⟩ (enc xe)) = w5 at HK ⊢
                          go_wp2
                          go_ret2
                          rw [HF.out]
                          exact ⟨rfl, HK.out⟩
                  · have hi2 : Hid (p = Sort.scanUp (fun x => (ltOf cf) x dk[a]!) dk j i) := Lib.hid ((scanUp_end (fun x => (ltOf cf) x dk[a]!) dk j p (Or.inl hle)).symm.trans HS1.out)
                    have hgu : decide ((p : Int) ≤ (j : Int)) = false := decide_eq_false (by omega)
                    clear HS1
                    go_wp2_with fail; go_big_region_o; have HK2 := Lib.hid HK.out.drew; clear HK; have HK := HK2; clear HK2; generalize World.drew wr = w2 at HK ⊢
                    go_wp2
                    go_loopw [13] (fun vj wq => ∃ (q : Nat), vj = .int .i64 q ∧ q ≤ j ∧ p ≤ q + 1 ∧ Hid (SW enc w0 blk off dk wq) ∧ Hid (Sort.scanDown (fun x => !(ltOf cf) x dk[a]!) dk p q = Sort.scanDown (fun x => !(ltOf cf) x dk[a]!) dk p j)) (fun vj _ => (RowKit.intOf vj).toNat)
                    case atStart => exact ⟨j, rfl, Nat.le_refl _, hpj, HK, rfl⟩
                    case round =>
                      clear HK
                      obtain ⟨q, rfl, hqj, hpq, HK, HS2⟩ := hrel
                      by_cases hle2 : p ≤ q
                      · exfalso; omega
                      · have hj2 : Hid (q = Sort.scanDown (fun x => !(ltOf cf) x dk[a]!) dk p j) := Lib.hid ((scanDown_end (fun x => !(ltOf cf) x dk[a]!) dk p q (Or.inl hle2)).symm.trans HS2.out)
                        have hgd : decide ((p : Int) ≤ (q : Int)) = false := decide_eq_false (by omega)
                        have hgt : decide ((q : Int) < (p : Int)) = true := decide_eq_true (by omega)
                        have hgn : decide (q < p) = true := decide_eq_true (by omega)
                        clear HS2
                        go_wp2_with fail; go_big_region_o; have HK2 := Lib.hid HK.out.drew; clear HK; have HK := HK2; clear HK2; generalize World.drew wr = w4 at HK ⊢
                        have HF := Lib.hid (show Sort.partition (ltOf cf) d a b pivot = (q, false, swp dk q a) by rw [PF.out, ← HE.out, part_break (ltOf cf) a i j dk hi2.out hj2.out (by omega)])
                        clear hi2 hj2 HE PF
                        go_wp2_with fail
                        obtain ⟨ie, hie⟩ : ∃ zq : Nat, zq = q := ⟨_, rfl⟩; obtain ⟨je, hje⟩ : ∃ zq : Nat, zq = a := ⟨_, rfl⟩; have eae : ((q : Int) : Int).toNat = ie := (by omega); have pae : (0 : Int) ≤ (q : Int) := (by omega); have bae : ((q : Int) : Int) < (d0.size : Int) := (by omega); have rae : IntKind.i64.wrap ((q : Int)) = (q : Int) := (by rw [IntKind.wrap_i64]; omega); have ece : ((a : Int) : Int).toNat = je := (by omega); have pce : (0 : Int) ≤ (a : Int) := (by omega); have bce : ((a : Int) : Int) < (d0.size : Int) := (by omega); have rce : IntKind.i64.wrap ((a : Int)) = (a : Int) := (by rw [IntKind.wrap_i64]; omega); obtain ⟨xe, hxe⟩ : ∃ zx, zx = dk[q]! := ⟨_, rfl⟩; obtain ⟨ye, hye⟩ : ∃ zx, zx = dk[a]! := ⟨_, rfl⟩; have HXe : Hid (SW enc w0 blk off (swp dk (q) (a)) (World.drew (World.setCell (World.setCell w4 ⟨blk, off + ie, none⟩ (enc ye)) ⟨blk, off + je, none⟩ (enc xe)))) := Lib.hid (by rw [hie, hje, hxe, hye]; exact HK.out.swapped HR.out (q) (a) (by omega) (by omega)); have l1e := HK.out.c1 HR.out (by omega) (q) (by omega); have l2e := HK.out.c1 HR.out (by omega) (a) (by omega); have f1e := HK.out.f1 HR.out (by omega) (q) (by omega); have f2e := HK.out.f1 HR.out (by omega) (a) (by omega); obtain ⟨ue, l3e⟩ := HK.out.c2 HR.out (by omega) (q) (a) (by omega) (by omega) (enc ye); rw [← hxe] at l1e; rw [← hye] at l2e; rw [← hje, ← hie] at l3e; rw [← hie] at l1e f1e; rw [← hje] at l2e f2e; clear hxe hye hie hje HK; go_wp2_with fail; go_big_region_o; clear l1e l2e l3e f1e f2e eae ece pae bae rae pce bce rce; have HK := HXe; clear HXe
                        generalize World.drew (World.setCell (World.setCell w4 ⟨blk, off + ie, none⟩ (enc ye)) ⟨blk, off + je, none⟩ (enc xe)) = w5 at HK ⊢
                        go_wp2
                        go_ret2
                        rw [HF.out]
                        exact ⟨rfl, HK.out⟩
          · have hj2 : Hid (q = Sort.scanDown (fun x => !(ltOf cf) x dk[a]!) dk p j) := Lib.hid ((scanDown_end (fun x => !(ltOf cf) x dk[a]!) dk p q (Or.inl hle2)).symm.trans HS2.out)
            have hgd : decide ((p : Int) ≤ (q : Int)) = false := decide_eq_false (by omega)
            have hgt : decide ((q : Int) < (p : Int)) = true := decide_eq_true (by omega)
            have hgn : decide (q < p) = true := decide_eq_true (by omega)
            clear HS2
            go_wp2_with fail; go_big_region_o; have HK2 := Lib.hid HK.out.drew; clear HK; have HK := HK2; clear HK2; generalize World.drew wr = w4 at HK ⊢
            have HF := Lib.hid (show Sort.partition (ltOf cf) d a b pivot = (q, true, swp dk q a) from part_first_break (ltOf cf) d a b pivot Hi.out Hj.out Hdk.out hi2.out hj2.out (by omega))
            clear hi2 hj2 Hi Hj Hdk
            go_wp2_with fail
            obtain ⟨ie, hie⟩ : ∃ zq : Nat, zq = q := ⟨_, rfl⟩; obtain ⟨je, hje⟩ : ∃ zq : Nat, zq = a := ⟨_, rfl⟩; have eae : ((q : Int) : Int).toNat = ie := (by omega); have pae : (0 : Int) ≤ (q : Int) := (by omega); have bae : ((q : Int) : Int) < (d0.size : Int) := (by omega); have rae : IntKind.i64.wrap ((q : Int)) = (q : Int) := (by rw [IntKind.wrap_i64]; omega); have ece : ((a : Int) : Int).toNat = je := (by omega); have pce : (0 : Int) ≤ (a : Int) := (by omega); have bce : ((a : Int) : Int) < (d0.size : Int) := (by omega); have rce : IntKind.i64.wrap ((a : Int)) = (a : Int) := (by rw [IntKind.wrap_i64]; omega); obtain ⟨xe, hxe⟩ : ∃ zx, zx = dk[q]! := ⟨_, rfl⟩; obtain ⟨ye, hye⟩ : ∃ zx, zx = dk[a]! := ⟨_, rfl⟩; have HXe : Hid (SW enc w0 blk off (swp dk (q) (a)) (World.drew (World.setCell (World.setCell w4 ⟨blk, off + ie, none⟩ (enc ye)) ⟨blk, off + je, none⟩ (enc xe)))) := Lib.hid (by rw [hie, hje, hxe, hye]; exact HK.out.swapped HR.out (q) (a) (by omega) (by omega)); have l1e := HK.out.c1 HR.out (by omega) (q) (by omega); have l2e := HK.out.c1 HR.out (by omega) (a) (by omega); have f1e := HK.out.f1 HR.out (by omega) (q) (by omega); have f2e := HK.out.f1 HR.out (by omega) (a) (by omega); obtain ⟨ue, l3e⟩ := HK.out.c2 HR.out (by omega) (q) (a) (by omega) (by omega) (enc ye); rw [← hxe] at l1e; rw [← hye] at l2e; rw [← hje, ← hie] at l3e; rw [← hie] at l1e f1e; rw [← hje] at l2e f2e; clear hxe hye hie hje HK; go_wp2_with fail; go_big_region_o; clear l1e l2e l3e f1e f2e eae ece pae bae rae pce bce rce; have HK := HXe; clear HXe
            generalize World.drew (World.setCell (World.setCell w4 ⟨blk, off + ie, none⟩ (enc ye)) ⟨blk, off + je, none⟩ (enc xe)) = w5 at HK ⊢
            go_wp2
            go_ret2
            rw [HF.out]
            exact ⟨rfl, HK.out⟩
    · have hi2 : Hid (p = Sort.scanUp (fun x => (ltOf cf) x dk[a]!) dk j i) := Lib.hid ((scanUp_end (fun x => (ltOf cf) x dk[a]!) dk j p (Or.inl hle)).symm.trans HS1.out)
      have hgu : decide ((p : Int) ≤ (j : Int)) = false := decide_eq_false (by omega)
      clear HS1
      go_wp2_with fail; go_big_region_o; have HK2 := Lib.hid HK.out.drew; clear HK; have HK := HK2; clear HK2; generalize World.drew wr = w2 at HK ⊢
      go_wp2
      go_loopw [13] (fun vj wq => ∃ (q : Nat), vj = .int .i64 q ∧ q ≤ j ∧ p ≤ q + 1 ∧ Hid (SW enc w0 blk off dk wq) ∧ Hid (Sort.scanDown (fun x => !(ltOf cf) x dk[a]!) dk p q = Sort.scanDown (fun x => !(ltOf cf) x dk[a]!) dk p j)) (fun vj _ => (RowKit.intOf vj).toNat)
      case atStart => exact ⟨j, rfl, Nat.le_refl _, hpj, HK, rfl⟩
      case round =>
        clear HK
        obtain ⟨q, rfl, hqj, hpq, HK, HS2⟩ := hrel
        by_cases hle2 : p ≤ q
        · exfalso; omega
        · have hj2 : Hid (q = Sort.scanDown (fun x => !(ltOf cf) x dk[a]!) dk p j) := Lib.hid ((scanDown_end (fun x => !(ltOf cf) x dk[a]!) dk p q (Or.inl hle2)).symm.trans HS2.out)
          have hgd : decide ((p : Int) ≤ (q : Int)) = false := decide_eq_false (by omega)
          have hgt : decide ((q : Int) < (p : Int)) = true := decide_eq_true (by omega)
          have hgn : decide (q < p) = true := decide_eq_true (by omega)
          clear HS2
          go_wp2_with fail; go_big_region_o; have HK2 := Lib.hid HK.out.drew; clear HK; have HK := HK2; clear HK2; generalize World.drew wr = w4 at HK ⊢
          have HF := Lib.hid (show Sort.partition (ltOf cf) d a b pivot = (q, true, swp dk q a) from part_first_break (ltOf cf) d a b pivot Hi.out Hj.out Hdk.out hi2.out hj2.out (by omega))
          clear hi2 hj2 Hi Hj Hdk
          go_wp2_with fail
          obtain ⟨ie, hie⟩ : ∃ zq : Nat, zq = q := ⟨_, rfl⟩; obtain ⟨je, hje⟩ : ∃ zq : Nat, zq = a := ⟨_, rfl⟩; have eae : ((q : Int) : Int).toNat = ie := (by omega); have pae : (0 : Int) ≤ (q : Int) := (by omega); have bae : ((q : Int) : Int) < (d0.size : Int) := (by omega); have rae : IntKind.i64.wrap ((q : Int)) = (q : Int) := (by rw [IntKind.wrap_i64]; omega); have ece : ((a : Int) : Int).toNat = je := (by omega); have pce : (0 : Int) ≤ (a : Int) := (by omega); have bce : ((a : Int) : Int) < (d0.size : Int) := (by omega); have rce : IntKind.i64.wrap ((a : Int)) = (a : Int) := (by rw [IntKind.wrap_i64]; omega); obtain ⟨xe, hxe⟩ : ∃ zx, zx = dk[q]! := ⟨_, rfl⟩; obtain ⟨ye, hye⟩ : ∃ zx, zx = dk[a]! := ⟨_, rfl⟩; have HXe : Hid (SW enc w0 blk off (swp dk (q) (a)) (World.drew (World.setCell (World.setCell w4 ⟨blk, off + ie, none⟩ (enc ye)) ⟨blk, off + je, none⟩ (enc xe)))) := Lib.hid (by rw [hie, hje, hxe, hye]; exact HK.out.swapped HR.out (q) (a) (by omega) (by omega)); have l1e := HK.out.c1 HR.out (by omega) (q) (by omega); have l2e := HK.out.c1 HR.out (by omega) (a) (by omega); have f1e := HK.out.f1 HR.out (by omega) (q) (by omega); have f2e := HK.out.f1 HR.out (by omega) (a) (by omega); obtain ⟨ue, l3e⟩ := HK.out.c2 HR.out (by omega) (q) (a) (by omega) (by omega) (enc ye); rw [← hxe] at l1e; rw [← hye] at l2e; rw [← hje, ← hie] at l3e; rw [← hie] at l1e f1e; rw [← hje] at l2e f2e; clear hxe hye hie hje HK; go_wp2_with fail; go_big_region_o; clear l1e l2e l3e f1e f2e eae ece pae bae rae pce bce rce; have HK := HXe; clear HXe
          generalize World.drew (World.setCell (World.setCell w4 ⟨blk, off + ie, none⟩ (enc ye)) ⟨blk, off + je, none⟩ (enc xe)) = w5 at HK ⊢
          go_wp2
          go_ret2
          rw [HF.out]
          exact ⟨rfl, HK.out⟩
end
end Go.Proofs.YtlnnbkpcnhlfcaaDoor
