/- Joined texts: MSortBrk, MSortPi. -/
import Derived.Test.YtlnnbkpcnhlfcaaDoorJBillDayIx
import Derived.Shelf.SlSortCmp.Xorshift
import Derived.Sort.Walk7
import Derived.Sort.Walk7a
import Derived.BigRegion
import Derived.Sort.WalkA6
/- slices.SortFunc's family on ints where the comparison is a method value: breakPatterns, walked. -/

namespace Go.Proofs.YtlnnbkpcnhlfcaaDoor
open Go.RowKit Go.Lib Go.Sort Go.Shelf

section
variable {β : Type} [Inhabited β] {enc : β → Value} {w0 W : World} {blk off : Nat} {d0 d : Array β}
set_option maxHeartbeats 8000000 in
set_option maxRecDepth 1000000 in
theorem brkM_go (R : Row1 enc w0 blk off d0) (g : Nat) (rv : Value)
    (hs : d.size = d0.size) (hsz : d0.size ≤ 1000000) (cap a L : Nat) (hb : a + L ≤ d0.size) (h8 : 8 ≤ L) (hW : SW enc w0 blk off d W) :
    Calls Tryd.prog 97 #[.slice (some ⟨blk, off, none⟩) d0.size cap, .int .i64 a, .int .i64 ((a + L : Nat) : Int), (.func (.func g) #[rv] #[])] W fun e w' =>
      e = .returned (.tuple #[]) ∧ SW enc w0 blk off (breakPatterns d a (a + L)) w' := by
  have e47 : ∀ args w, (callFunc 110 args).run Tryd.prog w = .ok (.enter 110 args) w := enters_of Tryd.func110 (by kernel_rfl) rfl
  have e48 : ∀ args w, (callFunc 111 args).run Tryd.prog w = .ok (.enter 111 args) w := enters_of Tryd.func111 (by kernel_rfl) rfl
  have LL := Tryd.lay_sort_f50
  have S := stF
  have mixed := S.mixed; have t0 := S.t0; have a0 := S.a0; have z0 := S.z0; have v0 := S.v0; have t3 := S.t3; have a3 := S.a3; have z3 := S.z3; have v3 := S.v3; have t4 := S.t4; have a4 := S.a4; have z4 := S.z4; have v4 := S.v4; have t22 := S.t22; have a22 := S.a22; have z22 := S.z22; have v22 := S.v22; have t78 := S.t78; have a78 := S.a78; have z78 := S.z78; have v78 := S.v78; have t96 := S.t96; have a96 := S.a96; have z96 := S.z96; have v96 := S.v96; have aE := S.aE; have zE := S.zE; have u22 := run_underlying S.t22; have hst := R.hO.store Tryd.prog; have hcl0 := R.hO.cells; simp only [Value.cells] at hcl0
  rw [breakPatterns_eq d a L h8]
  obtain ⟨M, hM⟩ : ∃ M : Nat, M = 1 <<< bitsLen L := ⟨_, rfl⟩
  have hM1 : 1 ≤ M := by rw [hM, Nat.one_shiftLeft]; exact Nat.two_pow_pos _
  have hM2 : M ≤ 2 * L := by rw [hM, Nat.one_shiftLeft]; exact two_pow_bitsLen_le (by omega)
  have hNP : ∀ w, Calls Tryd.prog 110 #[.int .i64 (L : Int)] w fun e w' => e = .returned (.int .u64 (M : Int)) ∧ w' = w := by
    rw [hM]; exact fun w => AnyF.nextPowerOfTwo (P := Tryd.prog) (ρ := Tryd.lay_sort_f50_ren) { LL with } L (by omega) w
  have hXN : ∀ (rb ro X : Nat), X < 18446744073709551616 → ∀ (w : World), w.cell? ⟨rb, ro, none⟩ = some (.int .u64 X) → w.frozen? ⟨rb, ro, none⟩ = false →
      Calls Tryd.prog 111 #[.pointer (some ⟨rb, ro, none⟩)] w fun e w' => e = .returned (.int .u64 (xorNextN X : Nat)) ∧ w' = (w.setCell ⟨rb, ro, none⟩ (.int .u64 (xorNextN X : Nat))).drewN 3 :=
    fun rb ro X hX w h1 h2 => AnyF.xorshift_Next (P := Tryd.prog) (ρ := Tryd.lay_sort_f50_ren) { LL with } rb ro X hX w h1 h2
  have HXN := Lib.hid hXN
  have HNP := Lib.hid hNP
  rw [← hM]
  clear hM hXN hNP LL
  have hLz : ((a : Int) + (L : Int) - (a : Int)) = (L : Int) := by omega
  have h8z : (8 : Int) ≤ (L : Int) := by omega
  have hne : W.heap.size ≠ blk := by have := hW.lt R.hblk; omega
  have hle0 : w0.heap.size ≤ W.heap.size := hW.le
  have HW := Lib.hid hW
  have HR := Lib.hid R
  clear hW R S
  go_enter Tryd.func97, Tryd.ntmps97
  go_wp2_with (go_at_fn 110; refine (HNP.out _).mono ?_; rintro e w' ⟨rfl, rfl⟩)
  go_loopg [11] 3 (fun g1 vi wr => ∃ (t : Nat) (r : UInt64) (dk : Array β), vi = .int .i64 ((a : Int) + (L : Int) / 4 * 2 - 1 + (t : Int)) ∧ t ≤ 3 ∧ 3 - t ≤ g1 ∧ dk.size = d0.size ∧ Hid (SW enc w0 blk off dk wr) ∧
      wr.cell? ⟨W.heap.size, 0, none⟩ = some (.int .u64 (r.toNat : Int)) ∧ wr.frozen? ⟨W.heap.size, 0, none⟩ = false ∧
      Hid (bpRest a L M (a + L / 4 * 2 - 1) (3 - t) t (r, dk) = bpRest a L M (a + L / 4 * 2 - 1) 3 0 (UInt64.ofNat L, d)))
  case atStart =>
    refine ⟨0, UInt64.ofNat L, d, by simp, by omega, by omega, hs, Lib.hid (HW.out.alloc _), ?_, by simp, rfl⟩
    rw [show (UInt64.ofNat L).toNat = L from by simp; omega]
    simp
  case round =>
    clear HW hs
    obtain ⟨t, r, dk, rfl, ht, hg1, hds, HK, cR, fR, HX⟩ := hrel
    by_cases ht3 : t < 3
    · have hle : (a : Int) + (L : Int) / 4 * 2 - 1 + (t : Int) ≤ (a : Int) + (L : Int) / 4 * 2 + 1 := by omega
      obtain ⟨R0, hRr⟩ : ∃ R0 : Nat, R0 = r.toNat := ⟨_, rfl⟩
      have lR : R0 < 18446744073709551616 := by rw [hRr]; exact r.toNat_lt
      obtain ⟨R', hR'⟩ : ∃ R' : Nat, R' = xorNextN R0 := ⟨_, rfl⟩
      have lR' : R' < 18446744073709551616 := by rw [hR']; exact xorNextN_lt R0 lR
      obtain ⟨O, hO⟩ : ∃ O : Nat, O = R' &&& (M - 1) := ⟨_, rfl⟩
      have lO : O ≤ M - 1 := by rw [hO]; exact Nat.and_le_right
      have eAnd : bits .and .u64 (R' : Int) ((M : Int) - 1) = (O : Int) := by
        rw [show ((M : Int) - 1) = ((M - 1 : Nat) : Int) by omega, bits_and_u64_nat _ _ lR' (by omega), hO]
      rw [← hRr] at cR
      have hNext : Calls Tryd.prog 111 #[.pointer (some ⟨W.heap.size, 0, none⟩)] wr fun e w' => e = .returned (.int .u64 (R' : Int)) ∧ w' = (wr.setCell ⟨W.heap.size, 0, none⟩ (.int .u64 (R' : Int))).drewN 3 := by
        rw [hR']; exact HXN.out _ _ R0 lR wr cR fR
      have HN : Hid (R' = (xorNext r).toNat ∧ O = (xorNext r).toNat &&& (M - 1)) := by
        have e : R' = (xorNext r).toNat := by rw [hR', hRr, xorNext_toNat]
        exact ⟨e, by rw [hO, e]⟩
      clear hRr hR' hO
      have HK2 := Lib.hid ((HK.out.setCell_new W.heap.size 0 (.int .u64 (R' : Int)) hle0).drewN 3)
      have cR' : ((wr.setCell ⟨W.heap.size, 0, none⟩ (.int .u64 (R' : Int))).drewN 3).cell? ⟨W.heap.size, 0, none⟩ = some (.int .u64 (R' : Int)) := by
        rw [World.cell?_drewN]; exact World.cell?_setCell_same _ _ _ cR
      have fR' : ((wr.setCell ⟨W.heap.size, 0, none⟩ (.int .u64 (R' : Int))).drewN 3).frozen? ⟨W.heap.size, 0, none⟩ = false := by
        rw [World.frozen?_drewN]; simpa using fR
      clear cR fR HK
      have HK := HK2
      clear HK2
      generalize (wr.setCell ⟨W.heap.size, 0, none⟩ (.int .u64 (R' : Int))).drewN 3 = w2 at hNext HK cR' fR'
      by_cases hLO : L ≤ O
      · have hLOz : (L : Int) ≤ (O : Int) := by omega
        (go_wp2_with (go_at_fn 111; refine hNext.mono ?_; rintro e w' ⟨rfl, hw'⟩; obtain rfl : w2 = w' := hw'.symm)); (obtain ⟨ie, hie⟩ : ∃ zq : Nat, zq = a + L / 4 * 2 - 1 + t := ⟨_, rfl⟩; obtain ⟨je, hje⟩ : ∃ zq : Nat, zq = a + (O - L) := ⟨_, rfl⟩; have eae : ((a : Int) + (L : Int) / 4 * 2 - 1 + (t : Int) : Int).toNat = ie := (by omega); have pae : (0 : Int) ≤ (a : Int) + (L : Int) / 4 * 2 - 1 + (t : Int) := (by omega); have bae : ((a : Int) + (L : Int) / 4 * 2 - 1 + (t : Int) : Int) < (d0.size : Int) := (by omega); have rae : IntKind.i64.wrap ((a : Int) + (L : Int) / 4 * 2 - 1 + (t : Int)) = (a : Int) + (L : Int) / 4 * 2 - 1 + (t : Int) := (by rw [IntKind.wrap_i64]; omega); have ece : ((a : Int) + ((O : Int) - (L : Int)) : Int).toNat = je := (by omega); have pce : (0 : Int) ≤ (a : Int) + ((O : Int) - (L : Int)) := (by omega); have bce : ((a : Int) + ((O : Int) - (L : Int)) : Int) < (d0.size : Int) := (by omega); have rce : IntKind.i64.wrap ((a : Int) + ((O : Int) - (L : Int))) = (a : Int) + ((O : Int) - (L : Int)) := (by rw [IntKind.wrap_i64]; omega); obtain ⟨xe, hxe⟩ : ∃ zx, zx = dk[a + L / 4 * 2 - 1 + t]! := ⟨_, rfl⟩; obtain ⟨ye, hye⟩ : ∃ zx, zx = dk[a + (O - L)]! := ⟨_, rfl⟩; have HXe : Hid (SW enc w0 blk off (swp dk (a + L / 4 * 2 - 1 + t) (a + (O - L))) (World.drew (World.setCell (World.setCell w2 ⟨blk, off + ie, none⟩ (enc ye)) ⟨blk, off + je, none⟩ (enc xe)))) := Lib.hid (by rw [hie, hje, hxe, hye]; exact HK.out.swapped HR.out (a + L / 4 * 2 - 1 + t) (a + (O - L)) (by omega) (by omega)); have l1e := HK.out.c1 HR.out (by omega) (a + L / 4 * 2 - 1 + t) (by omega); have l2e := HK.out.c1 HR.out (by omega) (a + (O - L)) (by omega); have f1e := HK.out.f1 HR.out (by omega) (a + L / 4 * 2 - 1 + t) (by omega); have f2e := HK.out.f1 HR.out (by omega) (a + (O - L)) (by omega); obtain ⟨ue, l3e⟩ := HK.out.c2 HR.out (by omega) (a + L / 4 * 2 - 1 + t) (a + (O - L)) (by omega) (by omega) (enc ye); rw [← hxe] at l1e; rw [← hye] at l2e; rw [← hje, ← hie] at l3e; rw [← hie] at l1e f1e; rw [← hje] at l2e f2e; clear hxe hye hie hje HK; go_wp2_with fail; go_big_region_o; clear l1e l2e l3e f1e f2e eae ece pae bae rae pce bce rce; have HK := HXe; clear HXe); (have k1 := box_kept_swap1 (W := w2) (blk := blk) hne cR' fR' (off + ie) (off + je) (enc ye) (enc xe)); (generalize World.drew (World.setCell (World.setCell w2 ⟨blk, off + ie, none⟩ (enc ye)) ⟨blk, off + je, none⟩ (enc xe)) = w3 at HK k1 ⊢); (go_wp2); (go_roundg (3 - (t + 1))); (case measure => omega); (case rel => exact ⟨t + 1, xorNext r, swp dk (a + L / 4 * 2 - 1 + t) (a + (O - L)), by congr 1; push_cast; omega, by omega, Nat.le_refl _, by rw [size_swp]; exact hds, HK, by rw [← HN.out.1]; exact k1.1, k1.2, (show Hid _ from by rw [← HX.out, bp_step a L M _ t r dk (O - L) ht3 (by rw [← HN.out.2, if_pos (by omega)])]; exact rfl)⟩)
      · have hLOz : ¬ (L : Int) ≤ (O : Int) := by omega
        (go_wp2_with (go_at_fn 111; refine hNext.mono ?_; rintro e w' ⟨rfl, hw'⟩; obtain rfl : w2 = w' := hw'.symm)); (obtain ⟨ie, hie⟩ : ∃ zq : Nat, zq = a + L / 4 * 2 - 1 + t := ⟨_, rfl⟩; obtain ⟨je, hje⟩ : ∃ zq : Nat, zq = a + (O) := ⟨_, rfl⟩; have eae : ((a : Int) + (L : Int) / 4 * 2 - 1 + (t : Int) : Int).toNat = ie := (by omega); have pae : (0 : Int) ≤ (a : Int) + (L : Int) / 4 * 2 - 1 + (t : Int) := (by omega); have bae : ((a : Int) + (L : Int) / 4 * 2 - 1 + (t : Int) : Int) < (d0.size : Int) := (by omega); have rae : IntKind.i64.wrap ((a : Int) + (L : Int) / 4 * 2 - 1 + (t : Int)) = (a : Int) + (L : Int) / 4 * 2 - 1 + (t : Int) := (by rw [IntKind.wrap_i64]; omega); have ece : ((a : Int) + ((O : Int)) : Int).toNat = je := (by omega); have pce : (0 : Int) ≤ (a : Int) + ((O : Int)) := (by omega); have bce : ((a : Int) + ((O : Int)) : Int) < (d0.size : Int) := (by omega); have rce : IntKind.i64.wrap ((a : Int) + ((O : Int))) = (a : Int) + ((O : Int)) := (by rw [IntKind.wrap_i64]; omega); obtain ⟨xe, hxe⟩ : ∃ zx, zx = dk[a + L / 4 * 2 - 1 + t]! := ⟨_, rfl⟩; obtain ⟨ye, hye⟩ : ∃ zx, zx = dk[a + (O)]! := ⟨_, rfl⟩; have HXe : Hid (SW enc w0 blk off (swp dk (a + L / 4 * 2 - 1 + t) (a + (O))) (World.drew (World.setCell (World.setCell w2 ⟨blk, off + ie, none⟩ (enc ye)) ⟨blk, off + je, none⟩ (enc xe)))) := Lib.hid (by rw [hie, hje, hxe, hye]; exact HK.out.swapped HR.out (a + L / 4 * 2 - 1 + t) (a + (O)) (by omega) (by omega)); have l1e := HK.out.c1 HR.out (by omega) (a + L / 4 * 2 - 1 + t) (by omega); have l2e := HK.out.c1 HR.out (by omega) (a + (O)) (by omega); have f1e := HK.out.f1 HR.out (by omega) (a + L / 4 * 2 - 1 + t) (by omega); have f2e := HK.out.f1 HR.out (by omega) (a + (O)) (by omega); obtain ⟨ue, l3e⟩ := HK.out.c2 HR.out (by omega) (a + L / 4 * 2 - 1 + t) (a + (O)) (by omega) (by omega) (enc ye); rw [← hxe] at l1e; rw [← hye] at l2e; rw [← hje, ← hie] at l3e; rw [← hie] at l1e f1e; rw [← hje] at l2e f2e; clear hxe hye hie hje HK; go_wp2_with fail; go_big_region_o; clear l1e l2e l3e f1e f2e eae ece pae bae rae pce bce rce; have HK := HXe; clear HXe); (have k1 := box_kept_swap1 (W := w2) (blk := blk) hne cR' fR' (off + ie) (off + je) (enc ye) (enc xe)); (generalize World.drew (World.setCell (World.setCell w2 ⟨blk, off + ie, none⟩ (enc ye)) ⟨blk, off + je, none⟩ (enc xe)) = w3 at HK k1 ⊢); (go_wp2); (go_roundg (3 - (t + 1))); (case measure => omega); (case rel => exact ⟨t + 1, xorNext r, swp dk (a + L / 4 * 2 - 1 + t) (a + (O)), by congr 1; push_cast; omega, by omega, Nat.le_refl _, by rw [size_swp]; exact hds, HK, by rw [← HN.out.1]; exact k1.1, k1.2, (show Hid _ from by rw [← HX.out, bp_step a L M _ t r dk (O) ht3 (by rw [← HN.out.2, if_neg (by omega)])]; exact rfl)⟩)
    · obtain rfl : t = 3 := by omega
      have hle : ¬ ((a : Int) + (L : Int) / 4 * 2 - 1 + ((3 : Nat) : Int) ≤ (a : Int) + (L : Int) / 4 * 2 + 1) := by omega
      have HF := HX
      clear HX
      go_wp2
      go_end0
      refine ⟨rfl, ?_⟩
      rw [← HF.out]
      exact HK.out
theorem brkM_any (R : Row1 enc w0 blk off d0) (g : Nat) (rv : Value)
    (hs : d.size = d0.size) (hsz : d0.size ≤ 1000000) (cap a b : Nat) (h8 : a + 8 ≤ b) (hb : b ≤ d0.size) (hW : SW enc w0 blk off d W) :
    Calls Tryd.prog 97 #[.slice (some ⟨blk, off, none⟩) d0.size cap, .int .i64 a, .int .i64 b, (.func (.func g) #[rv] #[])] W fun e w' =>
      e = .returned (.tuple #[]) ∧ SW enc w0 blk off (breakPatterns d a b) w' := by
  obtain ⟨L, rfl⟩ : ∃ L, b = a + L := ⟨b - a, by omega⟩
  exact brkM_go R g rv hs hsz cap a L hb (by omega) hW
end
end Go.Proofs.YtlnnbkpcnhlfcaaDoor
/- slices.SortFunc's family on ints where the comparison is a method value: partialInsertionSort of fewer than fifty, walked. -/

namespace Go.Proofs.YtlnnbkpcnhlfcaaDoor
open Go.RowKit Go.Lib Go.Sort Go.Shelf

section
variable {β : Type} [Inhabited β] {enc : β → Value} {w0 W : World} {blk off : Nat} {d0 d : Array β}
set_option maxHeartbeats 8000000 in
set_option maxRecDepth 1000000 in
theorem partM_any (R : Row1 enc w0 blk off d0) (cf : β → β → Int) (g : Nat) (rv : Value) (eg : ∀ args w, (callFunc g args).run Tryd.prog w = .ok (.enter g args) w) (hC : CmpM Tryd.prog g rv enc cf blk off d0.size w0)
    (hsd : d.size = d0.size) (hsz : d0.size ≤ 1000000) (cap a b : Nat) (hab : a < b) (h50 : b - a < 50) (hb : b ≤ d0.size) (hW : SW enc w0 blk off d W) :
    Calls Tryd.prog 100 #[.slice (some ⟨blk, off, none⟩) d0.size cap, .int .i64 a, .int .i64 b, (.func (.func g) #[rv] #[])] W fun e w' =>
      e = .returned (.bool (Sort.partialInsertionSort (ltOf cf) d a b).2) ∧ SW enc w0 blk off (Sort.partialInsertionSort (ltOf cf) d a b).1 w' := by
  have S := stF
  have mixed := S.mixed; have t0 := S.t0; have a0 := S.a0; have z0 := S.z0; have v0 := S.v0; have t3 := S.t3; have a3 := S.a3; have z3 := S.z3; have v3 := S.v3; have t4 := S.t4; have a4 := S.a4; have z4 := S.z4; have v4 := S.v4; have t22 := S.t22; have a22 := S.a22; have z22 := S.z22; have v22 := S.v22; have t78 := S.t78; have a78 := S.a78; have z78 := S.z78; have v78 := S.v78; have t96 := S.t96; have a96 := S.a96; have z96 := S.z96; have v96 := S.v96; have aE := S.aE; have zE := S.zE; have u22 := run_underlying S.t22; have hst := R.hO.store Tryd.prog; have hcl0 := R.hO.cells; simp only [Value.cells] at hcl0
  have HW := Lib.hid hW
  have HR := Lib.hid R
  have HC := Lib.hid hC
  clear hW R hC S
  have h50z : (b : Int) - (a : Int) < 50 := by omega
  go_enter Tryd.func100, Tryd.ntmps100
  go_wp2_with fail
  refine wp_loop_rounds 1 ?_
  rw [rounds_succ]
  go_wp2_with fail
  go_loopg [9] (b - a) (fun g2 vi wr2 => ∃ (k : Nat), vi = .int .i64 ((k : Int) + 1) ∧ a ≤ k ∧ k + 1 ≤ b ∧ b - k ≤ g2 + 1 ∧ Hid (SW enc w0 blk off d wr2) ∧ Hid (scanSorted (ltOf cf) d b (k + 1) = scanSorted (ltOf cf) d b (a + 1)))
  case atStart => exact ⟨a, by go_num, Nat.le_refl _, hab, by omega, HW, rfl⟩
  case round =>
    clear HW
    obtain ⟨k, rfl, hak, hkb, hg2, HK, HS⟩ := hrel
    by_cases hlt : k + 1 < b
    · have hltz : (k : Int) + 1 < (b : Int) := by omega
      have hltd : decide ((k : Int) + 1 < (b : Int)) = true := decide_eq_true hltz
      cases hL : ltOf cf d[k + 1]! d[k]! with
      | false =>
        have HS2 : Hid (scanSorted (ltOf cf) d b (k + 1 + 1) = scanSorted (ltOf cf) d b (a + 1)) := Lib.hid (by rw [← HS.out, ← scanSorted_go (ltOf cf) d b (k + 1) hlt (by simpa using hL)])
        obtain ⟨it, hit⟩ : ∃ zq : Nat, zq = k + 1 := ⟨_, rfl⟩; obtain ⟨jt, hjt⟩ : ∃ zq : Nat, zq = k := ⟨_, rfl⟩; have eat : ((k : Int) + 1 : Int).toNat = it := (by omega); have pat : (0 : Int) ≤ (k : Int) + 1 := (by omega); have bat : ((k : Int) + 1 : Int) < (d0.size : Int) := (by omega); have rat : IntKind.i64.wrap ((k : Int) + 1) = (k : Int) + 1 := (by rw [IntKind.wrap_i64]; omega); have ect : ((k : Int) : Int).toNat = jt := (by omega); have pct : (0 : Int) ≤ (k : Int) := (by omega); have bct : ((k : Int) : Int) < (d0.size : Int) := (by omega); have rct : IntKind.i64.wrap ((k : Int)) = (k : Int) := (by rw [IntKind.wrap_i64]; omega); obtain ⟨xt, hxt⟩ : ∃ zx, zx = d[k + 1]! := ⟨_, rfl⟩; obtain ⟨yt, hyt⟩ : ∃ zx, zx = d[k]! := ⟨_, rfl⟩; have lat := HK.out.cl HR.out (by omega) (k + 1) (by omega); have lbt := HK.out.cl HR.out (by omega) (k) (by omega); rw [← hxt, ← hit] at lat; rw [← hyt, ← hjt] at lbt; have hct := fun n' os' => HK.out.cmpM HC.out (by omega) xt yt n' os'; have hdt : decide (cf xt yt < 0) = false := (by rw [hxt, hyt]; exact hL); clear hxt hyt hit hjt; generalize cf xt yt = cvt at hct hdt
        clear hL HS
        go_wp2_with fail; go_quiet_grown (first | (go_at_fn g; refine Calls.grown_of (hct _ _))); have HK2 := Lib.hid (HK.out.grown nq osq); clear HK lat lbt hct; have HK := HK2; clear HK2; generalize grow (World.drewN wr nq) osq = w2 at HK ⊢; clear nq osq eat ect pat bat rat pct bct rct
        go_wp2_with fail
        go_roundg (b - (k + 1) - 1)
        case measure => omega
        case rel => exact ⟨k + 1, by go_num, by omega, by omega, by omega, HK, HS2⟩
      | true =>
        have HF := Lib.hid (show Sort.partialInsertionSort (ltOf cf) d a b = (d, false) by
          unfold Sort.partialInsertionSort
          exact pi_short (ltOf cf) a b 0 (a + 1) d (by omega) (by rw [← HS.out, scanSorted_stop (ltOf cf) d b (k + 1) (.inr (by simpa using hL))]; omega) h50)
        have hne : (((k : Int) + 1) == (b : Int)) = false := beq_eq_false_iff_ne.2 (by omega)
        obtain ⟨it, hit⟩ : ∃ zq : Nat, zq = k + 1 := ⟨_, rfl⟩; obtain ⟨jt, hjt⟩ : ∃ zq : Nat, zq = k := ⟨_, rfl⟩; have eat : ((k : Int) + 1 : Int).toNat = it := (by omega); have pat : (0 : Int) ≤ (k : Int) + 1 := (by omega); have bat : ((k : Int) + 1 : Int) < (d0.size : Int) := (by omega); have rat : IntKind.i64.wrap ((k : Int) + 1) = (k : Int) + 1 := (by rw [IntKind.wrap_i64]; omega); have ect : ((k : Int) : Int).toNat = jt := (by omega); have pct : (0 : Int) ≤ (k : Int) := (by omega); have bct : ((k : Int) : Int) < (d0.size : Int) := (by omega); have rct : IntKind.i64.wrap ((k : Int)) = (k : Int) := (by rw [IntKind.wrap_i64]; omega); obtain ⟨xt, hxt⟩ : ∃ zx, zx = d[k + 1]! := ⟨_, rfl⟩; obtain ⟨yt, hyt⟩ : ∃ zx, zx = d[k]! := ⟨_, rfl⟩; have lat := HK.out.cl HR.out (by omega) (k + 1) (by omega); have lbt := HK.out.cl HR.out (by omega) (k) (by omega); rw [← hxt, ← hit] at lat; rw [← hyt, ← hjt] at lbt; have hct := fun n' os' => HK.out.cmpM HC.out (by omega) xt yt n' os'; have hdt : decide (cf xt yt < 0) = true := (by rw [hxt, hyt]; exact hL); clear hxt hyt hit hjt; generalize cf xt yt = cvt at hct hdt
        clear hL HS
        go_wp2_with fail; go_quiet_grown (first | (go_at_fn g; refine Calls.grown_of (hct _ _))); have HK2 := Lib.hid (HK.out.grown nq osq); clear HK lat lbt hct; have HK := HK2; clear HK2; generalize grow (World.drewN wr nq) osq = w2 at HK ⊢; clear nq osq eat ect pat bat rat pct bct rct
        go_wp2_with fail
        go_ret
        rw [HF.out]
        exact ⟨rfl, HK.out⟩
    · have hltd : decide ((k : Int) + 1 < (b : Int)) = false := decide_eq_false (by omega)
      have hltn : ¬ ((k : Int) + 1 < (b : Int)) := by omega
      have HF := Lib.hid (show Sort.partialInsertionSort (ltOf cf) d a b = (d, true) by
          unfold Sort.partialInsertionSort
          exact pi_true (ltOf cf) a b 0 (a + 1) d (by omega) (by rw [← HS.out, scanSorted_stop (ltOf cf) d b (k + 1) (.inl hlt)]; omega))
      have heq : (((k : Int) + 1) == (b : Int)) = true := beq_iff_eq.2 (by omega)
      clear HS
      go_wp2_with fail; go_big_region_o; have HK2 := Lib.hid HK.out.drew; clear HK; have HK := HK2; clear HK2; generalize World.drew wr = w2 at HK ⊢
      go_wp2_with fail
      go_ret
      rw [HF.out]
      exact ⟨rfl, HK.out⟩
end
end Go.Proofs.YtlnnbkpcnhlfcaaDoor
