/- Joined texts: OStabSwap, OStabRot. -/
import Derived.Test.YtelchfijalkibaaGreatDoorJCapAdd
import Derived.Test.YtelchfijalkibaaGreatDoorProg
import Derived.Shelf.SlSortCmp.Kit1
import Derived.Deep.LoopGhost
import Derived.Lib.Hide
import Derived.Outline
/- slices' stable sort at a struct, walked over any program that holds its bodies: swapRange, rotate. -/

namespace Go.Proofs.YtelchfijalkibaaGreatDoor
open Go.RowKit Go.Lib Go.Sort Go.Shelf

/-- what is asked of the program -/
structure StF (P : Program) : Prop where
  mixed : P.follows .mixedOrders = true
  t0 : P.underlying 0 = some (TypeDesc.tuple #[])
  a0 : ∀ w, (isAgg 0).run P w = .ok false w
  z0 : ∀ w, (Go.sizeOf 0).run P w = .ok 1 w
  v0 : ∀ w, (zeroValue 0).run P w = .ok (Value.tuple #[]) w
  t3 : P.underlying 3 = some (TypeDesc.int IntKind.i64)
  a3 : ∀ w, (isAgg 3).run P w = .ok false w
  z3 : ∀ w, (Go.sizeOf 3).run P w = .ok 1 w
  v3 : ∀ w, (zeroValue 3).run P w = .ok (Value.int IntKind.i64 0) w
  t4 : P.underlying 4 = some (TypeDesc.bool)
  a4 : ∀ w, (isAgg 4).run P w = .ok false w
  z4 : ∀ w, (Go.sizeOf 4).run P w = .ok 1 w
  v4 : ∀ w, (zeroValue 4).run P w = .ok (Value.bool false) w
  t22 : P.underlying 33 = some (TypeDesc.slice 3)
  a22 : ∀ w, (isAgg 33).run P w = .ok false w
  z22 : ∀ w, (Go.sizeOf 33).run P w = .ok 1 w
  v22 : ∀ w, (zeroValue 33).run P w = .ok (Value.slice none 0 0) w
  t78 : P.underlying 111 = some (TypeDesc.func #[3, 3] #[3] false)
  a78 : ∀ w, (isAgg 111).run P w = .ok false w
  z78 : ∀ w, (Go.sizeOf 111).run P w = .ok 1 w
  v78 : ∀ w, (zeroValue 111).run P w = .ok (Value.nilFunc) w
  t96 : P.underlying 161 = some (TypeDesc.int IntKind.u64)
  a96 : ∀ w, (isAgg 161).run P w = .ok false w
  z96 : ∀ w, (Go.sizeOf 161).run P w = .ok 1 w
  v96 : ∀ w, (zeroValue 161).run P w = .ok (Value.int IntKind.u64 0) w
  aE : ∀ w, (isAgg 3).run P w = .ok false w
  zE : ∀ w, (Go.sizeOf 3).run P w = .ok 1 w
  fsw : P.funcs[103]? = some Tryz.f103
  fro : P.funcs[100]? = some Tryz.f100
  fsy : P.funcs[90]? = some Tryz.f90
  fst : P.funcs[60]? = some Tryz.f60
  fso : P.funcs[29]? = some Tryz.f29
section
variable {P : Program} {β : Type} [Inhabited β] {enc : β → Value} {w0 W : World} {blk off : Nat} {d0 d : Array β}

set_option maxHeartbeats 4000000 in
set_option maxRecDepth 1000000 in
theorem swapRange_any (S : StF P) (R : Row1 enc w0 blk off d0) (hs : d.size = d0.size) (hsz : d.size < 4611686018427387904) (cap a b n : Nat) (fv : Value) (hab : a + n ≤ b) (hb : b + n ≤ d.size) (hW : SW enc w0 blk off d W) :
    Calls P 103 #[.slice (some ⟨blk, off, none⟩) d.size cap, .int .i64 a, .int .i64 b, .int .i64 n, fv] W fun e w' =>
      e = .returned (.tuple #[]) ∧ ∃ d', Moved (raF a b n) d d' ∧ (∀ x y, x ≤ a → b + n ≤ y → y ≤ d.size → PermIn x y d d') ∧ SW enc w0 blk off d' w' := by
  have mixed := S.mixed; have t0 := S.t0; have a0 := S.a0; have z0 := S.z0; have v0 := S.v0; have t3 := S.t3; have a3 := S.a3; have z3 := S.z3; have v3 := S.v3; have t4 := S.t4; have a4 := S.a4; have z4 := S.z4; have v4 := S.v4; have t22 := S.t22; have a22 := S.a22; have z22 := S.z22; have v22 := S.v22; have t78 := S.t78; have a78 := S.a78; have z78 := S.z78; have v78 := S.v78; have t96 := S.t96; have a96 := S.a96; have z96 := S.z96; have v96 := S.v96; have aE := S.aE; have zE := S.zE; have u22 := run_underlying S.t22; have hst := R.hO.store P; have hcl0 := R.hO.cells; simp only [Value.cells] at hcl0
  have F := S.fsw
  have HW := Lib.hid hW
  have HR := Lib.hid R
  clear hW R S
  go_enter F, Tryz.ntmps103
  go_wp2
  go_loopg [10] n (fun g1 vi wr => ∃ (i : Nat) (dk : Array β), vi = .int .i64 i ∧ i ≤ n ∧ n - i ≤ g1 ∧ Hid (Moved (raF a b i) d dk) ∧ Hid (∀ x y, x ≤ a → b + n ≤ y → y ≤ d.size → PermIn x y d dk) ∧ Hid (SW enc w0 blk off dk wr))
  case atStart => exact ⟨0, d, rfl, Nat.zero_le _, Nat.le_refl _, (Moved.refl d).congr (fun t _ => (raF_zero a b t).symm), fun x y _ _ _ => permIn_refl _ _ _, HW.out⟩
  case round =>
    obtain ⟨i, dk, rfl, hi, hg1, HM, HP, HK⟩ := hrel
    by_cases hlt : i < n
    · have hsk : dk.size = d0.size := HM.out.1.trans hs
      have i1 : (0 : Int) ≤ (a : Int) + (i : Int) := by omega
      have i2 : (a : Int) + (i : Int) < (d.size : Int) := by omega
      have i3 : ((a : Int) + (i : Int)).toNat = a + i := by omega
      have j1 : (0 : Int) ≤ (b : Int) + (i : Int) := by omega
      have j2 : (b : Int) + (i : Int) < (d.size : Int) := by omega
      have j3 : ((b : Int) + (i : Int)).toNat = b + i := by omega
      have hsd := HM.out.1
      have l1 := HK.out.c1 HR.out hsk (a + i) (by omega); have l2 := HK.out.c1 HR.out hsk (b + i) (by omega); have fz1 := HK.out.f1 HR.out hsk (a + i) (by omega); have fz2 := HK.out.f1 HR.out hsk (b + i) (by omega); obtain ⟨u3, l3⟩ := HK.out.c2 HR.out hsk (a + i) (b + i) (by omega) (by omega) (enc dk[b + i]!); have X := Lib.hid (HK.out.swapped HR.out (a + i) (b + i) (by omega) (by omega)); obtain ⟨cI, hI⟩ : ∃ c, c = dk[a + i]! := ⟨_, rfl⟩; obtain ⟨cJ, hJ⟩ : ∃ c, c = dk[b + i]! := ⟨_, rfl⟩; rw [← hI] at l1 X; rw [← hJ] at l2 l3 X; clear hI hJ
      have M2 := Lib.hid (HM.out.ra hlt hab hb)
      have P2 : Hid (∀ x y, x ≤ a → b + n ≤ y → y ≤ d.size → PermIn x y d (swp dk (a + i) (b + i))) := fun x y h1 h2 h3 => permIn_trans _ _ _ _ _ (HP.out x y h1 h2 h3) (swp_permIn dk x y _ _ (by omega) (by omega) (by omega) (by omega) (by omega))
      clear HM HP hsk hsd
      go_wp2_with fail
      go_big_region_o
      all_goals go_wp2
      go_roundg (n - (i + 1))
      case measure => omega
      case rel => exact ⟨i + 1, _, by go_num, by omega, Nat.le_refl _, M2, P2, X⟩
    · obtain rfl : i = n := by omega
      go_wp2
      go_end0
      exact ⟨rfl, dk, HM.out, HP.out, HK.out⟩
end
end Go.Proofs.YtelchfijalkibaaGreatDoor
/- slices' stable sort at a struct: rotate, walked. -/

namespace Go.Proofs.YtelchfijalkibaaGreatDoor
open Go.RowKit Go.Lib Go.Sort Go.Shelf

section
variable {P : Program} {β : Type} [Inhabited β] {enc : β → Value} {w0 W : World} {blk off : Nat} {d0 d : Array β}

set_option maxHeartbeats 4000000 in
set_option maxRecDepth 1000000 in
theorem rotate_any (S : StF P) (R : Row1 enc w0 blk off d0) (hs : d.size = d0.size) (hsz : d.size < 4611686018427387904) (cap s m e : Nat) (fv : Value) (hsm : s < m) (hme : m < e) (he : e ≤ d.size) (hW : SW enc w0 blk off d W) :
    Calls P 100 #[.slice (some ⟨blk, off, none⟩) d.size cap, .int .i64 s, .int .i64 m, .int .i64 e, fv] W fun en w' =>
      en = .returned (.tuple #[]) ∧ ∃ d', Moved (roF s m e) d d' ∧ (∀ x y, x ≤ s → e ≤ y → y ≤ d.size → PermIn x y d d') ∧ SW enc w0 blk off d' w' := by
  have mixed := S.mixed; have t0 := S.t0; have a0 := S.a0; have z0 := S.z0; have v0 := S.v0; have t3 := S.t3; have a3 := S.a3; have z3 := S.z3; have v3 := S.v3; have t4 := S.t4; have a4 := S.a4; have z4 := S.z4; have v4 := S.v4; have t22 := S.t22; have a22 := S.a22; have z22 := S.z22; have v22 := S.v22; have t78 := S.t78; have a78 := S.a78; have z78 := S.z78; have v78 := S.v78; have t96 := S.t96; have a96 := S.a96; have z96 := S.z96; have v96 := S.v96; have aE := S.aE; have zE := S.zE; have u22 := run_underlying S.t22; have hst := R.hO.store P; have hcl0 := R.hO.cells; simp only [Value.cells] at hcl0
  have F := S.fro
  have HW := Lib.hid hW
  have HC : Hid (∀ (dk : Array β) (X : World) (a b n : Nat), dk.size = d.size → a + n ≤ b → b + n ≤ d.size → SW enc w0 blk off dk X → Calls P 103 #[.slice (some ⟨blk, off, none⟩) d.size cap, .int .i64 a, .int .i64 b, .int .i64 n, fv] X fun e w' =>
      e = .returned (.tuple #[]) ∧ ∃ d', Moved (raF a b n) dk d' ∧ (∀ x y, x ≤ a → b + n ≤ y → y ≤ d.size → PermIn x y dk d') ∧ SW enc w0 blk off d' w') := by
    intro dk X a b n h1 h2 h3 h4
    have := swapRange_any S R (d := dk) (W := X) (h1.trans hs) (by omega) cap a b n fv h2 (by omega) h4
    rwa [h1] at this
  have eSW : ∀ args w, (callFunc 103 args).run P w = .ok (.enter 103 args) w := enters_of S.fsw (by kernel_rfl) rfl
  have HS := Lib.hid hs
  clear hW R S hs
  go_enter F, Tryz.ntmps100
  go_wp2
  go_loopg [10, 11] (e - s) (fun g1 vi vj wr => ∃ (i j : Nat) (dk : Array β), vi = .int .i64 i ∧ vj = .int .i64 j ∧ 0 < i ∧ 0 < j ∧ s + i ≤ m ∧ m + j ≤ e ∧ i + j ≤ g1 ∧ dk.size = d.size ∧ Hid (∀ d', Moved (roF (m - i) m (m + j)) dk d' → Moved (roF s m e) d d') ∧ Hid (∀ x y, x ≤ s → e ≤ y → y ≤ d.size → PermIn x y d dk) ∧ Hid (SW enc w0 blk off dk wr))
  case atStart => exact ⟨m - s, e - m, d, (by congr 1; omega), (by congr 1; omega), by omega, by omega, by omega, by omega, by omega, rfl, (fun d' h => by rwa [show m - (m - s) = s by omega, show m + (e - m) = e by omega] at h), fun x y _ _ _ => permIn_refl _ _ _, HW.out⟩
  case round =>
    obtain ⟨i, j, dk, rfl, rfl, hi, hj, hi2, hj2, hg1, hsk, HT, HP, HK⟩ := hrel
    by_cases hne : i = j
    · subst hne
      have CQ := Lib.hid (HC.out dk wr (m - i) m i hsk (by omega) (by omega) HK.out)
      have hie : (m : Int) - (i : Int) = ((m - i : Nat) : Int) := by omega
      have HIE := Lib.hid hie
      clear hie
      go_wp2_with (go_at_fn 103; rw [HIE.out]; refine CQ.out.mono ?_; rintro en w' ⟨rfl, d', hM, hP, hK⟩)
      have HM' := Lib.hid (HT.out d' (hM.congr fun t _ => roF_even (by omega)))
      have HP' : Hid (∀ x y, x ≤ s → e ≤ y → y ≤ d.size → PermIn x y d d') := fun x y h1 h2 h3 => permIn_trans _ _ _ _ _ (HP.out x y h1 h2 h3) (hP x y (by omega) (by omega) h3)
      have HK' := Lib.hid hK
      clear hM hP hK
      go_end0
      exact ⟨rfl, d', HM'.out, HP'.out, HK'.out⟩
    · have hnb : ((i : Int) == (j : Int)) = false := by simp; omega
      have hnb2 : ((i : Int) != (j : Int)) = true := by simp; omega
      by_cases hij : j < i
      · have hijz : (j : Int) < (i : Int) := by omega
        have CQ := Lib.hid (HC.out dk wr (m - i) m j hsk (by omega) (by omega) HK.out)
        have HIE := Lib.hid (show (m : Int) - (i : Int) = ((m - i : Nat) : Int) by omega)
        have HI2 := Lib.hid (show (i : Int) - (j : Int) = ((i - j : Nat) : Int) by omega)
        clear hne
        go_wp2_with (go_at_fn 103; rw [HIE.out]; refine CQ.out.mono ?_; rintro en w' ⟨rfl, d', hM, hP, hK⟩)
        have HS' := hM.1
        have HT' : Hid (∀ d'', Moved (roF (m - (i - j)) m (m + j)) d' d'' → Moved (roF s m e) d d'') := fun d'' h => HT.out d'' ((hM.trans h fun t ht => roF_lt (by omega) (by omega) (by omega) ht).congr fun t _ => roF_big hij (by omega))
        have HP' : Hid (∀ x y, x ≤ s → e ≤ y → y ≤ d.size → PermIn x y d d') := fun x y h1 h2 h3 => permIn_trans _ _ _ _ _ (HP.out x y h1 h2 h3) (hP x y (by omega) (by omega) h3)
        have HK' := Lib.hid hK
        have HSZ := Lib.hid (HS'.trans hsk)
        clear hM hP hK HS'
        go_roundg (i - j + j)
        case measure => omega
        case rel => exact ⟨i - j, j, d', (by rw [HI2.out]), rfl, by omega, hj, by omega, hj2, Nat.le_refl _, HSZ.out, HT'.out, HP'.out, HK'.out⟩
      · have hijz : ¬ (j : Int) < (i : Int) := by omega
        have hlt : i < j := by omega
        have CQ := Lib.hid (HC.out dk wr (m - i) (m + j - i) i hsk (by omega) (by omega) HK.out)
        have HIE := Lib.hid (show (m : Int) - (i : Int) = ((m - i : Nat) : Int) by omega)
        have HI3 := Lib.hid (show (m : Int) + (j : Int) - (i : Int) = ((m + j - i : Nat) : Int) by omega)
        have HI2 := Lib.hid (show (j : Int) - (i : Int) = ((j - i : Nat) : Int) by omega)
        clear hne
        go_wp2_with (go_at_fn 103; rw [HIE.out, HI3.out]; refine CQ.out.mono ?_; rintro en w' ⟨rfl, d', hM, hP, hK⟩)
        have HS' := hM.1
        have HT' : Hid (∀ d'', Moved (roF (m - i) m (m + (j - i))) d' d'' → Moved (roF s m e) d d'') := fun d'' h => HT.out d'' ((hM.trans h fun t ht => roF_lt (by omega) (by omega) (by omega) ht).congr fun t _ => roF_small hlt (by omega))
        have HP' : Hid (∀ x y, x ≤ s → e ≤ y → y ≤ d.size → PermIn x y d d') := fun x y h1 h2 h3 => permIn_trans _ _ _ _ _ (HP.out x y h1 h2 h3) (hP x y (by omega) (by omega) h3)
        have HK' := Lib.hid hK
        have HSZ := Lib.hid (HS'.trans hsk)
        clear hM hP hK HS'
        go_roundg (i + (j - i))
        case measure => omega
        case rel => exact ⟨i, j - i, d', rfl, (by rw [HI2.out]), hi, by omega, hi2, by omega, Nat.le_refl _, HSZ.out, HT'.out, HP'.out, HK'.out⟩
end
end Go.Proofs.YtelchfijalkibaaGreatDoor
