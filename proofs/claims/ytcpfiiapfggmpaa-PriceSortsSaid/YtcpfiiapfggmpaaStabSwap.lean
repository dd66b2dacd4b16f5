/- slices' stable sort at a struct, walked over any program that holds its bodies: swapRange, rotate. -/
import Derived.Test.YtcpfiiapfggmpaaStabMerge
import Derived.Test.YtcpfiiapfggmpaaProg
import Derived.Shelf.SlSortCmp.KitK
import Derived.Deep.LoopGhost
import Derived.Lib.Hide
import Derived.Outline

namespace Go.Proofs.Ytcpfiiapfggmpaa
open Go.RowKit Go.Lib Go.Sort Go.Shelf

/-- what is asked of the program -/
structure StF (P : Program) (k : Nat) : Prop where
  mixed : P.follows .mixedOrders = true
  t0 : P.underlying 0 = some (TypeDesc.tuple #[])
  a0 : ∀ w, (isAgg 0).run P w = .ok false w
  z0 : ∀ w, (Go.sizeOf 0).run P w = .ok 1 w
  v0 : ∀ w, (zeroValue 0).run P w = .ok (Value.tuple #[]) w
  t3 : P.underlying 3 = some (TypeDesc.int IntKind.i64)
  a3 : ∀ w, (isAgg 3).run P w = .ok false w
  z3 : ∀ w, (Go.sizeOf 3).run P w = .ok 1 w
  v3 : ∀ w, (zeroValue 3).run P w = .ok (Value.int IntKind.i64 0) w
  t4 : P.underlying 4 = some (TypeDesc.bool)
  a4 : ∀ w, (isAgg 4).run P w = .ok false w
  z4 : ∀ w, (Go.sizeOf 4).run P w = .ok 1 w
  v4 : ∀ w, (zeroValue 4).run P w = .ok (Value.bool false) w
  t22 : P.underlying 30 = some (TypeDesc.slice 24)
  a22 : ∀ w, (isAgg 30).run P w = .ok false w
  z22 : ∀ w, (Go.sizeOf 30).run P w = .ok 1 w
  v22 : ∀ w, (zeroValue 30).run P w = .ok (Value.slice none 0 0) w
  t78 : P.underlying 98 = some (TypeDesc.func #[24, 24] #[3] false)
  a78 : ∀ w, (isAgg 98).run P w = .ok false w
  z78 : ∀ w, (Go.sizeOf 98).run P w = .ok 1 w
  v78 : ∀ w, (zeroValue 98).run P w = .ok (Value.nilFunc) w
  t96 : P.underlying 136 = some (TypeDesc.int IntKind.u64)
  a96 : ∀ w, (isAgg 136).run P w = .ok false w
  z96 : ∀ w, (Go.sizeOf 136).run P w = .ok 1 w
  v96 : ∀ w, (zeroValue 136).run P w = .ok (Value.int IntKind.u64 0) w
  aE : ∀ w, (isAgg 24).run P w = .ok true w
  zE : ∀ w, (Go.sizeOf 24).run P w = .ok k w
  fsw : P.funcs[75]? = some Try.f75
  fro : P.funcs[59]? = some Try.f59
  fsy : P.funcs[46]? = some Try.f46
  fst : P.funcs[35]? = some Try.f35
  fso : P.funcs[23]? = some Try.f23
section
variable {P : Program} {β : Type} [Inhabited β] {enc : β → List Value} {k : Nat} {w0 W : World} {blk off : Nat} {d0 d : Array β}

set_option maxHeartbeats 4000000 in
set_option maxRecDepth 1000000 in
theorem swapRange_any (S : StF P k) (R : RowK enc k w0 blk off d0) (hs : d.size = d0.size) (hsz : d.size < 4611686018427387904) (cap a b n : Nat) (fv : Value) (hab : a + n ≤ b) (hb : b + n ≤ d.size) (hW : SWK enc k w0 blk off d W) :
    Calls P 75 #[.slice (some ⟨blk, off, none⟩) d.size cap, .int .i64 a, .int .i64 b, .int .i64 n, fv] W fun e w' =>
      e = .returned (.tuple #[]) ∧ ∃ d', Moved (raF a b n) d d' ∧ (∀ x y, x ≤ a → b + n ≤ y → y ≤ d.size → PermIn x y d d') ∧ SWK enc k w0 blk off d' w' := by
  have mixed := S.mixed; have t0 := S.t0; have a0 := S.a0; have z0 := S.z0; have v0 := S.v0; have t3 := S.t3; have a3 := S.a3; have z3 := S.z3; have v3 := S.v3; have t4 := S.t4; have a4 := S.a4; have z4 := S.z4; have v4 := S.v4; have t22 := S.t22; have a22 := S.a22; have z22 := S.z22; have v22 := S.v22; have t78 := S.t78; have a78 := S.a78; have z78 := S.z78; have v78 := S.v78; have t96 := S.t96; have a96 := S.a96; have z96 := S.z96; have v96 := S.v96; have aE := S.aE; have zE := S.zE; have u22 := run_underlying S.t22
  have F := S.fsw
  have HW := Lib.hid hW
  have HR := Lib.hid R
  clear hW R S
  go_enter F, Try.ntmps75
  go_wp2
  go_loopg [10] n (fun g1 vi wr => ∃ (i : Nat) (dk : Array β), vi = .int .i64 i ∧ i ≤ n ∧ n - i ≤ g1 ∧ Hid (Moved (raF a b i) d dk) ∧ Hid (∀ x y, x ≤ a → b + n ≤ y → y ≤ d.size → PermIn x y d dk) ∧ Hid (SWK enc k w0 blk off dk wr))
  case atStart => exact ⟨0, d, rfl, Nat.zero_le _, Nat.le_refl _, (Moved.refl d).congr (fun t _ => (raF_zero a b t).symm), fun x y _ _ _ => permIn_refl _ _ _, HW.out⟩
  case round =>
    obtain ⟨i, dk, rfl, hi, hg1, HM, HP, HK⟩ := hrel
    by_cases hlt : i < n
    · have hsk : dk.size = d0.size := HM.out.1.trans hs
      have i1 : (0 : Int) ≤ (a : Int) + (i : Int) := by omega
      have i2 : (a : Int) + (i : Int) < (d.size : Int) := by omega
      have i3 : ((a : Int) + (i : Int)).toNat = a + i := by omega
      have j1 : (0 : Int) ≤ (b : Int) + (i : Int) := by omega
      have j2 : (b : Int) + (i : Int) < (d.size : Int) := by omega
      have j3 : ((b : Int) + (i : Int)).toNat = b + i := by omega
      have hsd := HM.out.1
      have l1 := HK.out.ld1 HR.out hsk P (a + i) (by omega)
      have l2 := HK.out.ld1 HR.out hsk P (b + i) (by omega)
      have s1 := HK.out.st1 HR.out hsk P (a + i) (by omega) dk[b + i]!
      have s2 := HK.out.st2 HR.out hsk P (a + i) (b + i) (by omega) (by omega) dk[b + i]! dk[a + i]!
      have X := Lib.hid (HK.out.swapped HR.out (a + i) (b + i) (by omega) (by omega))
      have M2 := Lib.hid (HM.out.ra hlt hab hb)
      have P2 : Hid (∀ x y, x ≤ a → b + n ≤ y → y ≤ d.size → PermIn x y d (swp dk (a + i) (b + i))) := fun x y h1 h2 h3 => permIn_trans _ _ _ _ _ (HP.out x y h1 h2 h3) (swp_permIn dk x y _ _ (by omega) (by omega) (by omega) (by omega) (by omega))
      have hcI : (enc dk[a + i]!).length = k := HR.out.hk _
      have hcJ : (enc dk[b + i]!).length = k := HR.out.hk _
      obtain ⟨cI, hI⟩ : ∃ c, c = enc dk[a + i]! := ⟨_, rfl⟩
      obtain ⟨cJ, hJ⟩ : ∃ c, c = enc dk[b + i]! := ⟨_, rfl⟩
      rw [← hI] at l1 s2 hcI X
      rw [← hJ] at l2 s1 s2 hcJ X
      clear hI hJ HM HP hsk hsd
      go_wp2_with fail
      go_big_region_o
      all_goals go_wp2
      go_roundg (n - (i + 1))
      case measure => omega
      case rel => exact ⟨i + 1, _, by go_num, by omega, Nat.le_refl _, M2, P2, X⟩
    · obtain rfl : i = n := by omega
      go_wp2
      go_end0
      exact ⟨rfl, dk, HM.out, HP.out, HK.out⟩
end
end Go.Proofs.Ytcpfiiapfggmpaa
