/- Joined texts: OStabSym, OStabSymR. -/
import Derived.Test.YtelchfijalkibaaGreatDoorJOStabSwap
/- slices' stable sort at a struct: symMerge, walked. -/

namespace Go.Proofs.YtelchfijalkibaaGreatDoor
open Go.RowKit Go.Lib Go.Sort Go.Shelf

section
variable {P : Program} {α : Type} [Inhabited α] {enc : α × Nat → Value} {w0 : World} {blk off : Nat} {d0 : Array (α × Nat)}

def tagC (cf : α → α → Int) (x y : α × Nat) : Int := cf x.1 y.1
def MergeR (enc : α × Nat → Value) (w0 : World) (blk off : Nat) (lt : α → α → Bool) (a b : Nat) (d : Array (α × Nat)) (e : Ending) (w' : World) : Prop :=
  e = .returned (.tuple #[]) ∧ ∃ d', PermIn a b d d' ∧ Srt lt a b d' ∧ SW enc w0 blk off d' w'

set_option maxHeartbeats 8000000 in
set_option maxRecDepth 1000000 in
theorem symLeft_any (S : StF P) (R : Row1 enc w0 blk off d0) (hsz : d0.size < 4611686018427387904) (cap g : Nat) (cb : Array Value) (cf : α → α → Int) (hC : CmpLays1 P g cb enc (tagC cf) blk off d0.size w0)
    (eg : ∀ args w, (callFunc g args).run P w = .ok (.enter g args) w) (hS : SWO (ltOf cf)) (a m b : Nat) (d : Array (α × Nat)) (W : World) (ham : m = a + 1) (hmb : m < b) (hb : b ≤ d.size) (hs : d.size = d0.size)
    (hr : Srt (ltOf cf) m b d) (hc : Crs a m b d) (hW : SW enc w0 blk off d W) :
    Calls P 90 #[.slice (some ⟨blk, off, none⟩) d0.size cap, .int .i64 a, .int .i64 m, .int .i64 b, .func (.func g) #[] cb] W (MergeR enc w0 blk off (ltOf cf) a b d) := by
  have mixed := S.mixed; have t0 := S.t0; have a0 := S.a0; have z0 := S.z0; have v0 := S.v0; have t3 := S.t3; have a3 := S.a3; have z3 := S.z3; have v3 := S.v3; have t4 := S.t4; have a4 := S.a4; have z4 := S.z4; have v4 := S.v4; have t22 := S.t22; have a22 := S.a22; have z22 := S.z22; have v22 := S.v22; have t78 := S.t78; have a78 := S.a78; have z78 := S.z78; have v78 := S.v78; have t96 := S.t96; have a96 := S.a96; have z96 := S.z96; have v96 := S.v96; have aE := S.aE; have zE := S.zE; have u22 := run_underlying S.t22; have hst := R.hO.store P; have hcl0 := R.hO.cells; simp only [Value.cells] at hcl0
  have F := S.fsy
  have HFin : Hid (∀ (i : Nat) (d' : Array (α × Nat)) (w' : World), m ≤ i → i ≤ b → (i = m ∨ fstB (ltOf cf) d[i - 1]! d[a]! = true) → (i = b ∨ fstB (ltOf cf) d[i]! d[a]! = false) → Moved (dnF a i) d d' → PermIn a b d d' → SW enc w0 blk off d' w' → MergeR enc w0 blk off (ltOf cf) a b d (.returned (.tuple #[])) w') :=
    fun i d' w' h1 h2 h3 h4 h5 h6 h7 => ⟨rfl, d', h6, merge_left hS ham h1 h2 hb hr hc h3 h4 h5, h7⟩
  have HW := Lib.hid hW
  have HR := Lib.hid R
  have HC := Lib.hid hC
  have hmz : ((m : Int) - (a : Int) == 1) = true := by simp; omega
  have hsd := hs
  have HSD := Lib.hid hs
  have hb0 : b ≤ d0.size := by omega
  have ham2 : a < m := by omega
  have HAM := Lib.hid ham
  clear hW R S hC hr hc ham hs
  generalize MergeR enc w0 blk off (ltOf cf) a b d = MR at *
  go_enter F, Tryz.ntmps90
  go_wp2_with fail
  have hstart : Hid ((m = m ∨ fstB (ltOf cf) d[m - 1]! d[a]! = true) ∧ (b = b ∨ fstB (ltOf cf) d[b]! d[a]! = false)) := ⟨.inl rfl, .inl rfl⟩
  go_loopg [10, 11] (b - m) (fun g1 vi vj wr => ∃ i j : Int, vi = .int .i64 i ∧ vj = .int .i64 j ∧ (m : Int) ≤ i ∧ i ≤ j ∧ j ≤ b ∧ j - i ≤ g1 ∧ Hid ((i.toNat = m ∨ fstB (ltOf cf) d[i.toNat - 1]! d[a]! = true) ∧ (j.toNat = b ∨ fstB (ltOf cf) d[j.toNat]! d[a]! = false)) ∧ Hid (SW enc w0 blk off d wr))
  case atStart => exact ⟨m, b, rfl, rfl, Int.le_refl _, by omega, Int.le_refl _, by omega, hstart, HW⟩
  case round =>
    obtain ⟨i, j, rfl, rfl, hi, hij, hj, hg1, HB, HK⟩ := hrel
    by_cases hlt : i < j
    · have m1 : i ≤ (i + j) / 2 := by omega
      have m2 : (i + j) / 2 < j := by omega
      have m0 : 0 ≤ (i + j) / 2 := by omega
      have s0 : 0 ≤ i + j := by omega
      have hH : ((i + j) / 2).toNat < d.size := by omega
      have ha : a < d.size := by omega
      have m3 : (i + j) / 2 < (d0.size : Int) := by omega
      have a3' : (a : Int) < (d0.size : Int) := by omega
      have a4' : (0 : Int) ≤ (a : Int) := by omega
      have lx := HK.out.cl HR.out hsd ((i + j) / 2).toNat hH; have ly := HK.out.cl HR.out hsd a ha; have GR := Lib.hid (fun n' os' => HK.out.grown n' os'); have hcg := fun n' os' => HK.out.cmp HC.out hsd d[((i + j) / 2).toNat]! d[a]! n' os'; obtain ⟨xh, hxh⟩ : ∃ x, d[((i + j) / 2).toNat]! = x := ⟨_, rfl⟩; obtain ⟨xa, hxa⟩ : ∃ x, d[a]! = x := ⟨_, rfl⟩; rw [hxh] at lx hcg; rw [hxa] at ly hcg; have HXH := Lib.hid hxh; have HXA := Lib.hid hxa; clear hxh hxa
      by_cases hlv : tagC cf xh xa < 0
      · have HB2 : Hid ((((i + j) / 2 + 1).toNat = m ∨ fstB (ltOf cf) d[((i + j) / 2 + 1).toNat - 1]! d[a]! = true) ∧ (j.toNat = b ∨ fstB (ltOf cf) d[j.toNat]! d[a]! = false)) := ⟨.inr (by rw [show ((i + j) / 2 + 1).toNat - 1 = ((i + j) / 2).toNat by omega, HXH.out, HXA.out]; exact decide_eq_true hlv), HB.out.2⟩
        have HM := Lib.hid (show (i + j) / 2 + 1 ≤ j ∧ (m : Int) ≤ (i + j) / 2 + 1 by omega)
        generalize tagC cf xh xa = tc at *
        go_wp2_with fail
        go_quiet_grown (first | (go_at_fn g; refine Calls.grown_of (hcg _ _)))
        go_wp2
        go_roundg (j - ((i + j) / 2 + 1)).toNat
        case measure => omega
        case rel => exact ⟨(i + j) / 2 + 1, j, rfl, rfl, HM.out.2, HM.out.1, hj, by omega, HB2, GR.out _ _⟩
      · have HB2 : Hid ((i.toNat = m ∨ fstB (ltOf cf) d[i.toNat - 1]! d[a]! = true) ∧ (((i + j) / 2).toNat = b ∨ fstB (ltOf cf) d[((i + j) / 2).toNat]! d[a]! = false)) := ⟨HB.out.1, .inr (by rw [HXH.out, HXA.out]; exact decide_eq_false hlv)⟩
        have HM := Lib.hid (show (i + j) / 2 ≤ b ∧ (m : Int) ≤ (i + j) / 2 by omega)
        generalize tagC cf xh xa = tc at *
        go_wp2_with fail
        go_quiet_grown (first | (go_at_fn g; refine Calls.grown_of (hcg _ _)))
        go_wp2
        go_roundg ((i + j) / 2 - i).toNat
        case measure => omega
        case rel => exact ⟨i, (i + j) / 2, rfl, rfl, hi, m1, HM.out.1, by omega, HB2, GR.out _ _⟩
    · obtain rfl : i = j := by omega
      obtain ⟨q, rfl⟩ : ∃ q : Nat, i = q := ⟨i.toNat, by omega⟩
      rw [Int.toNat_natCast] at HB
      have hq1 : m ≤ q := by omega
      have hq2 : q ≤ b := by omega
      have HF := Lib.hid (fun d' w' => HFin.out q d' w' hq1 hq2 HB.out.1 HB.out.2)
      clear HB HFin hstart
      go_wp2_with fail
      go_loopg [13] (q - a) (fun g1 vi wr => ∃ (i : Nat) (dk : Array (α × Nat)), vi = .int .i64 i ∧ a ≤ i ∧ i + 1 ≤ q ∧ q - i ≤ g1 + 1 ∧ Hid (Moved (dnF a (i + 1)) d dk) ∧ Hid (PermIn a b d dk) ∧ Hid (SW enc w0 blk off dk wr))
      case atStart => exact ⟨a, d, rfl, Nat.le_refl _, by omega, by omega, (Moved.refl d).congr (fun t _ => dnF_start.symm), permIn_refl _ _ _, HK⟩
      case round =>
        obtain ⟨i, dk, rfl, hai, hiq, hg1, HM, HP, HK⟩ := hrel
        by_cases hlt : i + 1 < q
        · have hltz : (i : Int) < (q : Int) - 1 := by omega
          have hsk : dk.size = d0.size := HM.out.1.trans HSD.out
          have hskd := HM.out.1
          have i1 : (0 : Int) ≤ (i : Int) := by omega
          have i2 : (i : Int) < (d0.size : Int) := by omega
          have j1 : (0 : Int) ≤ (i : Int) + 1 := by omega
          have j2 : (i : Int) + 1 < (d0.size : Int) := by omega
          have j3 : ((i : Int) + 1).toNat = i + 1 := by omega
          have l1 := HK.out.c1 HR.out hsk (i) (by omega); have l2 := HK.out.c1 HR.out hsk (i + 1) (by omega); have fz1 := HK.out.f1 HR.out hsk (i) (by omega); have fz2 := HK.out.f1 HR.out hsk (i + 1) (by omega); obtain ⟨u3, l3⟩ := HK.out.c2 HR.out hsk (i) (i + 1) (by omega) (by omega) (enc dk[i + 1]!); have X := Lib.hid (HK.out.swapped HR.out (i) (i + 1) (by omega) (by omega)); obtain ⟨cI, hI⟩ : ∃ c, c = dk[i]! := ⟨_, rfl⟩; obtain ⟨cJ, hJ⟩ : ∃ c, c = dk[i + 1]! := ⟨_, rfl⟩; rw [← hI] at l1 X; rw [← hJ] at l2 l3 X; clear hI hJ
          have M2 := Lib.hid (HM.out.dn hai (by omega))
          have P2 := Lib.hid (permIn_trans _ _ _ _ _ HP.out (swp_permIn dk a b i (i + 1) (by omega) (by omega) (by omega) (by omega) (by omega)))
          clear HM HP hsk hskd
          go_wp2_with fail
          go_big_region_o
          all_goals go_wp2
          go_roundg (q - (i + 1) - 1)
          case measure => omega
          case rel => exact ⟨i + 1, _, by go_num, by omega, by omega, by omega, M2, P2, X⟩
        · have hltz : ¬ (i : Int) < (q : Int) - 1 := by omega
          obtain rfl : q = i + 1 := by omega
          have HX := Lib.hid (HF.out dk wr HM.out HP.out HK.out)
          clear HM HP HF
          go_wp2
          first | exact HX.out | (go_end0; exact HX.out)
end
end Go.Proofs.YtelchfijalkibaaGreatDoor
/- slices' stable sort at a struct: symMerge, its second case, walked. -/

namespace Go.Proofs.YtelchfijalkibaaGreatDoor
open Go.RowKit Go.Lib Go.Sort Go.Shelf

section
variable {P : Program} {α : Type} [Inhabited α] {enc : α × Nat → Value} {w0 : World} {blk off : Nat} {d0 : Array (α × Nat)}

set_option maxHeartbeats 8000000 in
set_option maxRecDepth 1000000 in
theorem symRight_any (S : StF P) (R : Row1 enc w0 blk off d0) (hsz : d0.size < 4611686018427387904) (cap g : Nat) (cb : Array Value) (cf : α → α → Int) (hC : CmpLays1 P g cb enc (tagC cf) blk off d0.size w0)
    (eg : ∀ args w, (callFunc g args).run P w = .ok (.enter g args) w) (hS : SWO (ltOf cf)) (a m b : Nat) (d : Array (α × Nat)) (W : World) (ham : a + 1 < m) (hmb : b = m + 1) (hb : b ≤ d.size) (hs : d.size = d0.size)
    (hl : Srt (ltOf cf) a m d) (hc : Crs a m b d) (hW : SW enc w0 blk off d W) :
    Calls P 90 #[.slice (some ⟨blk, off, none⟩) d0.size cap, .int .i64 a, .int .i64 m, .int .i64 b, .func (.func g) #[] cb] W (MergeR enc w0 blk off (ltOf cf) a b d) := by
  have mixed := S.mixed; have t0 := S.t0; have a0 := S.a0; have z0 := S.z0; have v0 := S.v0; have t3 := S.t3; have a3 := S.a3; have z3 := S.z3; have v3 := S.v3; have t4 := S.t4; have a4 := S.a4; have z4 := S.z4; have v4 := S.v4; have t22 := S.t22; have a22 := S.a22; have z22 := S.z22; have v22 := S.v22; have t78 := S.t78; have a78 := S.a78; have z78 := S.z78; have v78 := S.v78; have t96 := S.t96; have a96 := S.a96; have z96 := S.z96; have v96 := S.v96; have aE := S.aE; have zE := S.zE; have u22 := run_underlying S.t22; have hst := R.hO.store P; have hcl0 := R.hO.cells; simp only [Value.cells] at hcl0
  have F := S.fsy
  have HFin : Hid (∀ (i : Nat) (d' : Array (α × Nat)) (w' : World), a ≤ i → i ≤ m → (i = a ∨ fstB (ltOf cf) d[m]! d[i - 1]! = false) → (i = m ∨ fstB (ltOf cf) d[m]! d[i]! = true) → Moved (upF i m) d d' → PermIn a b d d' → SW enc w0 blk off d' w' → MergeR enc w0 blk off (ltOf cf) a b d (.returned (.tuple #[])) w') :=
    fun i d' w' h1 h2 h3 h4 h5 h6 h7 => ⟨rfl, d', h6, merge_right hS hmb h1 h2 hb hl hc h3 h4 h5, h7⟩
  have HW := Lib.hid hW
  have HR := Lib.hid R
  have HC := Lib.hid hC
  have hmz : ((m : Int) - (a : Int) == 1) = false := by simp; omega
  have hbz : ((b : Int) - (m : Int) == 1) = true := by simp; omega
  have hsd := hs
  have HSD := Lib.hid hs
  have hb0 : b ≤ d0.size := by omega
  have ham2 : a < m := by omega
  have hmb2 : m < b := by omega
  have HMB := Lib.hid hmb
  clear hmb
  clear hW R S hC hl hc hs
  generalize MergeR enc w0 blk off (ltOf cf) a b d = MR at *
  go_enter F, Tryz.ntmps90
  go_wp2_with fail
  have hstart : Hid ((a = a ∨ fstB (ltOf cf) d[m]! d[a - 1]! = false) ∧ (m = m ∨ fstB (ltOf cf) d[m]! d[m]! = true)) := ⟨.inl rfl, .inl rfl⟩
  go_loopg [14, 15] (m - a) (fun g1 vi vj wr => ∃ i j : Int, vi = .int .i64 i ∧ vj = .int .i64 j ∧ (a : Int) ≤ i ∧ i ≤ j ∧ j ≤ m ∧ j - i ≤ g1 ∧ Hid ((i.toNat = a ∨ fstB (ltOf cf) d[m]! d[i.toNat - 1]! = false) ∧ (j.toNat = m ∨ fstB (ltOf cf) d[m]! d[j.toNat]! = true)) ∧ Hid (SW enc w0 blk off d wr))
  case atStart => exact ⟨a, m, rfl, rfl, Int.le_refl _, by omega, Int.le_refl _, by omega, hstart, HW⟩
  case round =>
    obtain ⟨i, j, rfl, rfl, hi, hij, hj, hg1, HB, HK⟩ := hrel
    by_cases hlt : i < j
    · have m1 : i ≤ (i + j) / 2 := by omega
      have m2 : (i + j) / 2 < j := by omega
      have m0 : 0 ≤ (i + j) / 2 := by omega
      have s0 : 0 ≤ i + j := by omega
      have hH : ((i + j) / 2).toNat < d.size := by omega
      have hM : m < d.size := by have := HMB.out; omega
      have m3 : (i + j) / 2 < (d0.size : Int) := by omega
      have a3' : (m : Int) < (d0.size : Int) := by omega
      have a4' : (0 : Int) ≤ (m : Int) := by omega
      have lx := HK.out.cl HR.out hsd m hM; have ly := HK.out.cl HR.out hsd ((i + j) / 2).toNat hH; have GR := Lib.hid (fun n' os' => HK.out.grown n' os'); have hcg := fun n' os' => HK.out.cmp HC.out hsd d[m]! d[((i + j) / 2).toNat]! n' os'; obtain ⟨xh, hxh⟩ : ∃ x, d[m]! = x := ⟨_, rfl⟩; obtain ⟨xa, hxa⟩ : ∃ x, d[((i + j) / 2).toNat]! = x := ⟨_, rfl⟩; rw [hxh] at lx hcg; rw [hxa] at ly hcg; have HXH := Lib.hid hxh; have HXA := Lib.hid hxa; clear hxh hxa
      by_cases hlv : tagC cf xh xa < 0
      · have HB2 : Hid ((i.toNat = a ∨ fstB (ltOf cf) d[m]! d[i.toNat - 1]! = false) ∧ (((i + j) / 2).toNat = m ∨ fstB (ltOf cf) d[m]! d[((i + j) / 2).toNat]! = true)) := ⟨HB.out.1, .inr (by rw [HXH.out, HXA.out]; exact decide_eq_true hlv)⟩
        have HM := Lib.hid (show (i + j) / 2 ≤ m ∧ (a : Int) ≤ (i + j) / 2 by omega)
        have hdc : decide (tagC cf xh xa < 0) = true := decide_eq_true hlv
        generalize tagC cf xh xa = tc at *
        go_wp2_with fail
        go_quiet_grown (first | (go_at_fn g; refine Calls.grown_of (hcg _ _)))
        go_wp2
        go_roundg ((i + j) / 2 - i).toNat
        case measure => omega
        case rel => exact ⟨i, (i + j) / 2, rfl, rfl, hi, m1, HM.out.1, by omega, HB2, GR.out _ _⟩
      · have HB2 : Hid ((((i + j) / 2 + 1).toNat = a ∨ fstB (ltOf cf) d[m]! d[((i + j) / 2 + 1).toNat - 1]! = false) ∧ (j.toNat = m ∨ fstB (ltOf cf) d[m]! d[j.toNat]! = true)) := ⟨.inr (by rw [show ((i + j) / 2 + 1).toNat - 1 = ((i + j) / 2).toNat by omega, HXH.out, HXA.out]; exact decide_eq_false hlv), HB.out.2⟩
        have HM := Lib.hid (show (i + j) / 2 + 1 ≤ j ∧ (a : Int) ≤ (i + j) / 2 + 1 by omega)
        have hdc : decide (tagC cf xh xa < 0) = false := decide_eq_false hlv
        generalize tagC cf xh xa = tc at *
        go_wp2_with fail
        go_quiet_grown (first | (go_at_fn g; refine Calls.grown_of (hcg _ _)))
        go_wp2
        go_roundg (j - ((i + j) / 2 + 1)).toNat
        case measure => omega
        case rel => exact ⟨(i + j) / 2 + 1, j, rfl, rfl, HM.out.2, HM.out.1, hj, by omega, HB2, GR.out _ _⟩
    · obtain rfl : i = j := by omega
      obtain ⟨q, rfl⟩ : ∃ q : Nat, i = q := ⟨i.toNat, by omega⟩
      rw [Int.toNat_natCast] at HB
      have hq1 : a ≤ q := by omega
      have hq2 : q ≤ m := by omega
      have HF := Lib.hid (fun d' w' => HFin.out q d' w' hq1 hq2 HB.out.1 HB.out.2)
      clear HB HFin hstart
      go_wp2_with fail
      go_loopg [17] (m - q) (fun g1 vi wr => ∃ (i : Nat) (dk : Array (α × Nat)), vi = .int .i64 i ∧ q ≤ i ∧ i ≤ m ∧ i - q ≤ g1 ∧ Hid (Moved (upF i m) d dk) ∧ Hid (PermIn a b d dk) ∧ Hid (SW enc w0 blk off dk wr))
      case atStart => exact ⟨m, d, rfl, by omega, Nat.le_refl _, by omega, (Moved.refl d).congr (fun t _ => upF_start.symm), permIn_refl _ _ _, HK⟩
      case round =>
        obtain ⟨i, dk, rfl, hai, hiq, hg1, HM, HP, HK⟩ := hrel
        by_cases hlt : q < i
        · obtain ⟨i, rfl⟩ : ∃ i', i = i' + 1 := ⟨i - 1, by omega⟩
          have hltz : (q : Int) < (i : Int) + 1 := by omega
          have hsk : dk.size = d0.size := HM.out.1.trans HSD.out
          have hskd := HM.out.1
          have hmd : m < d.size := by have := HMB.out; omega
          have i1 : (0 : Int) ≤ (i : Int) := by omega
          have i2 : (i : Int) < (d0.size : Int) := by omega
          have j1 : (0 : Int) ≤ (i : Int) + 1 := by omega
          have j2 : (i : Int) + 1 < (d0.size : Int) := by omega
          have j3 : ((i : Int) + 1).toNat = i + 1 := by omega
          have hwp : IntKind.i64.wrap (i : Int) = (i : Int) := by rw [IntKind.wrap_i64]; omega
          have l1 := HK.out.c1 HR.out hsk (i + 1) (by omega); have l2 := HK.out.c1 HR.out hsk (i) (by omega); have fz1 := HK.out.f1 HR.out hsk (i + 1) (by omega); have fz2 := HK.out.f1 HR.out hsk (i) (by omega); obtain ⟨u3, l3⟩ := HK.out.c2 HR.out hsk (i + 1) (i) (by omega) (by omega) (enc dk[i]!); have X := Lib.hid (HK.out.swapped HR.out (i + 1) (i) (by omega) (by omega)); obtain ⟨cI, hI⟩ : ∃ c, c = dk[i + 1]! := ⟨_, rfl⟩; obtain ⟨cJ, hJ⟩ : ∃ c, c = dk[i]! := ⟨_, rfl⟩; rw [← hI] at l1 X; rw [← hJ] at l2 l3 X; clear hI hJ
          have M2 := Lib.hid (HM.out.up (by omega) (by omega))
          have P2 := Lib.hid (permIn_trans _ _ _ _ _ HP.out (swp_permIn dk a b (i + 1) i (by omega) (by omega) (by omega) (by omega) (by omega)))
          clear HM HP hsk hskd
          go_wp2_with fail
          go_big_region_o
          all_goals go_wp2
          go_roundg (i - q)
          case measure => omega
          case rel => exact ⟨i, _, (by first | rfl | go_num | (congr 1; omega)), by omega, by omega, by omega, M2, P2, X⟩
        · have hltz : ¬ (q : Int) < (i : Int) := by omega
          obtain rfl : q = i := by omega
          have HX := Lib.hid (HF.out dk wr HM.out HP.out HK.out)
          clear HM HP HF
          go_wp2
          first | exact HX.out | (go_end0; exact HX.out)
end
end Go.Proofs.YtelchfijalkibaaGreatDoor
