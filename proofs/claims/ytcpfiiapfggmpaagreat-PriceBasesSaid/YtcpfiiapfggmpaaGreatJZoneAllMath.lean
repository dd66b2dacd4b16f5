/- Joined texts: ZoneAllMath, ZoneSteps. -/
import Derived.Test.YtcpfiiapfggmpaaGreatZoneFind
import Derived.Test.YtcpfiiapfggmpaaGreatJZoneLeaf
import Derived.Deep.RegionHeld3
import Derived.Deep.DrawnRows
import Derived.BigRegion
/- The error of a list of zones, in plain words. -/
namespace Go.Proofs.YtcpfiiapfggmpaaGreat
def allE (l : List Zn) (i : Nat) : Int := ((l[i]?).map fun z => if checkE z ≠ 0 then checkE z else if (findZ (l.take i) z.name).isSome then 9 else 0).getD 0
def checkAllE (l : List Zn) : Int := if 1024 < l.length then 3 else firstE (allE l) l.length
theorem allE_bad {l : List Zn} {i : Nat} {z : Zn} (h : l[i]? = some z) (hb : checkE z ≠ 0) : allE l i = checkE z := by
  unfold allE; rw [h]; simp [hb]
theorem allE_two {l : List Zn} {i : Nat} {z : Zn} (h : l[i]? = some z) (hb : checkE z = 0) (hf : (findZ (l.take i) z.name).isSome = true) : allE l i = 9 := by
  unfold allE; rw [h]; simp [hb, hf]
theorem allE_ok {l : List Zn} {i : Nat} {z : Zn} (h : l[i]? = some z) (hb : checkE z = 0) (hf : (findZ (l.take i) z.name).isSome = false) : allE l i = 0 := by
  unfold allE; rw [h]; simp [hb, hf]
theorem checkAllE_big {l : List Zn} (h : 1024 < l.length) : checkAllE l = 3 := by unfold checkAllE; rw [if_pos h]
theorem checkAllE_at {l : List Zn} {k : Nat} (h : ¬ 1024 < l.length) (hz : ∀ j, j < k → allE l j = 0) (hk : k < l.length) (hne : allE l k ≠ 0) : checkAllE l = allE l k := by
  unfold checkAllE; rw [if_neg h, firstE_some hz hk hne]
theorem checkAllE_none {l : List Zn} (h : ¬ 1024 < l.length) (hz : ∀ j, j < l.length → allE l j = 0) : checkAllE l = 0 := by
  unfold checkAllE; rw [if_neg h, firstE_none hz]
end Go.Proofs.YtcpfiiapfggmpaaGreat
/- Steps: zone.steps and the reference's step, walked. -/
namespace Go.Proofs.YtcpfiiapfggmpaaGreat
open Go.RowKit Go.Lib

theorem stepE_at {ss : List Wn} {i : Nat} {x y z : Int} (h : ss[i]? = some (x, y, z)) : stepE ss i = stepX ss.length i (prevU ss i) (x, y, z) := by
  unfold stepE
  rw [h]
  rfl
theorem stepX_bad {n i : Nat} {pu x y z : Int} (h : ¬ ((1 ≤ y ∧ y ≤ 68719476736) ∧ (0 ≤ z ∧ z ≤ 2147483648))) : stepX n i pu (x, y, z) = 1 := by
  unfold stepX
  rw [if_pos (by simp only; omega)]
theorem stepX_last {n i : Nat} {pu x y z : Int} (h : (1 ≤ y ∧ y ≤ 68719476736) ∧ (0 ≤ z ∧ z ≤ 2147483648)) (hl : i + 1 = n) : stepX n i pu (x, y, z) = if x = 0 then 0 else 12 := by
  unfold stepX
  rw [if_neg (by simp only; omega), if_pos hl]
theorem stepX_out {n i : Nat} {pu x y z : Int} (h : (1 ≤ y ∧ y ≤ 68719476736) ∧ (0 ≤ z ∧ z ≤ 2147483648)) (hl : ¬ i + 1 = n) (hx : ¬ (1 ≤ x ∧ x ≤ 68719476736)) : stepX n i pu (x, y, z) = 12 := by
  unfold stepX
  rw [if_neg (by simp only; omega), if_neg hl, if_pos (by simp only; omega)]
theorem stepX_in {n i : Nat} {pu x y z : Int} (h : (1 ≤ y ∧ y ≤ 68719476736) ∧ (0 ≤ z ∧ z ≤ 2147483648)) (hl : ¬ i + 1 = n) (hx : 1 ≤ x ∧ x ≤ 68719476736) : stepX n i pu (x, y, z) = if 0 < i ∧ x ≤ pu then 15 else 0 := by
  unfold stepX
  rw [if_neg (by simp only; omega), if_neg hl, if_neg (by simp only; omega)]
theorem prevU_at {ss : List Wn} {i : Nat} {x y z : Int} (h : ss[i - 1]? = some (x, y, z)) : prevU ss i = x := by
  unfold prevU
  rw [h]
  rfl

set_option maxHeartbeats 2000000 in
theorem rstep_any {A : Option Addr} (c : Nat) {ss : List Wn} {i : Nat} {w : World} (h : Rd encW 3 w w.heap.size A ss) (hi : i < ss.length) (hl : ss.length ≤ 16) :
    Calls Tryz.prog 106 #[.slice A ss.length c, .int .i64 i] w fun e w' => e = .returned (.int .i64 (stepE ss i)) ∧ ∃ n, w' = w.drewN n := by
  have hp := fun h0 : i ≠ 0 => h.w3 (i := i - 1) (by omega)
  obtain ⟨b, off, x, y, z, rfl, hb, hx, c0, c1, c2⟩ := h.w3 hi
  have he := stepE_at hx
  generalize stepE ss i = r at he ⊢
  have hi1 : (0 : Int) ≤ (i : Int) := by omega
  have hi2 : (i : Int) < (ss.length : Int) := by omega
  clear h hx
  by_cases hu : (1 ≤ y ∧ y ≤ 68719476736) ∧ (0 ≤ z ∧ z ≤ 2147483648)
  · by_cases hla : i + 1 = ss.length
    · rw [stepX_last hu hla] at he
      obtain ⟨⟨u1, u2⟩, u3, u4⟩ := hu
      have hla' : ((i : Int) == (ss.length : Int) - 1) = true := by simp; omega
      by_cases hx0 : x = 0
      · rw [if_pos hx0] at he
        subst hx0 he
        clear hp hla
        go_enter Tryz.func106, Tryz.ntmps106
        go_wp2
        all_goals first | (go_ret; exact ⟨rfl, 0, rfl⟩) | (exfalso; first | omega | (rename_i hx; simp at hx; omega) | (rename_i hy hx; simp at hy; omega)) | skip
      · rw [if_neg hx0] at he
        subst he
        clear hp hla
        go_enter Tryz.func106, Tryz.ntmps106
        go_wp2
        all_goals first | (go_ret; exact ⟨rfl, 0, rfl⟩) | (exfalso; first | omega | (rename_i hx; simp at hx; omega) | (rename_i hy hx; simp at hy; omega)) | skip
    · have hla' : ((i : Int) == (ss.length : Int) - 1) = false := by simp; omega
      by_cases hxx : 1 ≤ x ∧ x ≤ 68719476736
      · rw [stepX_in hu hla hxx] at he
        obtain ⟨⟨u1, u2⟩, u3, u4⟩ := hu
        obtain ⟨x1, x2⟩ := hxx
        by_cases h0 : i = 0
        · subst h0
          rw [if_neg (by omega)] at he
          subst he
          clear hp hla
          simp at c0 c1 c2
          go_enter Tryz.func106, Tryz.ntmps106
          go_wp2_with fail
          go_quiet (fail)
          go_wp2
          all_goals first | (go_ret; exact ⟨rfl, _, rfl⟩) | (exfalso; first | omega | (rename_i hx; simp at hx; omega) | (rename_i hy hx; simp at hy; omega)) | skip
        · obtain ⟨b', off', x', y', z', hA, hb', hx', d0, d1, d2⟩ := hp h0
          injection hA with hA
          injection hA with hA1 hA2
          subst hA1 hA2
          rw [prevU_at hx'] at he
          have h1 : (0 : Int) < (i : Int) := by omega
          have h2 : (0 : Int) ≤ (i : Int) - 1 := by omega
          have h3 : (i : Int) - 1 < (ss.length : Int) := by omega
          have h4 : ((i : Int) - 1).toNat = i - 1 := by omega
          have h5 : IntKind.i64.wrap ((i : Int) - 1) = (i : Int) - 1 := IntWalk.i64_in _ (by omega)
          have h6 : decide ((0 : Int) < (i : Int)) = true := decide_eq_true h1
          have h8 : decide (0 < i) = true := decide_eq_true (by omega)
          have h7 : decide (x ≤ x') = decide (x ≤ x') := rfl
          clear hx' hp hla d1 d2 h7
          by_cases hle : x ≤ x'
          · rw [if_pos ⟨by omega, hle⟩] at he
            subst he
            go_enter Tryz.func106, Tryz.ntmps106
            go_wp2_with fail
            go_quiet (fail)
            go_wp2
            all_goals first | (go_ret; exact ⟨rfl, _, rfl⟩) | (exfalso; first | omega | (rename_i hx; simp at hx; omega) | (rename_i hy hx; simp at hy; omega)) | skip
          · rw [if_neg (by omega)] at he
            subst he
            go_enter Tryz.func106, Tryz.ntmps106
            go_wp2_with fail
            go_quiet (fail)
            go_wp2
            all_goals first | (go_ret; exact ⟨rfl, _, rfl⟩) | (exfalso; first | omega | (rename_i hx; simp at hx; omega) | (rename_i hy hx; simp at hy; omega)) | skip
      · rw [stepX_out hu hla hxx] at he
        subst he
        clear hp hla
        obtain ⟨⟨u1, u2⟩, u3, u4⟩ := hu
        go_enter Tryz.func106, Tryz.ntmps106
        go_wp2
        all_goals first | (go_ret; exact ⟨rfl, 0, rfl⟩) | (exfalso; first | omega | (rename_i hx; simp at hx; omega) | (rename_i hy hx; simp at hy; omega)) | skip
  · rw [stepX_bad hu] at he
    subst he
    clear hp
    go_enter Tryz.func106, Tryz.ntmps106
    go_wp2
    all_goals first | (go_ret; exact ⟨rfl, 0, rfl⟩) | (exfalso; first | omega | (rename_i hx; simp at hx; omega) | (rename_i hy hx; simp at hy; omega)) | skip
end Go.Proofs.YtcpfiiapfggmpaaGreat
