/- slices' stable sort at a struct: symMerge, the general case, walked. -/
import Derived.Test.YtelchfijalkibaaGreatDoorJOStabSym

namespace Go.Proofs.YtelchfijalkibaaGreatDoor
open Go.RowKit Go.Lib Go.Sort Go.Shelf

section
variable {P : Program} {α : Type} [Inhabited α] {enc : α × Nat → Value} {w0 : World} {blk off : Nat} {d0 : Array (α × Nat)}

theorem Crs.out {a m b x y : Nat} {d d' : Array (α × Nat)} (h : Crs a m b d) (hy : y ≤ a ∨ b ≤ x) (p : PermIn x y d d') : Crs a m b d' := by
  intro i j h1 h2 h3 h4
  rw [p.2.1 i (by omega), p.2.1 j (by omega)]
  exact h i j h1 h2 h3 h4

/-- what is shown of symMerge, at integers -/
def SymOk (P : Program) (enc : α × Nat → Value) (w0 : World) (blk off cap g : Nat) (cb : Array Value) (cf : α → α → Int) (n : Nat) (d0 : Array (α × Nat)) : Prop :=
  ∀ (A M B : Int) (d : Array (α × Nat)) (W : World), 0 ≤ A → A < M → M < B → B ≤ d0.size → d.size = d0.size → (B - A).toNat ≤ n →
    Srt (ltOf cf) A.toNat M.toNat d → Srt (ltOf cf) M.toNat B.toNat d → Crs A.toNat M.toNat B.toNat d → SW enc w0 blk off d W →
    Calls P 90 #[.slice (some ⟨blk, off, none⟩) d0.size cap, .int .i64 A, .int .i64 M, .int .i64 B, .func (.func g) #[] cb] W (MergeR enc w0 blk off (ltOf cf) A.toNat B.toNat d)

set_option maxHeartbeats 16000000 in
set_option maxRecDepth 1000000 in
theorem symBig_any (S : StF P) (R : Row1 enc w0 blk off d0) (hsz : d0.size < 4611686018427387904) (cap g : Nat) (cb : Array Value) (cf : α → α → Int) (hC : CmpLays1 P g cb enc (tagC cf) blk off d0.size w0)
    (eg : ∀ args w, (callFunc g args).run P w = .ok (.enter g args) w) (hS : SWO (ltOf cf)) (n : Nat) (ih : SymOk P enc w0 blk off cap g cb cf n d0)
    (A M B : Int) (d : Array (α × Nat)) (W : World) (hA0 : 0 ≤ A) (hAM : A + 1 < M) (hMB : M + 1 < B) (hB : B ≤ d0.size) (hs : d.size = d0.size) (hn : (B - A).toNat ≤ n + 1)
    (hl : Srt (ltOf cf) A.toNat M.toNat d) (hr : Srt (ltOf cf) M.toNat B.toNat d) (hc : Crs A.toNat M.toNat B.toNat d) (hW : SW enc w0 blk off d W) :
    Calls P 90 #[.slice (some ⟨blk, off, none⟩) d0.size cap, .int .i64 A, .int .i64 M, .int .i64 B, .func (.func g) #[] cb] W (MergeR enc w0 blk off (ltOf cf) A.toNat B.toNat d) := by
  have mixed := S.mixed; have t0 := S.t0; have a0 := S.a0; have z0 := S.z0; have v0 := S.v0; have t3 := S.t3; have a3 := S.a3; have z3 := S.z3; have v3 := S.v3; have t4 := S.t4; have a4 := S.a4; have z4 := S.z4; have v4 := S.v4; have t22 := S.t22; have a22 := S.a22; have z22 := S.z22; have v22 := S.v22; have t78 := S.t78; have a78 := S.a78; have z78 := S.z78; have v78 := S.v78; have t96 := S.t96; have a96 := S.a96; have z96 := S.z96; have v96 := S.v96; have aE := S.aE; have zE := S.zE; have u22 := run_underlying S.t22; have hst := R.hO.store P; have hcl0 := R.hO.cells; simp only [Value.cells] at hcl0
  have F := S.fsy
  have eSY : ∀ args w, (callFunc 90 args).run P w = .ok (.enter 90 args) w := enters_of S.fsy (by kernel_rfl) rfl
  have eRO : ∀ args w, (callFunc 100 args).run P w = .ok (.enter 100 args) w := enters_of S.fro (by kernel_rfl) rfl
  have HRO := Lib.hid (fun (dk : Array (α × Nat)) (X : World) (h1 : dk.size = d0.size) (s m e : Nat) (h2 : s < m) (h3 : m < e) (h4 : e ≤ dk.size) (h5 : SW enc w0 blk off dk X) => rotate_any S R h1 (by omega) cap s m e (.func (.func g) #[] cb) h2 h3 h4 h5)
  have HFin : Hid (∀ (d1 d3 : Array (α × Nat)) (w' : World), PermIn A.toNat B.toNat d d1 → (PermIn A.toNat B.toNat d1 d3 ∧ Srt (ltOf cf) A.toNat B.toNat d3) → SW enc w0 blk off d3 w' → MergeR enc w0 blk off (ltOf cf) A.toNat B.toNat d (.returned (.tuple #[])) w') :=
    fun d1 d3 w' h1 h2 h3 => ⟨rfl, d3, permIn_trans _ _ _ _ _ h1 h2.1, h2.2, h3⟩
  have HMid : Hid (∀ (s e mid : Nat) (d' : Array (α × Nat)), A.toNat ≤ s → s ≤ M.toNat → M.toNat ≤ e → e ≤ B.toNat → mid = s + (e - M.toNat) → (s = A.toNat ∨ e = B.toNat ∨ fstB (ltOf cf) d[e]! d[s - 1]! = false) → (s = M.toNat ∨ e = M.toNat ∨ fstB (ltOf cf) d[e - 1]! d[s]! = true) → Moved (roF s M.toNat e) d d' → Srt (ltOf cf) A.toNat s d' ∧ Srt (ltOf cf) s mid d' ∧ Crs A.toNat s mid d' ∧ Srt (ltOf cf) mid e d' ∧ Srt (ltOf cf) e B.toNat d' ∧ Crs mid e B.toNat d' ∧ ∀ i j, A.toNat ≤ i → i < mid → mid ≤ j → j < B.toNat → lexB (ltOf cf) d'[j]! d'[i]! = false) :=
    fun s e mid d' h1 h2 h3 h4 h5 h6 h7 h8 => merge_mid hS h1 h2 h3 h4 (by omega) h5 hl hr hc h6 h7 h8
  have HW := Lib.hid hW
  have HR := Lib.hid R
  have HC := Lib.hid hC
  have HI : Hid _ := ih
  have hmz : (M - A == 1) = false := by simp; omega
  have hbz : (B - M == 1) = false := by simp; omega
  have hsd := hs
  have HSD := Lib.hid hs
  clear hW R S hC hl hr hc hs ih
  generalize MergeR enc w0 blk off (ltOf cf) A.toNat B.toNat d = MR at *
  obtain ⟨mid, hmid⟩ : ∃ mid, (A + B) / 2 = mid := ⟨_, rfl⟩
  have hm1 : A < mid := by omega
  have hm2 : mid < B := by omega
  have hm3 : A + B - 1 ≤ 2 * mid := by omega
  have hm4 : 2 * mid ≤ A + B := by omega
  have hab0 : 0 ≤ A + B := by omega
  have hab1 : A + B < 9223372036854775807 := by omega
  obtain ⟨s0, r0, ⟨hsr, hss, hrr⟩ | ⟨hsr, hss, hrr⟩⟩ : ∃ s0 r0 : Int, (M > mid ∧ s0 = mid + M - B ∧ r0 = mid) ∨ (¬ M > mid ∧ s0 = A ∧ r0 = M) := by
    by_cases h : M > mid
    · exact ⟨_, _, .inl ⟨h, rfl, rfl⟩⟩
    · exact ⟨_, _, .inr ⟨h, rfl, rfl⟩⟩
  all_goals
    go_enter F, Tryz.ntmps90
    go_wp2_with fail
    go_loopg [20, 21] (r0 - s0).toNat (fun g1 vi vj wr => ∃ i j : Int, vi = .int .i64 i ∧ vj = .int .i64 j ∧ s0 ≤ i ∧ i ≤ j ∧ j ≤ r0 ∧ j - i ≤ g1 ∧ Hid ((i = s0 ∨ fstB (ltOf cf) d[(mid + M - i).toNat]! d[i.toNat - 1]! = false) ∧ (j = r0 ∨ fstB (ltOf cf) d[(mid + M - 1 - j).toNat]! d[j.toNat]! = true)) ∧ Hid (SW enc w0 blk off d wr))
    case atStart => exact ⟨s0, r0, (by subst hss; rfl), (by subst hrr; rfl), Int.le_refl _, by omega, Int.le_refl _, by omega, ⟨.inl rfl, .inl rfl⟩, HW⟩
    case round =>
      obtain ⟨i, j, rfl, rfl, hi, hij, hj, hg1, HB, HK⟩ := hrel
      have HSS := Lib.hid hss
      have HRR := Lib.hid hrr
      by_cases hlt : i < j
      · have m1 : i ≤ (i + j) / 2 := by omega
        have m2 : (i + j) / 2 < j := by omega
        have m0 : 0 ≤ (i + j) / 2 := by omega
        have t0' : 0 ≤ i + j := by omega
        obtain ⟨c, hc⟩ : ∃ c, (i + j) / 2 = c := ⟨_, rfl⟩
        obtain ⟨px, hx⟩ : ∃ px, mid + M - 1 - c = px := ⟨_, rfl⟩
        have x0 : 0 ≤ px := by omega
        have x1 : px < (d0.size : Int) := by omega
        have y0 : 0 ≤ c := by omega
        have y1 : c < (d0.size : Int) := by omega
        have hX : px.toNat < d.size := by omega
        have hY : c.toNat < d.size := by omega
        have hw1 : IntKind.i64.wrap (mid + M - 1 - c) = px := by rw [IntKind.wrap_i64]; omega
        have HXX := Lib.hid hx
        clear hx
        have z1 : i ≤ c ∧ c < j := by omega
        obtain ⟨z1, z2⟩ := z1
        have z3 : c + 1 ≤ r0 ∧ s0 ≤ c ∧ s0 ≤ c + 1 ∧ c ≤ r0 := by omega
        have Z3 := Lib.hid z3
        clear z3 m1 m2 m0 hss hrr
        have lx := HK.out.cl HR.out hsd px.toNat hX; have ly := HK.out.cl HR.out hsd c.toNat hY; have GR := Lib.hid (fun n' os' => HK.out.grown n' os'); have hcg := fun n' os' => HK.out.cmp HC.out hsd d[px.toNat]! d[c.toNat]! n' os'; obtain ⟨xh, hxh⟩ : ∃ x, d[px.toNat]! = x := ⟨_, rfl⟩; obtain ⟨xa, hxa⟩ : ∃ x, d[c.toNat]! = x := ⟨_, rfl⟩; rw [hxh] at lx hcg; rw [hxa] at ly hcg; have HXH := Lib.hid hxh; have HXA := Lib.hid hxa; clear hxh hxa
        by_cases hlv : tagC cf xh xa < 0
        · have HB2 : Hid ((i = s0 ∨ fstB (ltOf cf) d[(mid + M - i).toNat]! d[i.toNat - 1]! = false) ∧ (c = r0 ∨ fstB (ltOf cf) d[(mid + M - 1 - c).toNat]! d[c.toNat]! = true)) := ⟨HB.out.1, .inr (by rw [HXX.out, HXH.out, HXA.out]; exact decide_eq_true hlv)⟩
          have hdc : decide (tagC cf xh xa < 0) = true := decide_eq_true hlv
          generalize tagC cf xh xa = tc at *
          go_wp2_with fail
          go_quiet_grown (first | (go_at_fn g; refine Calls.grown_of (hcg _ _)))
          go_wp2
          go_roundg (c - i).toNat
          case measure => omega
          case rel => exact ⟨i, c, rfl, rfl, hi, z1, Z3.out.2.2.2, by omega, HB2, GR.out _ _⟩
        · have HB2 : Hid ((c + 1 = s0 ∨ fstB (ltOf cf) d[(mid + M - (c + 1)).toNat]! d[(c + 1).toNat - 1]! = false) ∧ (j = r0 ∨ fstB (ltOf cf) d[(mid + M - 1 - j).toNat]! d[j.toNat]! = true)) := ⟨.inr (by rw [show (mid + M - (c + 1)).toNat = px.toNat by have := HXX.out; omega, show (c + 1).toNat - 1 = c.toNat by omega, HXH.out, HXA.out]; exact decide_eq_false hlv), HB.out.2⟩
          have hdc : decide (tagC cf xh xa < 0) = false := decide_eq_false hlv
          generalize tagC cf xh xa = tc at *
          go_wp2_with fail
          go_quiet_grown (first | (go_at_fn g; refine Calls.grown_of (hcg _ _)))
          go_wp2
          go_roundg (j - (c + 1)).toNat
          case measure => omega
          case rel => exact ⟨c + 1, j, rfl, rfl, Z3.out.2.2.1, by omega, hj, by omega, HB2, GR.out _ _⟩
      · obtain rfl : i = j := by omega
        obtain ⟨E, hE⟩ : ∃ E, mid + M - i = E := ⟨_, rfl⟩
        have e1 : A ≤ i ∧ i ≤ M ∧ M ≤ E ∧ E ≤ B ∧ i ≤ mid ∧ mid ≤ E := by omega
        obtain ⟨e1, e2, e3, e4, e5, e6⟩ := e1
        have hHM := fun d1 => HMid.out i.toNat E.toNat mid.toNat d1 (by omega) (by omega) (by omega) (by omega) (by omega)
          (by rcases HB.out.1 with q | q; (first | (left; omega) | (right; left; omega)); (right; right; rwa [hE] at q))
          (by rcases HB.out.2 with q | q; (first | (left; omega) | (right; left; omega)); (right; right; rwa [show (mid + M - 1 - i).toNat = E.toNat - 1 by omega] at q))
        have HM := Lib.hid hHM
        clear hHM HB HMid hss hrr
        by_cases c12 : i < M ∧ M < E
        · obtain ⟨c1, c2⟩ := c12
          have hCR := HRO.out d wr HSD.out i.toNat M.toNat E.toNat (by omega) (by omega) (by rw [HSD.out]; omega) HK.out
          rw [show ((i.toNat : Nat) : Int) = i by omega, show ((M.toNat : Nat) : Int) = M by omega, show ((E.toNat : Nat) : Int) = E by omega, HSD.out] at hCR
          have CR := Lib.hid hCR
          clear hCR
          go_wp2_with fail
          refine CR.out.mono ?_
          rintro en w1 ⟨rfl, d1, hM, hP, hK⟩
          have H7 := Lib.hid (HM.out d1 hM)
          have HP1 := Lib.hid (hP A.toNat B.toNat (by omega) (by omega) (by omega))
          have HS1 := Lib.hid (hM.1.trans HSD.out)
          have HK1 := Lib.hid hK
          clear hM hP hK
          by_cases c3 : A < i ∧ i < mid; (focus (obtain ⟨c3, c4⟩ := c3; have CQ1 := Lib.hid (HI.out A i mid d1 _ hA0 c3 c4 (by omega) HS1.out (by omega) H7.out.1 H7.out.2.1 H7.out.2.2.1 HK1.out); go_wp2_with fail; refine CQ1.out.mono ?_; rintro en w2 ⟨rfl, d2, p2, s2, k2⟩; have HP2 := Lib.hid p2; have HS2 := Lib.hid s2; have HK2 := Lib.hid k2; clear p2 s2 k2; have h7 := H7.out; by_cases c5 : mid < E ∧ E < B; (focus (obtain ⟨c5, c6⟩ := c5; have CQ2 := Lib.hid (HI.out mid E B d2 _ (by omega) c5 c6 hB (HP2.out.1.trans HS1.out) (by omega) (h7.2.2.2.1.out (.inl (Nat.le_refl _)) HP2.out) (h7.2.2.2.2.1.out (.inl (by omega)) HP2.out) (Crs.out h7.2.2.2.2.2.1 (.inl (Nat.le_refl _)) HP2.out) HK2.out); have HJ2 := Lib.hid (fun d3 (p3 : PermIn mid.toNat B.toNat d2 d3) (s3 : Srt (ltOf cf) mid.toNat B.toNat d3) => merge_join hS (by omega) (by omega) (by have := HS1.out; omega) h7.2.2.2.2.2.2 HP2.out HS2.out p3 s3); clear h7; go_wp2_with fail; all_goals (refine CQ2.out.mono ?_; rintro en wz ⟨rfl, d3, p3, s3, k3⟩; have HX := Lib.hid (HFin.out d1 d3 wz HP1.out (HJ2.out d3 p3 s3) k3); clear p3 s3 k3; go_wp2; all_goals (first | exact HX.out | (go_end0; exact HX.out))))); (focus (have s3 : Srt (ltOf cf) mid.toNat B.toNat d2 := (by by_cases q : mid < E; (have e : B.toNat = E.toNat := (by omega); rw [e]; exact h7.2.2.2.1.out (.inl (Nat.le_refl _)) HP2.out); (have e : mid.toNat = E.toNat := (by omega); rw [e]; exact h7.2.2.2.2.1.out (.inl (by omega)) HP2.out)); have HX := Lib.hid (HFin.out d1 d2 _ HP1.out (merge_join hS (by omega) (by omega) (by have := HS1.out; omega) h7.2.2.2.2.2.2 HP2.out HS2.out (permIn_refl _ _ _) s3) HK2.out); clear h7 s3; by_cases q : mid < E; (focus (have q2 : ¬ E < B := (by omega); clear c5; go_wp2; all_goals (first | exact HX.out | (go_end0; exact HX.out)))); (focus (clear c5; go_wp2; all_goals (first | exact HX.out | (go_end0; exact HX.out)))))))); (focus (obtain ⟨d2, hd2⟩ : ∃ d2, d2 = d1 := ⟨_, rfl⟩; have HP2 : Hid (PermIn A.toNat mid.toNat d1 d2) := (by rw [hd2]; exact permIn_refl _ _ _); have HS2 : Hid (Srt (ltOf cf) A.toNat mid.toNat d2) := (by rw [hd2]; by_cases q : A < i; (have e : mid.toNat = i.toNat := (by omega); rw [e]; exact H7.out.1); (have e : A.toNat = i.toNat := (by omega); rw [e]; exact H7.out.2.1)); have HK2 := Lib.hid HK1.out; rw [← hd2] at HK2; clear hd2; by_cases q : A < i; (focus (have q2 : ¬ i < mid := (by omega); clear c3; first | (exfalso; omega) | (have h7 := H7.out; by_cases c5 : mid < E ∧ E < B; (focus (obtain ⟨c5, c6⟩ := c5; have CQ2 := Lib.hid (HI.out mid E B d2 _ (by omega) c5 c6 hB (HP2.out.1.trans HS1.out) (by omega) (h7.2.2.2.1.out (.inl (Nat.le_refl _)) HP2.out) (h7.2.2.2.2.1.out (.inl (by omega)) HP2.out) (Crs.out h7.2.2.2.2.2.1 (.inl (Nat.le_refl _)) HP2.out) HK2.out); have HJ2 := Lib.hid (fun d3 (p3 : PermIn mid.toNat B.toNat d2 d3) (s3 : Srt (ltOf cf) mid.toNat B.toNat d3) => merge_join hS (by omega) (by omega) (by have := HS1.out; omega) h7.2.2.2.2.2.2 HP2.out HS2.out p3 s3); clear h7; go_wp2_with fail; all_goals (refine CQ2.out.mono ?_; rintro en wz ⟨rfl, d3, p3, s3, k3⟩; have HX := Lib.hid (HFin.out d1 d3 wz HP1.out (HJ2.out d3 p3 s3) k3); clear p3 s3 k3; go_wp2; all_goals (first | exact HX.out | (go_end0; exact HX.out))))); (focus (have s3 : Srt (ltOf cf) mid.toNat B.toNat d2 := (by by_cases q : mid < E; (have e : B.toNat = E.toNat := (by omega); rw [e]; exact h7.2.2.2.1.out (.inl (Nat.le_refl _)) HP2.out); (have e : mid.toNat = E.toNat := (by omega); rw [e]; exact h7.2.2.2.2.1.out (.inl (by omega)) HP2.out)); have HX := Lib.hid (HFin.out d1 d2 _ HP1.out (merge_join hS (by omega) (by omega) (by have := HS1.out; omega) h7.2.2.2.2.2.2 HP2.out HS2.out (permIn_refl _ _ _) s3) HK2.out); clear h7 s3; by_cases q : mid < E; (focus (have q2 : ¬ E < B := (by omega); clear c5; go_wp2; all_goals (first | exact HX.out | (go_end0; exact HX.out)))); (focus (clear c5; go_wp2; all_goals (first | exact HX.out | (go_end0; exact HX.out))))))))); (focus (clear c3; first | (exfalso; omega) | (have h7 := H7.out; by_cases c5 : mid < E ∧ E < B; (focus (obtain ⟨c5, c6⟩ := c5; have CQ2 := Lib.hid (HI.out mid E B d2 _ (by omega) c5 c6 hB (HP2.out.1.trans HS1.out) (by omega) (h7.2.2.2.1.out (.inl (Nat.le_refl _)) HP2.out) (h7.2.2.2.2.1.out (.inl (by omega)) HP2.out) (Crs.out h7.2.2.2.2.2.1 (.inl (Nat.le_refl _)) HP2.out) HK2.out); have HJ2 := Lib.hid (fun d3 (p3 : PermIn mid.toNat B.toNat d2 d3) (s3 : Srt (ltOf cf) mid.toNat B.toNat d3) => merge_join hS (by omega) (by omega) (by have := HS1.out; omega) h7.2.2.2.2.2.2 HP2.out HS2.out p3 s3); clear h7; go_wp2_with fail; all_goals (refine CQ2.out.mono ?_; rintro en wz ⟨rfl, d3, p3, s3, k3⟩; have HX := Lib.hid (HFin.out d1 d3 wz HP1.out (HJ2.out d3 p3 s3) k3); clear p3 s3 k3; go_wp2; all_goals (first | exact HX.out | (go_end0; exact HX.out))))); (focus (have s3 : Srt (ltOf cf) mid.toNat B.toNat d2 := (by by_cases q : mid < E; (have e : B.toNat = E.toNat := (by omega); rw [e]; exact h7.2.2.2.1.out (.inl (Nat.le_refl _)) HP2.out); (have e : mid.toNat = E.toNat := (by omega); rw [e]; exact h7.2.2.2.2.1.out (.inl (by omega)) HP2.out)); have HX := Lib.hid (HFin.out d1 d2 _ HP1.out (merge_join hS (by omega) (by omega) (by have := HS1.out; omega) h7.2.2.2.2.2.2 HP2.out HS2.out (permIn_refl _ _ _) s3) HK2.out); clear h7 s3; by_cases q : mid < E; (focus (have q2 : ¬ E < B := (by omega); clear c5; go_wp2; all_goals (first | exact HX.out | (go_end0; exact HX.out)))); (focus (clear c5; go_wp2; all_goals (first | exact HX.out | (go_end0; exact HX.out)))))))))))
        · obtain ⟨d1, hd1⟩ : ∃ d1, d1 = d := ⟨_, rfl⟩
          have H7 := Lib.hid (HM.out d ((Moved.refl d).congr fun t _ => (roF_none (by omega) (by omega) (by omega)).symm))
          have HP1 : Hid (PermIn A.toNat B.toNat d d1) := by rw [hd1]; exact permIn_refl _ _ _
          have HS1 := Lib.hid HSD.out
          have HK1 := Lib.hid HK.out
          rw [← hd1] at H7 HK1 HS1
          clear hd1
          by_cases c1 : i < M
          · have c2 : ¬ M < E := by omega
            clear c12
            by_cases c3 : A < i ∧ i < mid; (focus (obtain ⟨c3, c4⟩ := c3; have CQ1 := Lib.hid (HI.out A i mid d1 _ hA0 c3 c4 (by omega) HS1.out (by omega) H7.out.1 H7.out.2.1 H7.out.2.2.1 HK1.out); go_wp2_with fail; refine CQ1.out.mono ?_; rintro en w2 ⟨rfl, d2, p2, s2, k2⟩; have HP2 := Lib.hid p2; have HS2 := Lib.hid s2; have HK2 := Lib.hid k2; clear p2 s2 k2; have h7 := H7.out; by_cases c5 : mid < E ∧ E < B; (focus (obtain ⟨c5, c6⟩ := c5; have CQ2 := Lib.hid (HI.out mid E B d2 _ (by omega) c5 c6 hB (HP2.out.1.trans HS1.out) (by omega) (h7.2.2.2.1.out (.inl (Nat.le_refl _)) HP2.out) (h7.2.2.2.2.1.out (.inl (by omega)) HP2.out) (Crs.out h7.2.2.2.2.2.1 (.inl (Nat.le_refl _)) HP2.out) HK2.out); have HJ2 := Lib.hid (fun d3 (p3 : PermIn mid.toNat B.toNat d2 d3) (s3 : Srt (ltOf cf) mid.toNat B.toNat d3) => merge_join hS (by omega) (by omega) (by have := HS1.out; omega) h7.2.2.2.2.2.2 HP2.out HS2.out p3 s3); clear h7; go_wp2_with fail; all_goals (refine CQ2.out.mono ?_; rintro en wz ⟨rfl, d3, p3, s3, k3⟩; have HX := Lib.hid (HFin.out d1 d3 wz HP1.out (HJ2.out d3 p3 s3) k3); clear p3 s3 k3; go_wp2; all_goals (first | exact HX.out | (go_end0; exact HX.out))))); (focus (have s3 : Srt (ltOf cf) mid.toNat B.toNat d2 := (by by_cases q : mid < E; (have e : B.toNat = E.toNat := (by omega); rw [e]; exact h7.2.2.2.1.out (.inl (Nat.le_refl _)) HP2.out); (have e : mid.toNat = E.toNat := (by omega); rw [e]; exact h7.2.2.2.2.1.out (.inl (by omega)) HP2.out)); have HX := Lib.hid (HFin.out d1 d2 _ HP1.out (merge_join hS (by omega) (by omega) (by have := HS1.out; omega) h7.2.2.2.2.2.2 HP2.out HS2.out (permIn_refl _ _ _) s3) HK2.out); clear h7 s3; by_cases q : mid < E; (focus (have q2 : ¬ E < B := (by omega); clear c5; go_wp2; all_goals (first | exact HX.out | (go_end0; exact HX.out)))); (focus (clear c5; go_wp2; all_goals (first | exact HX.out | (go_end0; exact HX.out)))))))); (focus (obtain ⟨d2, hd2⟩ : ∃ d2, d2 = d1 := ⟨_, rfl⟩; have HP2 : Hid (PermIn A.toNat mid.toNat d1 d2) := (by rw [hd2]; exact permIn_refl _ _ _); have HS2 : Hid (Srt (ltOf cf) A.toNat mid.toNat d2) := (by rw [hd2]; by_cases q : A < i; (have e : mid.toNat = i.toNat := (by omega); rw [e]; exact H7.out.1); (have e : A.toNat = i.toNat := (by omega); rw [e]; exact H7.out.2.1)); have HK2 := Lib.hid HK1.out; rw [← hd2] at HK2; clear hd2; by_cases q : A < i; (focus (have q2 : ¬ i < mid := (by omega); clear c3; first | (exfalso; omega) | (have h7 := H7.out; by_cases c5 : mid < E ∧ E < B; (focus (obtain ⟨c5, c6⟩ := c5; have CQ2 := Lib.hid (HI.out mid E B d2 _ (by omega) c5 c6 hB (HP2.out.1.trans HS1.out) (by omega) (h7.2.2.2.1.out (.inl (Nat.le_refl _)) HP2.out) (h7.2.2.2.2.1.out (.inl (by omega)) HP2.out) (Crs.out h7.2.2.2.2.2.1 (.inl (Nat.le_refl _)) HP2.out) HK2.out); have HJ2 := Lib.hid (fun d3 (p3 : PermIn mid.toNat B.toNat d2 d3) (s3 : Srt (ltOf cf) mid.toNat B.toNat d3) => merge_join hS (by omega) (by omega) (by have := HS1.out; omega) h7.2.2.2.2.2.2 HP2.out HS2.out p3 s3); clear h7; go_wp2_with fail; all_goals (refine CQ2.out.mono ?_; rintro en wz ⟨rfl, d3, p3, s3, k3⟩; have HX := Lib.hid (HFin.out d1 d3 wz HP1.out (HJ2.out d3 p3 s3) k3); clear p3 s3 k3; go_wp2; all_goals (first | exact HX.out | (go_end0; exact HX.out))))); (focus (have s3 : Srt (ltOf cf) mid.toNat B.toNat d2 := (by by_cases q : mid < E; (have e : B.toNat = E.toNat := (by omega); rw [e]; exact h7.2.2.2.1.out (.inl (Nat.le_refl _)) HP2.out); (have e : mid.toNat = E.toNat := (by omega); rw [e]; exact h7.2.2.2.2.1.out (.inl (by omega)) HP2.out)); have HX := Lib.hid (HFin.out d1 d2 _ HP1.out (merge_join hS (by omega) (by omega) (by have := HS1.out; omega) h7.2.2.2.2.2.2 HP2.out HS2.out (permIn_refl _ _ _) s3) HK2.out); clear h7 s3; by_cases q : mid < E; (focus (have q2 : ¬ E < B := (by omega); clear c5; go_wp2; all_goals (first | exact HX.out | (go_end0; exact HX.out)))); (focus (clear c5; go_wp2; all_goals (first | exact HX.out | (go_end0; exact HX.out))))))))); (focus (clear c3; first | (exfalso; omega) | (have h7 := H7.out; by_cases c5 : mid < E ∧ E < B; (focus (obtain ⟨c5, c6⟩ := c5; have CQ2 := Lib.hid (HI.out mid E B d2 _ (by omega) c5 c6 hB (HP2.out.1.trans HS1.out) (by omega) (h7.2.2.2.1.out (.inl (Nat.le_refl _)) HP2.out) (h7.2.2.2.2.1.out (.inl (by omega)) HP2.out) (Crs.out h7.2.2.2.2.2.1 (.inl (Nat.le_refl _)) HP2.out) HK2.out); have HJ2 := Lib.hid (fun d3 (p3 : PermIn mid.toNat B.toNat d2 d3) (s3 : Srt (ltOf cf) mid.toNat B.toNat d3) => merge_join hS (by omega) (by omega) (by have := HS1.out; omega) h7.2.2.2.2.2.2 HP2.out HS2.out p3 s3); clear h7; go_wp2_with fail; all_goals (refine CQ2.out.mono ?_; rintro en wz ⟨rfl, d3, p3, s3, k3⟩; have HX := Lib.hid (HFin.out d1 d3 wz HP1.out (HJ2.out d3 p3 s3) k3); clear p3 s3 k3; go_wp2; all_goals (first | exact HX.out | (go_end0; exact HX.out))))); (focus (have s3 : Srt (ltOf cf) mid.toNat B.toNat d2 := (by by_cases q : mid < E; (have e : B.toNat = E.toNat := (by omega); rw [e]; exact h7.2.2.2.1.out (.inl (Nat.le_refl _)) HP2.out); (have e : mid.toNat = E.toNat := (by omega); rw [e]; exact h7.2.2.2.2.1.out (.inl (by omega)) HP2.out)); have HX := Lib.hid (HFin.out d1 d2 _ HP1.out (merge_join hS (by omega) (by omega) (by have := HS1.out; omega) h7.2.2.2.2.2.2 HP2.out HS2.out (permIn_refl _ _ _) s3) HK2.out); clear h7 s3; by_cases q : mid < E; (focus (have q2 : ¬ E < B := (by omega); clear c5; go_wp2; all_goals (first | exact HX.out | (go_end0; exact HX.out)))); (focus (clear c5; go_wp2; all_goals (first | exact HX.out | (go_end0; exact HX.out)))))))))))
          · clear c12
            by_cases c3 : A < i ∧ i < mid; (focus (obtain ⟨c3, c4⟩ := c3; have CQ1 := Lib.hid (HI.out A i mid d1 _ hA0 c3 c4 (by omega) HS1.out (by omega) H7.out.1 H7.out.2.1 H7.out.2.2.1 HK1.out); go_wp2_with fail; refine CQ1.out.mono ?_; rintro en w2 ⟨rfl, d2, p2, s2, k2⟩; have HP2 := Lib.hid p2; have HS2 := Lib.hid s2; have HK2 := Lib.hid k2; clear p2 s2 k2; have h7 := H7.out; by_cases c5 : mid < E ∧ E < B; (focus (obtain ⟨c5, c6⟩ := c5; have CQ2 := Lib.hid (HI.out mid E B d2 _ (by omega) c5 c6 hB (HP2.out.1.trans HS1.out) (by omega) (h7.2.2.2.1.out (.inl (Nat.le_refl _)) HP2.out) (h7.2.2.2.2.1.out (.inl (by omega)) HP2.out) (Crs.out h7.2.2.2.2.2.1 (.inl (Nat.le_refl _)) HP2.out) HK2.out); have HJ2 := Lib.hid (fun d3 (p3 : PermIn mid.toNat B.toNat d2 d3) (s3 : Srt (ltOf cf) mid.toNat B.toNat d3) => merge_join hS (by omega) (by omega) (by have := HS1.out; omega) h7.2.2.2.2.2.2 HP2.out HS2.out p3 s3); clear h7; go_wp2_with fail; all_goals (refine CQ2.out.mono ?_; rintro en wz ⟨rfl, d3, p3, s3, k3⟩; have HX := Lib.hid (HFin.out d1 d3 wz HP1.out (HJ2.out d3 p3 s3) k3); clear p3 s3 k3; go_wp2; all_goals (first | exact HX.out | (go_end0; exact HX.out))))); (focus (have s3 : Srt (ltOf cf) mid.toNat B.toNat d2 := (by by_cases q : mid < E; (have e : B.toNat = E.toNat := (by omega); rw [e]; exact h7.2.2.2.1.out (.inl (Nat.le_refl _)) HP2.out); (have e : mid.toNat = E.toNat := (by omega); rw [e]; exact h7.2.2.2.2.1.out (.inl (by omega)) HP2.out)); have HX := Lib.hid (HFin.out d1 d2 _ HP1.out (merge_join hS (by omega) (by omega) (by have := HS1.out; omega) h7.2.2.2.2.2.2 HP2.out HS2.out (permIn_refl _ _ _) s3) HK2.out); clear h7 s3; by_cases q : mid < E; (focus (have q2 : ¬ E < B := (by omega); clear c5; go_wp2; all_goals (first | exact HX.out | (go_end0; exact HX.out)))); (focus (clear c5; go_wp2; all_goals (first | exact HX.out | (go_end0; exact HX.out)))))))); (focus (obtain ⟨d2, hd2⟩ : ∃ d2, d2 = d1 := ⟨_, rfl⟩; have HP2 : Hid (PermIn A.toNat mid.toNat d1 d2) := (by rw [hd2]; exact permIn_refl _ _ _); have HS2 : Hid (Srt (ltOf cf) A.toNat mid.toNat d2) := (by rw [hd2]; by_cases q : A < i; (have e : mid.toNat = i.toNat := (by omega); rw [e]; exact H7.out.1); (have e : A.toNat = i.toNat := (by omega); rw [e]; exact H7.out.2.1)); have HK2 := Lib.hid HK1.out; rw [← hd2] at HK2; clear hd2; by_cases q : A < i; (focus (have q2 : ¬ i < mid := (by omega); clear c3; first | (exfalso; omega) | (have h7 := H7.out; by_cases c5 : mid < E ∧ E < B; (focus (obtain ⟨c5, c6⟩ := c5; have CQ2 := Lib.hid (HI.out mid E B d2 _ (by omega) c5 c6 hB (HP2.out.1.trans HS1.out) (by omega) (h7.2.2.2.1.out (.inl (Nat.le_refl _)) HP2.out) (h7.2.2.2.2.1.out (.inl (by omega)) HP2.out) (Crs.out h7.2.2.2.2.2.1 (.inl (Nat.le_refl _)) HP2.out) HK2.out); have HJ2 := Lib.hid (fun d3 (p3 : PermIn mid.toNat B.toNat d2 d3) (s3 : Srt (ltOf cf) mid.toNat B.toNat d3) => merge_join hS (by omega) (by omega) (by have := HS1.out; omega) h7.2.2.2.2.2.2 HP2.out HS2.out p3 s3); clear h7; go_wp2_with fail; all_goals (refine CQ2.out.mono ?_; rintro en wz ⟨rfl, d3, p3, s3, k3⟩; have HX := Lib.hid (HFin.out d1 d3 wz HP1.out (HJ2.out d3 p3 s3) k3); clear p3 s3 k3; go_wp2; all_goals (first | exact HX.out | (go_end0; exact HX.out))))); (focus (have s3 : Srt (ltOf cf) mid.toNat B.toNat d2 := (by by_cases q : mid < E; (have e : B.toNat = E.toNat := (by omega); rw [e]; exact h7.2.2.2.1.out (.inl (Nat.le_refl _)) HP2.out); (have e : mid.toNat = E.toNat := (by omega); rw [e]; exact h7.2.2.2.2.1.out (.inl (by omega)) HP2.out)); have HX := Lib.hid (HFin.out d1 d2 _ HP1.out (merge_join hS (by omega) (by omega) (by have := HS1.out; omega) h7.2.2.2.2.2.2 HP2.out HS2.out (permIn_refl _ _ _) s3) HK2.out); clear h7 s3; by_cases q : mid < E; (focus (have q2 : ¬ E < B := (by omega); clear c5; go_wp2; all_goals (first | exact HX.out | (go_end0; exact HX.out)))); (focus (clear c5; go_wp2; all_goals (first | exact HX.out | (go_end0; exact HX.out))))))))); (focus (clear c3; first | (exfalso; omega) | (have h7 := H7.out; by_cases c5 : mid < E ∧ E < B; (focus (obtain ⟨c5, c6⟩ := c5; have CQ2 := Lib.hid (HI.out mid E B d2 _ (by omega) c5 c6 hB (HP2.out.1.trans HS1.out) (by omega) (h7.2.2.2.1.out (.inl (Nat.le_refl _)) HP2.out) (h7.2.2.2.2.1.out (.inl (by omega)) HP2.out) (Crs.out h7.2.2.2.2.2.1 (.inl (Nat.le_refl _)) HP2.out) HK2.out); have HJ2 := Lib.hid (fun d3 (p3 : PermIn mid.toNat B.toNat d2 d3) (s3 : Srt (ltOf cf) mid.toNat B.toNat d3) => merge_join hS (by omega) (by omega) (by have := HS1.out; omega) h7.2.2.2.2.2.2 HP2.out HS2.out p3 s3); clear h7; go_wp2_with fail; all_goals (refine CQ2.out.mono ?_; rintro en wz ⟨rfl, d3, p3, s3, k3⟩; have HX := Lib.hid (HFin.out d1 d3 wz HP1.out (HJ2.out d3 p3 s3) k3); clear p3 s3 k3; go_wp2; all_goals (first | exact HX.out | (go_end0; exact HX.out))))); (focus (have s3 : Srt (ltOf cf) mid.toNat B.toNat d2 := (by by_cases q : mid < E; (have e : B.toNat = E.toNat := (by omega); rw [e]; exact h7.2.2.2.1.out (.inl (Nat.le_refl _)) HP2.out); (have e : mid.toNat = E.toNat := (by omega); rw [e]; exact h7.2.2.2.2.1.out (.inl (by omega)) HP2.out)); have HX := Lib.hid (HFin.out d1 d2 _ HP1.out (merge_join hS (by omega) (by omega) (by have := HS1.out; omega) h7.2.2.2.2.2.2 HP2.out HS2.out (permIn_refl _ _ _) s3) HK2.out); clear h7 s3; by_cases q : mid < E; (focus (have q2 : ¬ E < B := (by omega); clear c5; go_wp2; all_goals (first | exact HX.out | (go_end0; exact HX.out)))); (focus (clear c5; go_wp2; all_goals (first | exact HX.out | (go_end0; exact HX.out)))))))))))
end
end Go.Proofs.YtelchfijalkibaaGreatDoor
