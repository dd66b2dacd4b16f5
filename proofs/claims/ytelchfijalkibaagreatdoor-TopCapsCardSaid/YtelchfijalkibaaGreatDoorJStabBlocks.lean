/- Joined texts: StabBlocks, OStabTop. -/
import Derived.Test.YtelchfijalkibaaGreatDoorJCapAdd
import Derived.Test.YtelchfijalkibaaGreatDoorOStabSymB
/- Blocks of a stable sort, plain. No program in sight. -/
namespace Go.Proofs.YtelchfijalkibaaGreatDoor
open Go.Sort

section
variable {α : Type} [Inhabited α] {lt : α → α → Bool}
def InB (s q i : Nat) : Prop := s * q ≤ i ∧ i < s * q + s
theorem InB.uniq {s q p i : Nat} (h : InB s q i) (k : InB s p i) : q = p := by
  unfold InB at h k
  have a : s * q < s * (p + 1) := by rw [Nat.mul_succ]; omega
  have b : s * p < s * (q + 1) := by rw [Nat.mul_succ]; omega
  have := Nat.lt_of_mul_lt_mul_left a
  have := Nat.lt_of_mul_lt_mul_left b
  omega
theorem InB.half {s q i : Nat} (h : InB (2 * s) q i) : InB s (2 * q) i ∨ InB s (2 * q + 1) i := by
  unfold InB at *
  have e1 : s * (2 * q) = 2 * s * q := by rw [Nat.mul_left_comm, Nat.mul_assoc]
  have e2 : s * (2 * q + 1) = 2 * s * q + s := by rw [Nat.mul_succ, e1]
  omega
theorem InB.dbl {s q i : Nat} (h : InB s (2 * q) i ∨ InB s (2 * q + 1) i) : InB (2 * s) q i := by
  unfold InB at *
  have e1 : s * (2 * q) = 2 * s * q := by rw [Nat.mul_left_comm, Nat.mul_assoc]
  have e2 : s * (2 * q + 1) = 2 * s * q + s := by rw [Nat.mul_succ, e1]
  omega
def FullB (lt : α → α → Bool) (nn s : Nat) (d : Array (α × Nat)) : Prop :=
  (∀ q i j, InB s q i → i < j → InB s q j → j < nn → lexB lt d[j]! d[i]! = false) ∧ ∀ q i, InB s q i → i < nn → InB s q d[i]!.2
def MidB (lt : α → α → Bool) (nn s a : Nat) (d : Array (α × Nat)) : Prop :=
  (∀ q i j, InB (2 * s) q i → i < j → InB (2 * s) q j → j < a → j < nn → lexB lt d[j]! d[i]! = false) ∧
  (∀ q i j, InB s q i → i < j → InB s q j → a ≤ i → j < nn → lexB lt d[j]! d[i]! = false) ∧
  (∀ q i, InB s q i → a ≤ i → i < nn → InB s q d[i]!.2) ∧ ∀ q i, InB (2 * s) q i → i < nn → InB (2 * s) q d[i]!.2
theorem FullB.start {nn s : Nat} {d : Array (α × Nat)} (h : FullB lt nn s d) : MidB lt nn s 0 d := by
  refine ⟨fun q i j _ _ _ h4 _ => by omega, fun q i j h1 h2 h3 _ h4 => h.1 q i j h1 h2 h3 h4, fun q i h1 _ h2 => h.2 q i h1 h2, fun q i h1 h2 => ?_⟩
  rcases h1.half with k | k
  · exact InB.dbl (.inl (h.2 _ i k h2))
  · exact InB.dbl (.inr (h.2 _ i k h2))
theorem FullB.all {nn s : Nat} {d : Array (α × Nat)} (h : FullB lt nn s d) (hs : nn ≤ s) : Srt lt 0 nn d :=
  fun i j _ h2 h3 => h.1 0 i j (by unfold InB; omega) h2 (by unfold InB; omega) h3
theorem MidB.prem {nn s a q b : Nat} {d : Array (α × Nat)} (h : MidB lt nn s a d) (ha : a = 2 * s * q) (hb : b ≤ nn) (hb2 : b ≤ a + 2 * s) (hb3 : a + s < b) :
    Srt lt a (a + s) d ∧ Srt lt (a + s) b d ∧ Crs a (a + s) b d := by
  have e1 : s * (2 * q) = a := by rw [ha, Nat.mul_left_comm, Nat.mul_assoc]
  have e2 : s * (2 * q + 1) = a + s := by rw [Nat.mul_succ, e1]
  refine ⟨fun i j h1 h2 h3 => h.2.1 (2 * q) i j (by unfold InB; omega) h2 (by unfold InB; omega) h1 (by omega), fun i j h1 h2 h3 => h.2.1 (2 * q + 1) i j (by unfold InB; omega) h2 (by unfold InB; omega) (by omega) (by omega), fun i j h1 h2 h3 h4 => ?_⟩
  have k1 := h.2.2.1 (2 * q) i (by unfold InB; omega) h1 (by omega)
  have k2 := h.2.2.1 (2 * q + 1) j (by unfold InB; omega) (by omega) (by omega)
  unfold InB at k1 k2
  omega
theorem MidB.step {nn s a q b : Nat} {d d' : Array (α × Nat)} (h : MidB lt nn s a d) (ha : a = 2 * s * q) (hab : a ≤ b) (hb : b ≤ nn) (hb2 : b ≤ a + 2 * s) (hsz : nn ≤ d.size) (p : PermIn a b d d') (hs : Srt lt a b d') : MidB lt nn s b d' := by
  have blk : ∀ i, a ≤ i → i < b → InB (2 * s) q i := fun i h1 h2 => by unfold InB; omega
  refine ⟨fun r i j h1 h2 h3 h4 h5 => ?_, fun r i j h1 h2 h3 h4 h5 => ?_, fun r i h1 h2 h3 => ?_, fun r i h1 h2 => ?_⟩
  · by_cases hj : j < a
    · rw [p.2.1 i (.inl (by omega)), p.2.1 j (.inl hj)]
      exact h.1 r i j h1 h2 h3 hj h5
    · obtain rfl := h3.uniq (blk j (by omega) h4)
      unfold InB at h1
      exact hs i j (by omega) h2 h4
  · rw [p.2.1 i (.inr h4), p.2.1 j (.inr (by omega))]
    exact h.2.1 r i j h1 h2 h3 (by omega) h5
  · rw [p.2.1 i (.inr h2)]
    exact h.2.2.1 r i h1 (by omega) h3
  · by_cases hi : a ≤ i ∧ i < b
    · obtain rfl := h1.uniq (blk i hi.1 hi.2)
      exact permIn_all d d' a b (fun x => InB (2 * s) r x.2) (by omega) p (fun u h5 h6 => h.2.2.2 r u (blk u h5 h6) (by omega)) i hi.1 hi.2
    · rw [p.2.1 i (by omega)]
      exact h.2.2.2 r i h1 h2
theorem MidB.done {nn s a q : Nat} {d : Array (α × Nat)} (h : MidB lt nn s a d) (ha : a = 2 * s * q) (hn : nn ≤ a + s) : FullB lt nn (2 * s) d := by
  have e1 : s * (2 * q) = a := by rw [ha, Nat.mul_left_comm, Nat.mul_assoc]
  refine ⟨fun r i j h1 h2 h3 h4 => ?_, fun r i h1 h2 => h.2.2.2 r i h1 h2⟩
  by_cases hj : j < a
  · exact h.1 r i j h1 h2 h3 hj h4
  · have : InB (2 * s) q j := by unfold InB; omega
    obtain rfl := h3.uniq this
    unfold InB at h1
    exact h.2.1 (2 * r) i j (by unfold InB; omega) h2 (by unfold InB; omega) (by omega) h4
theorem MidB.full {nn s : Nat} {d : Array (α × Nat)} (h : MidB lt nn s nn d) : FullB lt nn (2 * s) d :=
  ⟨fun r i j h1 h2 h3 h4 => h.1 r i j h1 h2 h3 h4 h4, fun r i h1 h2 => h.2.2.2 r i h1 h2⟩
/-! ### the blocks of twenty -/
def InsB (lt : α → α → Bool) (nn a : Nat) (d : Array (α × Nat)) : Prop :=
  (∀ q i j, InB 20 q i → i < j → InB 20 q j → j < a → lexB lt d[j]! d[i]! = false) ∧ (∀ i, a ≤ i → i < nn → d[i]!.2 = i) ∧ ∀ q i, InB 20 q i → i < a → InB 20 q d[i]!.2
theorem InsB.start {nn : Nat} {d : Array (α × Nat)} (h : ∀ i, i < nn → d[i]!.2 = i) : InsB lt nn 0 d :=
  ⟨fun q i j _ _ _ h4 => by omega, fun i _ h2 => h i h2, fun q i _ h2 => by omega⟩
theorem InsB.prem {nn a b : Nat} {d : Array (α × Nat)} (h : InsB lt nn a d) (hb : b ≤ nn) : ∀ s t, a ≤ s → s < t → t < b → d[s]!.2 < d[t]!.2 :=
  fun s t h1 h2 h3 => by rw [h.2.1 s h1 (by omega), h.2.1 t (by omega) (by omega)]; exact h2
theorem InsB.step {nn a q b : Nat} {d d' : Array (α × Nat)} (h : InsB lt nn a d) (ha : a = 20 * q) (hab : a ≤ b) (hb : b ≤ nn) (hb2 : b ≤ a + 20) (hsz : nn ≤ d.size) (p : PermIn a b d d') (hs : Srt lt a b d') : InsB lt nn b d' := by
  have blk : ∀ i, a ≤ i → i < b → InB 20 q i := fun i h1 h2 => by unfold InB; omega
  refine ⟨fun r i j h1 h2 h3 h4 => ?_, fun i h1 h2 => ?_, fun r i h1 h2 => ?_⟩
  · by_cases hj : j < a
    · rw [p.2.1 i (.inl (by omega)), p.2.1 j (.inl hj)]
      exact h.1 r i j h1 h2 h3 hj
    · obtain rfl := h3.uniq (blk j (by omega) h4)
      unfold InB at h1
      exact hs i j (by omega) h2 h4
  · rw [p.2.1 i (.inr h1)]
    exact h.2.1 i (by omega) h2
  · by_cases hi : a ≤ i
    · obtain rfl := h1.uniq (blk i hi h2)
      exact permIn_all d d' a b (fun x => InB 20 r x.2) (by omega) p (fun u h5 h6 => by rw [h.2.1 u h5 (by omega)]; exact blk u h5 h6) i hi h2
    · rw [p.2.1 i (.inl (by omega))]
      exact h.2.2 r i h1 (by omega)
theorem InsB.full {nn : Nat} {d : Array (α × Nat)} (h : InsB lt nn nn d) : FullB lt nn 20 d := ⟨h.1, h.2.2⟩
end
end Go.Proofs.YtelchfijalkibaaGreatDoor
/- slices' stable sort at a struct: symMerge by induction, stableCmpFunc, SortStableFunc. -/

namespace Go.Proofs.YtelchfijalkibaaGreatDoor
open Go.RowKit Go.Lib Go.Sort Go.Shelf

section
variable {P : Program} {α : Type} [Inhabited α] {enc : α × Nat → Value} {w0 : World} {blk off : Nat} {d0 : Array (α × Nat)}

theorem symMerge_any (S : StF P) (R : Row1 enc w0 blk off d0) (hsz : d0.size < 4611686018427387904) (cap g : Nat) (cb : Array Value) (cf : α → α → Int) (hC : CmpLays1 P g cb enc (tagC cf) blk off d0.size w0)
    (eg : ∀ args w, (callFunc g args).run P w = .ok (.enter g args) w) (hS : SWO (ltOf cf)) : ∀ n, SymOk P enc w0 blk off cap g cb cf n d0 := by
  intro n
  induction n with
  | zero => intro A M B d W h1 h2 h3 h4 h5 h6; omega
  | succ n ih =>
    intro A M B d W h1 h2 h3 h4 h5 h6 hl hr hc hW
    by_cases c1 : M = A + 1
    · have := symLeft_any S R hsz cap g cb cf hC eg hS A.toNat M.toNat B.toNat d W (by omega) (by omega) (by omega) h5 hr hc hW
      rwa [show ((A.toNat : Nat) : Int) = A by omega, show ((M.toNat : Nat) : Int) = M by omega, show ((B.toNat : Nat) : Int) = B by omega] at this
    · by_cases c2 : B = M + 1
      · have := symRight_any S R hsz cap g cb cf hC eg hS A.toNat M.toNat B.toNat d W (by omega) (by omega) (by omega) h5 hl hc hW
        rwa [show ((A.toNat : Nat) : Int) = A by omega, show ((M.toNat : Nat) : Int) = M by omega, show ((B.toNat : Nat) : Int) = B by omega] at this
      · exact symBig_any S R hsz cap g cb cf hC eg hS n ih A M B d W h1 (by omega) (by omega) h4 h5 h6 hl hr hc hW

def InsOk (P : Program) (enc : α × Nat → Value) (w0 : World) (blk off cap g : Nat) (cb : Array Value) (cf : α → α → Int) (d0 : Array (α × Nat)) : Prop :=
  ∀ (a b : Nat) (d : Array (α × Nat)) (W : World), d.size = d0.size → a ≤ b → b ≤ d.size → SW enc w0 blk off d W →
    Calls P 89 #[.slice (some ⟨blk, off, none⟩) d0.size cap, .int .i64 a, .int .i64 b, .func (.func g) #[] cb] W fun e w' => e = .returned (.tuple #[]) ∧ SW enc w0 blk off (Sort.insertionSort (fstB (ltOf cf)) d a b) w'

set_option maxHeartbeats 8000000 in
set_option maxRecDepth 1000000 in
theorem stable_any (S : StF P) (R : Row1 enc w0 blk off d0) (hsz : d0.size < 1000000000000000000) (cap g : Nat) (cb : Array Value) (cf : α → α → Int) (hC : CmpLays1 P g cb enc (tagC cf) blk off d0.size w0)
    (eg : ∀ args w, (callFunc g args).run P w = .ok (.enter g args) w) (hS : SWO (ltOf cf)) (hIns : InsOk P enc w0 blk off cap g cb cf d0) (eIN : ∀ args w, (callFunc 89 args).run P w = .ok (.enter 89 args) w) (ht : ∀ i, i < d0.size → d0[i]!.2 = i) :
    Calls P 60 #[.slice (some ⟨blk, off, none⟩) d0.size cap, .int .i64 d0.size, .func (.func g) #[] cb] w0 fun e w' => e = .returned (.tuple #[]) ∧ ∃ d', PermIn 0 d0.size d0 d' ∧ Srt (ltOf cf) 0 d0.size d' ∧ SW enc w0 blk off d' w' := by
  have mixed := S.mixed; have t0 := S.t0; have a0 := S.a0; have z0 := S.z0; have v0 := S.v0; have t3 := S.t3; have a3 := S.a3; have z3 := S.z3; have v3 := S.v3; have t4 := S.t4; have a4 := S.a4; have z4 := S.z4; have v4 := S.v4; have t22 := S.t22; have a22 := S.a22; have z22 := S.z22; have v22 := S.v22; have t78 := S.t78; have a78 := S.a78; have z78 := S.z78; have v78 := S.v78; have t96 := S.t96; have a96 := S.a96; have z96 := S.z96; have v96 := S.v96; have aE := S.aE; have zE := S.zE; have u22 := run_underlying S.t22; have hst := R.hO.store P; have hcl0 := R.hO.cells; simp only [Value.cells] at hcl0
  have F := S.fst
  have eSY : ∀ args w, (callFunc 90 args).run P w = .ok (.enter 90 args) w := enters_of S.fsy (by kernel_rfl) rfl
  have HSy := Lib.hid (fun n => symMerge_any S R (by omega) cap g cb cf hC eg hS n)
  unfold SymOk at HSy
  have HSy : Hid (∀ (a m b : Nat) (d : Array (α × Nat)) (W : World), a < m → m < b → b ≤ d0.size → d.size = d0.size → Srt (ltOf cf) a m d → Srt (ltOf cf) m b d → Crs a m b d → SW enc w0 blk off d W →
      Calls P 90 #[.slice (some ⟨blk, off, none⟩) d0.size cap, .int .i64 a, .int .i64 m, .int .i64 b, .func (.func g) #[] cb] W (MergeR enc w0 blk off (ltOf cf) a b d)) := by
    intro a m b d W h1 h2 h3 h4 h5 h6 h7 h8
    have := HSy.out (((b : Int) - (a : Int)).toNat) a m b d W (by omega) (by omega) (by omega) (by omega) h4 (Nat.le_refl _) h5 h6 h7 h8
    simpa using this
  have HIn : Hid _ := hIns
  have HSt : Hid (∀ (a b : Nat) (d : Array (α × Nat)), a ≤ b → b ≤ d.size → (∀ s t, a ≤ s → s < t → t < b → d[s]!.2 < d[t]!.2) → PermIn a b d (Sort.insertionSort (fstB (ltOf cf)) d a b) ∧ Srt (ltOf cf) a b (Sort.insertionSort (fstB (ltOf cf)) d a b)) := fun a b d h1 h2 h3 => insSort_lex hS h1 h2 h3
  have HW := Lib.hid (SW.start R.hH)
  have HT := Lib.hid (InsB.start (lt := ltOf cf) ht)
  obtain ⟨nn, hnn⟩ : ∃ nn, d0.size = nn := ⟨_, rfl⟩
  have HNN := Lib.hid hnn
  unfold InsOk at HIn
  rw [hnn] at HSy HIn HT hsz
  rw [hnn]
  clear R S hC ht hIns hnn
  go_enter F, Tryz.ntmps60
  go_wp2_with fail
  go_loopg [7, 8] nn (fun g1 va vb wr => ∃ (q a : Nat) (d : Array (α × Nat)), va = .int .i64 a ∧ vb = .int .i64 (a + 20 : Nat) ∧ a = 20 * q ∧ a ≤ nn ∧ nn - a ≤ g1 ∧ d.size = nn ∧ Hid (InsB (ltOf cf) nn a d) ∧ Hid (PermIn 0 nn d0 d) ∧ Hid (SW enc w0 blk off d wr))
  case atStart => exact ⟨0, 0, d0, rfl, rfl, rfl, Nat.zero_le _, by omega, HNN.out, HT.out, permIn_refl _ _ _, HW.out⟩
  case round =>
    obtain ⟨q, a, d, rfl, rfl, haq, han, hg1, hsd, HB, HP, HK⟩ := hrel
    have HAQ := Lib.hid haq
    have HSD := Lib.hid hsd
    clear haq hsd
    by_cases hlt : a + 20 ≤ nn
    · have hltz : (a : Int) + 20 ≤ (nn : Int) := by omega
      have hsd := HSD.out
      obtain ⟨p1, s1⟩ := HSt.out a (a + 20) d (by omega) (by omega) (HB.out.prem hlt)
      have CQ := Lib.hid (HIn.out a (a + 20) d wr hsd (by omega) (by omega) HK.out)
      generalize Sort.insertionSort (fstB (ltOf cf)) d a (a + 20) = d' at *
      have HB2 := Lib.hid (HB.out.step HAQ.out (by omega) hlt (by omega) (by omega) p1 s1)
      have HP2 := Lib.hid (permIn_trans _ _ _ _ _ HP.out (permIn_mono d d' a (a + 20) 0 nn (by omega) hlt (by omega) p1))
      have HS2 := Lib.hid (p1.1.trans hsd)
      clear p1 s1 hsd HB HP
      go_wp2_with fail
      refine CQ.out.mono ?_
      rintro en w1 ⟨rfl, hk1⟩
      have HK2 := Lib.hid hk1
      clear hk1
      go_wp2_with fail
      go_roundg (nn - (a + 20))
      case measure => omega
      case rel => exact ⟨q + 1, a + 20, d', rfl, (by go_num), (by have := HAQ.out; omega), hlt, Nat.le_refl _, HS2.out, HB2.out, HP2.out, HK2.out⟩
    · have hltz : ¬ (a : Int) + 20 ≤ (nn : Int) := by omega
      have hltb : decide ((a : Int) + 20 ≤ (nn : Int)) = false := decide_eq_false hltz
      have hsd := HSD.out
      obtain ⟨p1, s1⟩ := HSt.out a nn d (by omega) (by omega) (HB.out.prem (Nat.le_refl _))
      have CQ := Lib.hid (HIn.out a nn d wr hsd (by omega) (by omega) HK.out)
      generalize Sort.insertionSort (fstB (ltOf cf)) d a nn = d' at *
      have HB2 := Lib.hid (HB.out.step HAQ.out (by omega) (Nat.le_refl _) (by omega) (by omega) p1 s1).full
      have HP2 := Lib.hid (permIn_trans _ _ _ _ _ HP.out (permIn_mono d d' a nn 0 nn (by omega) (Nat.le_refl _) (by omega) p1))
      have HS2 := Lib.hid (p1.1.trans hsd)
      clear p1 s1 hsd HB HP
      go_wp2_with fail
      refine CQ.out.mono ?_
      rintro en w1 ⟨rfl, hk1⟩
      have HK2 := Lib.hid hk1
      clear hk1
      go_wp2_with fail
      clear hlt hltz HSt HAQ HSD HIn HK CQ HT HW hg1 han
      go_loopg [6] (nn + 20) (fun g2 vs wr2 => ∃ (s : Nat) (d : Array (α × Nat)), vs = .int .i64 s ∧ 0 < s ∧ s ≤ 2 * nn + 20 ∧ nn + 20 - s ≤ g2 ∧ d.size = nn ∧ Hid (FullB (ltOf cf) nn s d) ∧ Hid (PermIn 0 nn d0 d) ∧ Hid (SW enc w0 blk off d wr2))
      case atStart => exact ⟨20, d', rfl, by omega, by omega, by omega, HS2.out, HB2.out, HP2.out, HK2.out⟩
      case round =>
        clear HB2 HP2 HS2 HK2
        obtain ⟨s, d, rfl, hs0, hs1, hg2, hsd, HB, HP, HK⟩ := hrel
        have HSD := Lib.hid hsd
        clear hsd
        by_cases hlt : s < nn
        · have hltz2 : (s : Int) < (nn : Int) := by omega
          obtain ⟨t, ht⟩ : ∃ t, 2 * s = t := ⟨_, rfl⟩
          have ht2 : (2 : Int) * (s : Int) = (t : Int) := by omega
          have ht3 : (s : Int) * 2 = (t : Int) := by omega
          have HT2 := Lib.hid ht
          have hst : s + s = t := by omega
          clear ht
          go_wp2_with fail
          go_loopg [7, 8] nn (fun g3 va vb wr => ∃ (q a : Nat) (d : Array (α × Nat)), va = .int .i64 a ∧ vb = .int .i64 ((a : Int) + (t : Int)) ∧ Hid (a = 2 * s * q) ∧ a ≤ nn ∧ nn - a ≤ g3 ∧ d.size = nn ∧ Hid (MidB (ltOf cf) nn s a d) ∧ Hid (PermIn 0 nn d0 d) ∧ Hid (SW enc w0 blk off d wr))
          case atStart => exact ⟨0, 0, d, rfl, (by simp), rfl, Nat.zero_le _, by omega, HSD.out, HB.out.start, HP.out, HK.out⟩
          case round =>
            clear HB HP HK HSD
            obtain ⟨q, a, d, rfl, rfl, HAQ, han, hg3, hsd, HB, HP, HK⟩ := hrel
            have HSD := Lib.hid hsd
            by_cases hlt3 : a + t ≤ nn
            · have hltz3 : (a : Int) + (t : Int) ≤ (nn : Int) := by omega
              obtain ⟨p1, p2, p3⟩ := HB.out.prem (b := a + t) HAQ.out hlt3 (by have := HT2.out; omega) (by omega)
              have hCQ := HSy.out a (a + s) (a + t) d wr (by omega) (by omega) hlt3 hsd p1 p2 p3 HK.out
              rw [show ((a + s : Nat) : Int) = (a : Int) + (s : Int) by omega, show ((a + t : Nat) : Int) = (a : Int) + (t : Int) by omega] at hCQ
              have CQ := Lib.hid hCQ
              have HSTEP := Lib.hid (fun d' (p : PermIn a (a + t) d d') (s' : Srt (ltOf cf) a (a + t) d') => HB.out.step HAQ.out (by omega) hlt3 (by have := HT2.out; omega) (by omega) p s')
              clear hCQ p1 p2 p3 hsd
              go_wp2_with fail
              refine CQ.out.mono ?_
              rintro en w3 ⟨rfl, d3, p4, s4, k4⟩
              have HB4 := Lib.hid (HSTEP.out d3 p4 s4)
              have HP4 := Lib.hid (permIn_trans _ _ _ _ _ HP.out (permIn_mono d d3 a (a + t) 0 nn (by omega) hlt3 (by have := HSD.out; omega) p4))
              have HS4 := Lib.hid (p4.1.trans HSD.out)
              have HK4 := Lib.hid k4
              clear p4 s4 k4 HB HP HK HSD
              go_wp2_with fail
              go_roundg (nn - (a + t))
              case measure => omega
              case rel => exact ⟨q + 1, a + t, d3, (by first | rfl | go_num), (by first | rfl | go_num | (congr 1; omega)), (by have := HAQ.out; have := HT2.out; unfold Hid; rw [Nat.mul_succ]; omega), hlt3, Nat.le_refl _, HS4.out, HB4.out, HP4.out, HK4.out⟩
            · have hltz3 : ¬ (a : Int) + (t : Int) ≤ (nn : Int) := by omega
              have hltb3 : decide ((a : Int) + (t : Int) ≤ (nn : Int)) = false := decide_eq_false hltz3
              by_cases hm : a + s < nn
              · have hmz : (a : Int) + (s : Int) < (nn : Int) := by omega
                obtain ⟨p1, p2, p3⟩ := HB.out.prem (b := nn) HAQ.out (Nat.le_refl _) (by have := HT2.out; omega) hm
                have hCQ := HSy.out a (a + s) nn d wr (by omega) hm (Nat.le_refl _) hsd p1 p2 p3 HK.out
                rw [show ((a + s : Nat) : Int) = (a : Int) + (s : Int) by omega] at hCQ
                have CQ := Lib.hid hCQ
                have HSTEP := Lib.hid (fun d' (p : PermIn a nn d d') (s' : Srt (ltOf cf) a nn d') => (HB.out.step HAQ.out han (Nat.le_refl _) (by have := HT2.out; omega) (by omega) p s').full)
                clear hCQ p1 p2 p3 hsd
                go_wp2_with fail
                refine CQ.out.mono ?_
                rintro en w3 ⟨rfl, d3, p4, s4, k4⟩
                have HB4 := Lib.hid (HSTEP.out d3 p4 s4)
                have HP4 := Lib.hid (permIn_trans _ _ _ _ _ HP.out (permIn_mono d d3 a nn 0 nn (by omega) (Nat.le_refl _) (by have := HSD.out; omega) p4))
                have HS4 := Lib.hid (p4.1.trans HSD.out)
                have HK4 := Lib.hid k4
                clear p4 s4 k4 HB HP HK HSD
                go_wp2_with fail
                go_roundg (nn + 20 - t)
                case measure => omega
                case rel => exact ⟨t, d3, rfl, by omega, by omega, by omega, HS4.out, (by have := HB4.out; rwa [HT2.out] at this), HP4.out, HK4.out⟩
              · have hmz : ¬ (a : Int) + (s : Int) < (nn : Int) := by omega
                have HB4 := Lib.hid (HB.out.done HAQ.out (by omega))
                clear hsd HB
                go_wp2_with fail
                go_roundg (nn + 20 - t)
                case measure => omega
                case rel => exact ⟨t, d, rfl, by omega, by omega, by omega, HSD.out, (by have := HB4.out; rwa [HT2.out] at this), HP.out, HK.out⟩
        · have hltz2 : ¬ (s : Int) < (nn : Int) := by omega
          have HF := Lib.hid (HB.out.all (by omega))
          clear HB
          go_wp2
          go_end0
          exact ⟨rfl, d, HP.out, HF.out, HK.out⟩
end
end Go.Proofs.YtelchfijalkibaaGreatDoor
