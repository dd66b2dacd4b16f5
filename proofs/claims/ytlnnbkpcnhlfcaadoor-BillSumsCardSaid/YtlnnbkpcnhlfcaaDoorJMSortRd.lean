/- Joined texts: MSortRd, MSortPdq. -/
import Derived.Sort.Walk13
import Derived.Sort.AssemblyPlain
import Derived.Sort.LotD4
import Derived.Sort.LotD3
import Derived.Test.YtlnnbkpcnhlfcaaDoorMSortHeap
import Derived.Test.YtlnnbkpcnhlfcaaDoorMSortMed
import Derived.Test.YtlnnbkpcnhlfcaaDoorJMSortBrk
import Derived.Test.YtlnnbkpcnhlfcaaDoorMSortPe
import Derived.Test.YtlnnbkpcnhlfcaaDoorMSortPt
import Derived.Deep.Cut
/- One round of the library's sort, in plain terms, for less than fifty elements. -/
namespace Go.Proofs.YtlnnbkpcnhlfcaaDoor
open Go.Sort

section
variable {β : Type} [Inhabited β]
theorem choose_few (lt : β → β → Bool) (d : Array β) (a b : Nat) (h : b - a < 50) : (choosePivot lt d a b).2 ≠ .decreasing := by
  rw [choosePivot_eq]
  have h3 : (rawPivot lt d a b).2 ≤ 3 := by
    unfold rawPivot
    by_cases h8 : b - a ≥ 8
    · rw [if_pos h8, if_neg (by omega)]
      exact median_count lt d _ _ _ 0
    · rw [if_neg h8]
      exact Nat.zero_le _
  show hintOf (rawPivot lt d a b).2 ≠ .decreasing
  unfold hintOf
  by_cases h0 : (rawPivot lt d a b).2 = 0
  · rw [if_pos h0]; simp
  · rw [if_neg h0, if_neg (by omega)]; simp

/-- what the walk of a round wants -/
structure Rnd (lt : β → β → Bool) (d : Array β) (a b lim : Nat) (wb wp : Bool) (d1 : Array β) (l1 p : Nat) (hi : Bool) (d3 : Array β) (dn : Bool) : Prop where
  y : wb = true → d1 = d ∧ l1 = lim
  n : wb = false → d1 = breakPatterns d a b ∧ l1 = lim - 1
  ll : l1 ≤ lim
  s1 : d1.size = d.size
  c : (choosePivot lt d1 a b).1 = p ∧ hintCode (choosePivot lt d1 a b).2 = (if hi then 1 else 0)
  p1 : a ≤ p
  p2 : p < b
  pi : (wb && wp && hi) = true → partialInsertionSort lt d1 a b = (d3, dn)
  np : (wb && wp && hi) = false → d3 = d1 ∧ dn = false
  s3 : d3.size = d.size
  fin : dn = true → pdq lt d a b lim wb wp = d3
  eq : dn = false → a > 0 → lt d3[a - 1]! d3[p]! = false → ∀ mid d4, partitionEqual lt d3 a b p = (mid, d4) →
    a < mid ∧ mid ≤ b ∧ d4.size = d.size ∧ Go.Sort.Below lt mid b d4 ∧ pdq lt d4 mid b l1 wb wp = pdq lt d a b lim wb wp
  pt : dn = false → (a = 0 ∨ lt d3[a - 1]! d3[p]! = true) → ∀ mid ap d4, partition lt d3 a b p = (mid, ap, d4) →
    a ≤ mid ∧ mid < b ∧ d4.size = d.size ∧ Go.Sort.Below lt a mid d4 ∧ Go.Sort.Below lt (mid + 1) b d4 ∧
    (mid - a < b - mid → (pdq lt d4 a mid l1 true true).size = d.size ∧ Go.Sort.Below lt (mid + 1) b (pdq lt d4 a mid l1 true true) ∧
      pdq lt (pdq lt d4 a mid l1 true true) (mid + 1) b l1 (decide (mid - a ≥ (b - a) / 8)) ap = pdq lt d a b lim wb wp) ∧
    (¬ mid - a < b - mid → (pdq lt d4 (mid + 1) b l1 true true).size = d.size ∧ Go.Sort.Below lt a mid (pdq lt d4 (mid + 1) b l1 true true) ∧
      pdq lt (pdq lt d4 (mid + 1) b l1 true true) a mid l1 (decide (b - mid ≥ (b - a) / 8)) ap = pdq lt d a b lim wb wp)

theorem rnd_ex {lt : β → β → Bool} (hO : SWO lt) {d : Array β} {a b lim : Nat} (wb wp : Bool) (h12 : ¬ b - a ≤ 12) (h50 : b - a < 50) (hl0 : ¬ lim = 0) (hb : b ≤ d.size) (hB : Go.Sort.Below lt a b d) :
    ∃ d1 l1 p hi d3 dn, Rnd lt d a b lim wb wp d1 l1 p hi d3 dn := by
  obtain ⟨s1, B1, hc1, s2, B2, hpv, s3, B3⟩ := rd_facts (lt := lt) (limit := lim) (wb := wb) (wp := wp) hO partialInsertionSort_holds reverseRange_holds (show a < b by omega) hb hB
  have hne : (rd lt d a b lim wb wp).c.2 ≠ .decreasing := choose_few lt _ a b h50
  obtain ⟨e2, epv, eht⟩ := rd_not hne
  refine ⟨(rd lt d a b lim wb wp).d1, (rd lt d a b lim wb wp).lim, (rd lt d a b lim wb wp).pivot, decide ((rd lt d a b lim wb wp).hint = .increasing), (rd lt d a b lim wb wp).pi.1, (rd lt d a b lim wb wp).pi.2, ?_⟩
  refine { y := ?_, n := ?_, ll := rd_lim_le, s1 := s1, c := ⟨?_, ?_⟩, p1 := hpv.1, p2 := hpv.2, pi := ?_, np := ?_, s3 := s3, fin := ?_, eq := ?_, pt := ?_ }
  · rintro rfl; exact rd_true
  · rintro rfl; exact rd_false
  · rw [epv]; rfl
  · rw [eht]
    have hne2 : (choosePivot lt (rd lt d a b lim wb wp).d1 a b).2 ≠ .decreasing := hne
    have e : (rd lt d a b lim wb wp).c.2 = (choosePivot lt (rd lt d a b lim wb wp).d1 a b).2 := rfl
    rw [e]
    cases h : (choosePivot lt (rd lt d a b lim wb wp).d1 a b).2 with
    | unknown => simp [hintCode]
    | increasing => simp [hintCode]
    | decreasing => exact absurd h hne2
  · intro h
    rw [← e2, ← rd_pi_yes h]
  · intro h
    rw [rd_pi_no h, e2]
    exact ⟨rfl, rfl⟩
  · intro h
    exact pdq_done h12 hl0 h
  · intro h ha hl mid d4 hx
    obtain ⟨r1, r2, r3, r4, _⟩ := round_eq hO (partitionEqual_holds lt) ha hpv.1 hpv.2 (by rw [s3]; exact hb) B3 hl hx
    refine ⟨r1, r2, r3.trans s3, r4, ?_⟩
    rw [pdq_eq h12 hl0 h (by simp [ha, hl]) (by rw [hx]; exact ⟨r1, r2⟩), hx]
  · intro h hl mid ap d4 hx
    obtain ⟨r1, r2, r3, r4, r5, r6, r7⟩ := round_part hO (partition_holds lt) hpv.1 hpv.2 (by rw [s3]; exact hb) B3 hx
    have h87 : (decide (a > 0) && !lt (rd lt d a b lim wb wp).pi.1[a - 1]! (rd lt d a b lim wb wp).pi.1[(rd lt d a b lim wb wp).pivot]!) = false := by
      rcases hl with rfl | hl
      · simp
      · simp [hl]
    have hs4 : d4.size = d.size := r3.trans s3
    refine ⟨r1, r2, hs4, r4, r5, fun h4 => ?_, fun h4 => ?_⟩
    · obtain ⟨pL, sL⟩ := pdq_sorts lt hO d4 a mid (rd lt d a b lim wb wp).lim true true r1 (by omega) r4
      refine ⟨pL.1.trans hs4, (r6 _ pL sL).1, ?_⟩
      rw [pdq_left h12 hl0 h h87 (by rw [hx]; exact ⟨r1, r2⟩) (by rw [hx]; exact h4), hx]
    · obtain ⟨pL, sL⟩ := pdq_sorts lt hO d4 (mid + 1) b (rd lt d a b lim wb wp).lim true true (by omega) (by omega) r5
      refine ⟨pL.1.trans hs4, (r7 _ pL sL).1, ?_⟩
      rw [pdq_right h12 hl0 h h87 (by rw [hx]; exact ⟨r1, r2⟩) (by rw [hx]; exact h4), hx]
end
end Go.Proofs.YtlnnbkpcnhlfcaaDoor
/- slices.SortFunc of fewer than fifty ints where the comparison is a method value, walked. -/

namespace Go.Proofs.YtlnnbkpcnhlfcaaDoor
open Go.RowKit Go.Lib Go.Sort Go.Shelf

section
variable {β : Type} [Inhabited β] {enc : β → Value} {w0 W : World} {blk off : Nat} {d0 d : Array β}
set_option maxHeartbeats 25600000 in
set_option maxRecDepth 1000000 in
theorem pdqM_any (R : Row1 enc w0 blk off d0) (cf : β → β → Int) (hO : SWO (ltOf cf)) (g : Nat) (rv : Value) (eg : ∀ args w, (callFunc g args).run Tryd.prog w = .ok (.enter g args) w) (hC : CmpM Tryd.prog g rv enc cf blk off d0.size w0)
    (hsz : d0.size < 50) (cap : Nat) : ∀ (N a b lim : Nat) (d : Array β) (W : World), b - a < N → d.size = d0.size → SW enc w0 blk off d W → a ≤ b → b ≤ d0.size → lim ≤ 1000000 → Go.Sort.Below (ltOf cf) a b d →
    Calls Tryd.prog 82 #[.slice (some ⟨blk, off, none⟩) d0.size cap, .int .i64 a, .int .i64 b, .int .i64 lim, (.func (.func g) #[rv] #[])] W fun e w' =>
      e = .returned (.tuple #[]) ∧ SW enc w0 blk off (pdq (ltOf cf) d a b lim true true) w' := by
  have S := stF
  have mixed := S.mixed; have t0 := S.t0; have a0 := S.a0; have z0 := S.z0; have v0 := S.v0; have t3 := S.t3; have a3 := S.a3; have z3 := S.z3; have v3 := S.v3; have t4 := S.t4; have a4 := S.a4; have z4 := S.z4; have v4 := S.v4; have t22 := S.t22; have a22 := S.a22; have z22 := S.z22; have v22 := S.v22; have t78 := S.t78; have a78 := S.a78; have z78 := S.z78; have v78 := S.v78; have t96 := S.t96; have a96 := S.a96; have z96 := S.z96; have v96 := S.v96; have aE := S.aE; have zE := S.zE; have u22 := run_underlying S.t22; have hst := R.hO.store Tryd.prog; have hcl0 := R.hO.cells; simp only [Value.cells] at hcl0
  have e20 : ∀ args w, (callFunc 95 args).run Tryd.prog w = .ok (.enter 95 args) w := enters_of Tryd.func95 (by kernel_rfl) rfl
  have e21 : ∀ args w, (callFunc 96 args).run Tryd.prog w = .ok (.enter 96 args) w := enters_of Tryd.func96 (by kernel_rfl) rfl
  have e22 : ∀ args w, (callFunc 97 args).run Tryd.prog w = .ok (.enter 97 args) w := enters_of Tryd.func97 (by kernel_rfl) rfl
  have e23 : ∀ args w, (callFunc 98 args).run Tryd.prog w = .ok (.enter 98 args) w := enters_of Tryd.func98 (by kernel_rfl) rfl
  have e25 : ∀ args w, (callFunc 100 args).run Tryd.prog w = .ok (.enter 100 args) w := enters_of Tryd.func100 (by kernel_rfl) rfl
  have e26 : ∀ args w, (callFunc 101 args).run Tryd.prog w = .ok (.enter 101 args) w := enters_of Tryd.func101 (by kernel_rfl) rfl
  have e27 : ∀ args w, (callFunc 102 args).run Tryd.prog w = .ok (.enter 102 args) w := enters_of Tryd.func102 (by kernel_rfl) rfl
  have e14 : ∀ args w, (callFunc 82 args).run Tryd.prog w = .ok (.enter 82 args) w := enters_of Tryd.func82 (by kernel_rfl) rfl
  have CN := Lib.hid (fun (dq : Array β) (Wq : World) (x y : Nat) (q1 : dq.size = d0.size) (q2 : x ≤ y) (q3 : y ≤ d0.size) (q4 : SW enc w0 blk off dq Wq) => insM_any R cf g rv eg hC q1 (by omega) cap x y q2 q3 q4)
  have CH := Lib.hid (fun (dq : Array β) (Wq : World) (x y : Nat) (q1 : dq.size = d0.size) (q2 : x ≤ y) (q3 : y ≤ d0.size) (q4 : SW enc w0 blk off dq Wq) => heapM_any R cf g rv eg hC q1 (by omega) cap x y q2 q3 q4)
  have CB := Lib.hid (fun (dq : Array β) (Wq : World) (x y : Nat) (q1 : dq.size = d0.size) (q2 : x + 8 ≤ y) (q3 : y ≤ d0.size) (q4 : SW enc w0 blk off dq Wq) => brkM_any R g rv q1 (by omega) cap x y q2 q3 q4)
  have CP := Lib.hid (fun (dq : Array β) (Wq : World) (x y : Nat) (q1 : dq.size = d0.size) (q2 : y - x ≥ 8) (q2b : y - x < 50) (q3 : y ≤ d0.size) (q4 : SW enc w0 blk off dq Wq) => pivM_any R cf g rv eg hC q1 (by omega) cap x y q2 q2b q3 q4)
  have CQ := Lib.hid (fun (dq : Array β) (Wq : World) (x y : Nat) (q1 : dq.size = d0.size) (q2 : x < y) (q2b : y - x < 50) (q3 : y ≤ d0.size) (q4 : SW enc w0 blk off dq Wq) => partM_any R cf g rv eg hC q1 (by omega) cap x y q2 q2b q3 q4)
  have CE := Lib.hid (fun (dq : Array β) (Wq : World) (x y z : Nat) (q1 : dq.size = d0.size) (q2 : x ≤ z) (q2b : z < y) (q3 : y ≤ d0.size) (q4 : SW enc w0 blk off dq Wq) => peqM_any R cf g rv eg hC q1 (by omega) cap x y z q2 q2b q3 q4)
  have CT := Lib.hid (fun (dq : Array β) (Wq : World) (x y z : Nat) (q1 : dq.size = d0.size) (q2 : x ≤ z) (q2b : z < y) (q3 : y ≤ d0.size) (q4 : SW enc w0 blk off dq Wq) => ptM_any R cf g rv eg hC q1 (by omega) cap x y z q2 q2b q3 q4)
  have HR := Lib.hid R
  have HC := Lib.hid hC
  have HO := Lib.hid hO
  clear R hC hO S
  intro N
  induction N with
  | zero => intro _ _ _ _ _ h; exact absurd h (Nat.not_lt_zero _)
  | succ N ih =>
    intro a b lim d W hN hs hW hab hb hlim hBel
    have HW := Lib.hid hW
    have HIH := Lib.hid ih
    have HBel := Lib.hid hBel
    clear hW ih hBel
    go_enter Tryd.func82, Tryd.ntmps82
    go_wp2
    go_loopg [1, 2, 3, 10, 11] (b - a) (fun kx s1 s2 s3 s8 s9 wr => ∃ (a' b' li : Nat) (wb wp : Bool) (dk : Array β), s1 = .int .i64 a' ∧ s2 = .int .i64 b' ∧ s3 = .int .i64 li ∧ s8 = .bool wb ∧ s9 = .bool wp ∧
      a' ≤ b' ∧ b' ≤ d0.size ∧ b' - a' ≤ kx ∧ kx ≤ b - a ∧ li ≤ lim ∧ dk.size = d0.size ∧ Hid (Go.Sort.Below (ltOf cf) a' b' dk) ∧ Hid (SW enc w0 blk off dk wr) ∧ Hid (pdq (ltOf cf) dk a' b' li wb wp = pdq (ltOf cf) d a b lim true true))
    case atStart => exact ⟨a, b, lim, true, true, d, rfl, rfl, rfl, rfl, rfl, hab, hb, Nat.le_refl _, Nat.le_refl _, Nat.le_refl _, hs, HBel, HW, rfl⟩
    case round =>
      clear HW HBel hs
      obtain ⟨a', b', li, wb, wp, dk, rfl, rfl, rfl, rfl, rfl, hab', hb', hkx, hkN, hli, hds, HB, HK, HE⟩ := hrel
      by_cases h12 : b' - a' ≤ 12
      · have h12z : (b' : Int) - (a' : Int) ≤ 12 := by omega
        have CI := Lib.hid (CN.out dk wr a' b' hds hab' hb' HK.out)
        have HF := Lib.hid (show Sort.insertionSort (ltOf cf) dk a' b' = pdq (ltOf cf) d a b lim true true by rw [← HE.out, pdq_small h12])
        clear HE HB HK
        go_wp2_with (go_at_fn 95; refine CI.out.mono ?_; rintro e w1 ⟨rfl, hw1⟩)
        (try simp only [Exit.inBlock, Exit.then])
        refine bodyPost_ret (results_none rfl _ _ _) rfl ?_
        refine ⟨rfl, ?_⟩
        rw [← HF.out]
        exact hw1
      · have h12z : ¬ ((b' : Int) - (a' : Int) ≤ 12) := by omega
        by_cases hl0 : li = 0
        · subst hl0
          have CI := Lib.hid (CH.out dk wr a' b' hds hab' hb' HK.out)
          have HF := Lib.hid (show Sort.heapSort (ltOf cf) dk a' b' = pdq (ltOf cf) d a b lim true true by rw [← HE.out, pdq_heap h12 rfl])
          clear HE HB HK
          go_wp2_with (go_at_fn 96; refine CI.out.mono ?_; rintro e w1 ⟨rfl, hw1⟩)
          (try simp only [Exit.inBlock, Exit.then])
          refine bodyPost_ret (results_none rfl _ _ _) rfl ?_
          refine ⟨rfl, ?_⟩
          rw [← HF.out]
          exact hw1
        · have hl0z : ¬ ((li : Int) = 0) := by omega
          obtain ⟨d1, l1, p, hi, d3, dn, Q⟩ := rnd_ex HO.out wb wp h12 (show b' - a' < 50 by omega) hl0 (show b' ≤ dk.size by omega) HB.out
          have p1 := Q.p1
          have p2 := Q.p2
          have hll := Q.ll
          have hs1 : d1.size = d0.size := Q.s1.trans hds
          have hs3 : d3.size = d0.size := Q.s3.trans hds
          have HQ := Lib.hid Q
          clear Q HB
          go_upto_if 39 with fail
          go_cut [3] from 21 (fun s3 wc => s3 = .int .i64 l1 ∧ Hid (SW enc w0 blk off d1 wc))
          case first =>
            cases wb
            · obtain ⟨e1, e2⟩ := HQ.out.n rfl
              have CI := Lib.hid (CB.out dk wr a' b' hds (by omega) hb' HK.out)
              rw [← e1] at CI
              have e3 : (li : Int) - 1 = (l1 : Int) := by omega
              clear e1 e2 HK
              go_wp2_with (go_at_fn 97; refine CI.out.mono ?_; rintro e w1 ⟨rfl, hw1⟩)
              go_meet
              case rel => exact ⟨by first | rfl | (rw [e3]), hw1⟩
            · obtain ⟨e1, e2⟩ := HQ.out.y rfl
              have HK1 : Hid (SW enc w0 blk off d1 wr) := Lib.hid (by rw [e1]; exact HK.out)
              have e3 : (li : Int) = (l1 : Int) := by omega
              clear e1 e2 HK
              go_wp2_with fail
              go_meet
              case rel => exact ⟨by first | rfl | (rw [e3]), HK1⟩
          case rest =>
            clear HK
            obtain ⟨rfl, HK⟩ := hcut
            have CI := Lib.hid (CP.out d1 wc a' b' hs1 (by omega) (by omega) hb' HK.out)
            rw [HQ.out.c.1, HQ.out.c.2] at CI
            clear HK
            obtain ⟨hc, hhc⟩ : ∃ hc : Int, hc = if hi then 1 else 0 := ⟨_, rfl⟩
            rw [← hhc] at CI
            have hc2 : ¬ (hc = 2) := by rw [hhc]; cases hi <;> simp
            have HHC := Lib.hid hhc
            clear hhc
            go_upto_if 56 with (go_at_fn 98; refine CI.out.mono ?_; rintro e w2 ⟨rfl, hK2⟩)
            have HK := Lib.hid hK2
            clear hK2 CI
            go_upto_region 15 with fail
            go_cut [14, 75] from 21 (fun s12 s68 wx => s12 = .int .i64 hc ∧ s68 = .bool (wb && wp && hi) ∧ wx = w2)
            case first =>
              have hhc := HHC.out
              cases wb <;> cases wp <;> cases hi <;>
                (subst hhc
                 go_wp2_with fail
                 go_meet
                 exact ⟨by simp, by simp, rfl⟩)
            case rest =>
              obtain ⟨rfl, rfl, rfl⟩ := hcut
              go_upto_if 75 with fail
              go_cut [] from 21 (fun wx => dn = false ∧ Hid (SW enc w0 blk off d3 wx))
              case first =>
                cases h68 : (wb && wp && hi)
                · obtain ⟨e1, e2⟩ := HQ.out.np h68
                  have HK3 := Lib.hid (show SW enc w0 blk off d3 _ by rw [e1]; exact HK.out)
                  have HE2 := Lib.hid e2
                  clear e1 e2 HK
                  go_wp2_with fail
                  go_meet
                  case rel => exact ⟨HE2.out, HK3⟩
                · have e1 := HQ.out.pi h68
                  have CI := Lib.hid (CQ.out d1 _ a' b' hs1 (by omega) (by omega) hb' HK.out)
                  rw [e1] at CI
                  have hfin := HQ.out.fin
                  clear e1 HK
                  cases dn
                  · clear hfin
                    go_wp2_with (go_at_fn 100; refine CI.out.mono ?_; rintro e w4 ⟨rfl, hw4⟩)
                    go_meet
                    exact ⟨by first | rfl | trivial, hw4⟩
                  · have HD := Lib.hid (hfin rfl)
                    clear hfin
                    go_wp2_with (go_at_fn 100; refine CI.out.mono ?_; rintro e w4 ⟨rfl, hw4⟩)
                    (try simp only [Exit.inBlock, Exit.then])
                    refine bodyPost_ret (results_none rfl _ _ _) rfl ?_
                    refine ⟨rfl, ?_⟩
                    rw [← HE.out, HD.out]
                    exact hw4
              case rest =>
                clear HK
                obtain ⟨hdn, HK⟩ := hcut
                have HQE := Lib.hid (HQ.out.eq hdn)
                have HQP := Lib.hid (HQ.out.pt hdn)
                clear HQ hdn
                by_cases ha0 : a' = 0
                · have HP := Lib.hid (HQP.out (.inl ha0))
                  clear HQP HQE
                  have ha0z : decide ((a' : Int) > 0) = false := decide_eq_false (by omega)
                  have hn0 : ¬ (0 < a') := by omega
                  have hn0d : decide (0 < a') = false := decide_eq_false hn0
                  have hn0z : decide ((0 : Int) < (a' : Int)) = false := decide_eq_false (by omega)
                  clear ha0
                  go_wp2_with fail; go_big_region_o; have HK2 := Lib.hid HK.out.drew; clear HK; have HK := HK2; clear HK2; generalize World.drew wc = w6 at HK ⊢
                  (obtain ⟨mid, ap, d4, hx⟩ : ∃ mid ap d4, Sort.partition (ltOf cf) d3 a' b' p = (mid, ap, d4) := ⟨_, _, _, rfl⟩); (obtain ⟨r1, r2, r3, r4, r5, rL, rR⟩ := HP.out mid ap d4 hx); (have HL := Lib.hid rL); (have HRR := Lib.hid rR); (have HB4 := Lib.hid r4); (have HB5 := Lib.hid r5); (have CPT := Lib.hid (CT.out d3 w6 a' b' p hs3 p1 p2 hb' HK.out)); (rw [hx] at CPT); (clear hx rL rR r4 r5 HK HP); (go_upto_if 125 with (go_at_fn 102; refine CPT.out.mono ?_; rintro e w7 ⟨rfl, hK7⟩)); (have HK7 := Lib.hid hK7); (clear hK7 CPT); (by_cases h4 : mid - a' < b' - mid); (case' pos => (have h4z : (mid : Int) - (a' : Int) < (b' : Int) - (mid : Int) := by omega); (obtain ⟨t1, t2, t3⟩ := HL.out h4); (have HT2 := Lib.hid t2); (have HT3 := Lib.hid (t3.trans HE.out)); (have CI := Lib.hid (HIH.out a' mid l1 d4 w7 (by omega) (r3.trans hds) HK7.out r1 (by omega) (by omega) HB4.out)); (clear t2 t3 HL HRR HB4 HB5 HK7 HE); (go_wp2_with (go_at_fn 82; refine CI.out.mono ?_; rintro e w8 ⟨rfl, hK8⟩)); (go_roundg (b' - (mid + 1))); (case measure => omega); (case rel => exact ⟨mid + 1, b', l1, decide (mid - a' ≥ (b' - a') / 8), ap, _, by simp, rfl, rfl, congrArg Value.bool (eighth (by omega) (by omega)), rfl, by omega, by omega, Nat.le_refl _, by omega, by omega, t1.trans hds, HT2, hK8, HT3⟩)); (case' neg => (have h4z : ¬ ((mid : Int) - (a' : Int) < (b' : Int) - (mid : Int)) := by omega); (obtain ⟨t1, t2, t3⟩ := HRR.out h4); (have HT2 := Lib.hid t2); (have HT3 := Lib.hid (t3.trans HE.out)); (have CI := Lib.hid (HIH.out (mid + 1) b' l1 d4 w7 (by omega) (r3.trans hds) HK7.out (by omega) (by omega) (by omega) HB5.out)); (rw [show ((mid + 1 : Nat) : Int) = (mid : Int) + 1 by omega] at CI); (clear t2 t3 HL HRR HB4 HB5 HK7 HE); (go_wp2_with (go_at_fn 82; refine CI.out.mono ?_; rintro e w8 ⟨rfl, hK8⟩)); (go_roundg (mid - a')); (case measure => omega); (case rel => exact ⟨a', mid, l1, decide (b' - mid ≥ (b' - a') / 8), ap, _, rfl, rfl, rfl, congrArg Value.bool (eighth (by omega) (by omega)), rfl, by omega, by omega, Nat.le_refl _, by omega, by omega, t1.trans hds, HT2, hK8, HT3⟩))
                · obtain ⟨P, hP⟩ : ∃ P : Int, (a' : Int) - 1 = P := ⟨_, rfl⟩
                  have hw1 : IntKind.i64.wrap ((a' : Int) - 1) = P := by rw [IntKind.wrap_i64]; omega
                  have ha0z : decide ((a' : Int) > 0) = true := decide_eq_true (by omega)
                  have hn0 : 0 < a' := by omega
                  have hn0z : decide ((0 : Int) < (a' : Int)) = true := decide_eq_true (by omega)
                  cases hL : ltOf cf d3[a' - 1]! d3[p]! with
                  | true =>
                    have HP := Lib.hid (HQP.out (.inr hL))
                    clear HQP HQE
                    obtain ⟨it, hit⟩ : ∃ zq : Nat, zq = a' - 1 := ⟨_, rfl⟩; obtain ⟨jt, hjt⟩ : ∃ zq : Nat, zq = p := ⟨_, rfl⟩; have eat : (P : Int).toNat = it := (by omega); have pat : (0 : Int) ≤ P := (by omega); have bat : (P : Int) < (d0.size : Int) := (by omega); have rat : IntKind.i64.wrap (P) = P := (by rw [IntKind.wrap_i64]; omega); have ect : ((p : Int) : Int).toNat = jt := (by omega); have pct : (0 : Int) ≤ (p : Int) := (by omega); have bct : ((p : Int) : Int) < (d0.size : Int) := (by omega); have rct : IntKind.i64.wrap ((p : Int)) = (p : Int) := (by rw [IntKind.wrap_i64]; omega); obtain ⟨xt, hxt⟩ : ∃ zx, zx = d3[a' - 1]! := ⟨_, rfl⟩; obtain ⟨yt, hyt⟩ : ∃ zx, zx = d3[p]! := ⟨_, rfl⟩; have lat := HK.out.cl HR.out (by omega) (a' - 1) (by omega); have lbt := HK.out.cl HR.out (by omega) (p) (by omega); rw [← hxt, ← hit] at lat; rw [← hyt, ← hjt] at lbt; have hct := fun n' os' => HK.out.cmpM HC.out (by omega) xt yt n' os'; have hdt : decide (cf xt yt < 0) = true := (by rw [hxt, hyt]; exact hL); clear hxt hyt hit hjt; generalize cf xt yt = cvt at hct hdt
                    clear hL hP
                    go_wp2_with fail; go_quiet_grown (first | (go_at_fn g; refine Calls.grown_of (hct _ _))); have HK2 := Lib.hid (HK.out.grown nq osq); clear HK lat lbt hct; have HK := HK2; clear HK2; generalize grow (World.drewN wc nq) osq = w6 at HK ⊢; clear nq osq eat ect pat bat rat pct bct rct
                    clear hw1
                    (obtain ⟨mid, ap, d4, hx⟩ : ∃ mid ap d4, Sort.partition (ltOf cf) d3 a' b' p = (mid, ap, d4) := ⟨_, _, _, rfl⟩); (obtain ⟨r1, r2, r3, r4, r5, rL, rR⟩ := HP.out mid ap d4 hx); (have HL := Lib.hid rL); (have HRR := Lib.hid rR); (have HB4 := Lib.hid r4); (have HB5 := Lib.hid r5); (have CPT := Lib.hid (CT.out d3 w6 a' b' p hs3 p1 p2 hb' HK.out)); (rw [hx] at CPT); (clear hx rL rR r4 r5 HK HP); (go_upto_if 125 with (go_at_fn 102; refine CPT.out.mono ?_; rintro e w7 ⟨rfl, hK7⟩)); (have HK7 := Lib.hid hK7); (clear hK7 CPT); (by_cases h4 : mid - a' < b' - mid); (case' pos => (have h4z : (mid : Int) - (a' : Int) < (b' : Int) - (mid : Int) := by omega); (obtain ⟨t1, t2, t3⟩ := HL.out h4); (have HT2 := Lib.hid t2); (have HT3 := Lib.hid (t3.trans HE.out)); (have CI := Lib.hid (HIH.out a' mid l1 d4 w7 (by omega) (r3.trans hds) HK7.out r1 (by omega) (by omega) HB4.out)); (clear t2 t3 HL HRR HB4 HB5 HK7 HE); (go_wp2_with (go_at_fn 82; refine CI.out.mono ?_; rintro e w8 ⟨rfl, hK8⟩)); (go_roundg (b' - (mid + 1))); (case measure => omega); (case rel => exact ⟨mid + 1, b', l1, decide (mid - a' ≥ (b' - a') / 8), ap, _, by simp, rfl, rfl, congrArg Value.bool (eighth (by omega) (by omega)), rfl, by omega, by omega, Nat.le_refl _, by omega, by omega, t1.trans hds, HT2, hK8, HT3⟩)); (case' neg => (have h4z : ¬ ((mid : Int) - (a' : Int) < (b' : Int) - (mid : Int)) := by omega); (obtain ⟨t1, t2, t3⟩ := HRR.out h4); (have HT2 := Lib.hid t2); (have HT3 := Lib.hid (t3.trans HE.out)); (have CI := Lib.hid (HIH.out (mid + 1) b' l1 d4 w7 (by omega) (r3.trans hds) HK7.out (by omega) (by omega) (by omega) HB5.out)); (rw [show ((mid + 1 : Nat) : Int) = (mid : Int) + 1 by omega] at CI); (clear t2 t3 HL HRR HB4 HB5 HK7 HE); (go_wp2_with (go_at_fn 82; refine CI.out.mono ?_; rintro e w8 ⟨rfl, hK8⟩)); (go_roundg (mid - a')); (case measure => omega); (case rel => exact ⟨a', mid, l1, decide (b' - mid ≥ (b' - a') / 8), ap, _, rfl, rfl, rfl, congrArg Value.bool (eighth (by omega) (by omega)), rfl, by omega, by omega, Nat.le_refl _, by omega, by omega, t1.trans hds, HT2, hK8, HT3⟩))
                  | false =>
                    obtain ⟨mid, d4, hx⟩ : ∃ mid d4, Sort.partitionEqual (ltOf cf) d3 a' b' p = (mid, d4) := ⟨_, _, rfl⟩
                    obtain ⟨r1, r2, r3, r4, r5⟩ := HQE.out hn0 hL mid d4 hx
                    have HB4 := Lib.hid r4
                    have HE4 := Lib.hid (r5.trans HE.out)
                    have HX := Lib.hid hx
                    clear HQP HQE r4 r5 hx HE
                    obtain ⟨it, hit⟩ : ∃ zq : Nat, zq = a' - 1 := ⟨_, rfl⟩; obtain ⟨jt, hjt⟩ : ∃ zq : Nat, zq = p := ⟨_, rfl⟩; have eat : (P : Int).toNat = it := (by omega); have pat : (0 : Int) ≤ P := (by omega); have bat : (P : Int) < (d0.size : Int) := (by omega); have rat : IntKind.i64.wrap (P) = P := (by rw [IntKind.wrap_i64]; omega); have ect : ((p : Int) : Int).toNat = jt := (by omega); have pct : (0 : Int) ≤ (p : Int) := (by omega); have bct : ((p : Int) : Int) < (d0.size : Int) := (by omega); have rct : IntKind.i64.wrap ((p : Int)) = (p : Int) := (by rw [IntKind.wrap_i64]; omega); obtain ⟨xt, hxt⟩ : ∃ zx, zx = d3[a' - 1]! := ⟨_, rfl⟩; obtain ⟨yt, hyt⟩ : ∃ zx, zx = d3[p]! := ⟨_, rfl⟩; have lat := HK.out.cl HR.out (by omega) (a' - 1) (by omega); have lbt := HK.out.cl HR.out (by omega) (p) (by omega); rw [← hxt, ← hit] at lat; rw [← hyt, ← hjt] at lbt; have hct := fun n' os' => HK.out.cmpM HC.out (by omega) xt yt n' os'; have hdt : decide (cf xt yt < 0) = false := (by rw [hxt, hyt]; exact hL); clear hxt hyt hit hjt; generalize cf xt yt = cvt at hct hdt
                    clear hL hP
                    go_wp2_with fail; go_quiet_grown (first | (go_at_fn g; refine Calls.grown_of (hct _ _))); have HK2 := Lib.hid (HK.out.grown nq osq); clear HK lat lbt hct; have HK := HK2; clear HK2; generalize grow (World.drewN wc nq) osq = w6 at HK ⊢; clear nq osq eat ect pat bat rat pct bct rct
                    clear hw1
                    have CI := Lib.hid (CE.out d3 w6 a' b' p hs3 p1 p2 hb' HK.out)
                    rw [HX.out] at CI
                    clear HX HK
                    go_wp2_with (go_at_fn 101; refine CI.out.mono ?_; rintro e w7 ⟨rfl, hK7⟩)
                    go_roundg (b' - mid)
                    case measure => omega
                    case rel => exact ⟨mid, b', l1, wb, wp, d4, rfl, rfl, rfl, rfl, rfl, r2, hb', Nat.le_refl _, by omega, by omega, r3.trans hds, HB4, hK7, HE4⟩

set_option maxHeartbeats 2000000 in
set_option maxRecDepth 1000000 in
theorem msort_any (h1 : OneCell enc) (cf : β → β → Int) (hO : SWO (ltOf cf)) (g : Nat) (rv : Value) (eg : ∀ args w, (callFunc g args).run Tryd.prog w = .ok (.enter g args) w) (hC : CmpM Tryd.prog g rv enc cf blk off d.size W)
    (hH : Holds enc W blk off d) (hblk : blk < W.heap.size) (hsz : d.size < 50) (cap : Nat) :
    Calls Tryd.prog 50 #[.slice (some ⟨blk, off, none⟩) d.size cap, (.func (.func g) #[rv] #[])] W fun e w' =>
      e = .returned (.tuple #[]) ∧ SW enc W blk off (pdq (ltOf cf) d 0 d.size (Lib.bitLen d.size) true true) w' := by
  have e14 : ∀ args w, (callFunc 82 args).run Tryd.prog w = .ok (.enter 82 args) w := enters_of Tryd.func82 (by kernel_rfl) rfl
  have L := Tryd.lay_sort_f50
  have e15 : ∀ args w, (callFunc 83 args).run Tryd.prog w = .ok (.enter 83 args) w := enters_of Tryd.func83 (by kernel_rfl) rfl
  have CL := Lib.hid (fun (X : World) => show Calls Tryd.prog 83 #[.int .u64 (d.size : Int)] X fun e w' => e = .returned (.int .i64 (Lib.bitLen d.size : Nat)) ∧ w' = X from Any.bits_Len (SlLaysF0.n15.bits (P := Tryd.prog) (ρ := Tryd.lay_sort_f50_ren) { L with }) d.size X (by omega) (by omega))
  have R : Row1 enc W blk off d := ⟨h1, hH, hblk⟩
  have hbl : Lib.bitLen d.size ≤ 1000000 := Nat.le_trans (Lib.bitLen_le8 ⟨d.size, by omega⟩) (by decide)
  have HI := Lib.hid (pdqM_any R cf hO g rv eg hC hsz cap (d.size + 1) 0 d.size (Lib.bitLen d.size) d W (by omega) rfl (SW.start hH) (Nat.zero_le _) (Nat.le_refl _) hbl (.inl rfl))
  generalize Lib.bitLen d.size = bl at *
  have hle : (d.size : Int) < 50 := by omega
  clear hC R hH hblk L
  go_enter Tryd.func50, Tryd.ntmps50
  go_wp2_with fail
  refine (CL.out _).mono ?_
  rintro e w' ⟨rfl, rfl⟩
  go_wp2_with fail
  refine HI.out.mono ?_
  rintro e w' ⟨rfl, hK⟩
  go_wp2_with fail
  go_end0
  exact ⟨rfl, hK⟩
end
end Go.Proofs.YtlnnbkpcnhlfcaaDoor
