/- Best's closure, walked: it tries every further combination. -/
import Derived.Test.YtelchfijalkibaaGreatDoorJDisBest0
import Derived.Deep.DeepCutAuto
set_option linter.unusedSimpArgs false
set_option linter.unusedSimpArgs false
namespace Go.Proofs.YtelchfijalkibaaGreatDoor
open Go.RowKit Go.Lib

theorem asc_len : ∀ (c : List Nat) (a m : Nat), c.Pairwise (· < ·) → (∀ i ∈ c, a ≤ i ∧ i < m) → c.length = 0 ∨ c.length + a ≤ m
  | [], _, _, _, _ => .inl rfl
  | x :: c, a, m, h, hb => by
    right
    have hx := hb x (by simp)
    rcases asc_len c (a + 1) m (List.pairwise_cons.1 h).2 (fun i hi => ⟨by have := (List.pairwise_cons.1 h).1 i hi; omega, (hb i (by simp [hi])).2⟩) with q | q
    · simp [q]; omega
    · simp; omega
theorem Cand.len {l : List Dc} {c : List Nat} (h : Cand l c) : c.length ≤ l.length := by
  rcases asc_len c 0 l.length h.asc (fun i hi => ⟨Nat.zero_le _, h.lt i hi⟩) with q | q <;> omega
theorem amtN_bnd {l : List Dc} (h : LOk l) {n : Int} (h0 : 0 ≤ n) (i : Nat) : 0 ≤ amtN l n i ∧ amtN l n i ≤ n := by
  unfold amtN
  split
  · rename_i x hx
    exact amtV_bnd (h.mem (List.mem_of_getElem? hx)) h0
  · omega
theorem sumA_bnd {l : List Dc} (h : LOk l) {n : Int} (h0 : 0 ≤ n) (h1 : n ≤ 1125899906842624) (c : List Nat) : 0 ≤ sumA l n c ∧ sumA l n c ≤ c.length * 1125899906842624 := by
  induction c with
  | nil => simp [sumA]
  | cons i c ih =>
    have := amtN_bnd h h0 i
    simp only [sumA, List.length_cons]
    omega
/-- what the closure leaves -/
def AddP (lA : Option Addr) (lc : Nat) (l : List Dc) (n : Int) (Lb Cb p : Nat) (W : World) (A : Option Addr) (c : List Nat) (b : List Nat) (fr : Nat) (W' : World) : Prop :=
  ∃ A' cap' bA' bcap' b', BSt lA lc l n Lb Cb p W' A' cap' c bA' bcap' b' ∧ AddR l n c fr b b' ∧ Rel p A W A' W'
/-- behind the test: best is now the better one -/
def Test (lA : Option Addr) (lc : Nat) (l : List Dc) (n : Int) (Lb Cb p : Nat) (W : World) (A : Option Addr) (cap : Nat) (c : List Nat) (b : List Nat) (W' : World) : Prop :=
  ∃ bA' bcap' b', BSt lA lc l n Lb Cb p W' A cap c bA' bcap' b' ∧ Cand l b' ∧ betB l n b b' = false ∧ betB l n c b' = false ∧ Rel p A W A W'
theorem BSt.hk {lA : Option Addr} {lc : Nat} {l : List Dc} {n : Int} {Lb Cb p : Nat} {W W' : World} {A : Option Addr} {cap : Nat} {c : List Nat} {bA : Option Addr} {bcap : Nat} {b : List Nat} (h : BSt lA lc l n Lb Cb p W A cap c bA bcap b)
    (hf : ∀ b, b < W.heap.size → (∀ g, A = some ⟨g, 0, none⟩ → b ≠ g) → W'.heap[b]? = W.heap[b]?) : ∀ g, bA = some ⟨g, 0, none⟩ → W'.heap[g]? = W.heap[g]? := by
  intro g hg
  refine hf g ?_ fun g' hA e => ?_
  · rcases h.ob.form with ⟨q, _⟩ | ⟨g2, q, _, hlt⟩
    · rw [q] at hg; cases hg
    · rw [q] at hg; injection hg with hg; injection hg with hg; omega
  · subst e; exact h.ne g hA hg
theorem Rel.app {p : Nat} {A A' : Option Addr} {W W' : World} (hb : Below (p + 4) W W') (hf : ∀ b, b < W.heap.size → (∀ g, A = some ⟨g, 0, none⟩ → b ≠ g) → W'.heap[b]? = W.heap[b]?) (hl : ∀ g, A' = some ⟨g, 0, none⟩ → A = some ⟨g, 0, none⟩ ∨ W.heap.size ≤ g) (v : Value) :
    Rel p A W A' (W'.setCell ⟨p + 1, 0, none⟩ v) := by
  refine ⟨(hb.mono (by omega)).setCell (p := ⟨p + 1, 0, none⟩) (by show p ≤ p + 1; omega) v, fun k h1 h2 h3 => ?_, hl⟩
  refine (Below.heap_setCell _ _ _ _ (by show k ≠ p + 1; omega)).trans (hf k h2 fun g hA e => ?_)
  subst e
  exact h3 hA
/-- the number in a box -/
def boxI (v : Value) (w : World) : Nat := match v with
  | .pointer (some a) => match w.cell? a with
    | some x => (RowKit.intOf x).toNat
    | none => 0
  | _ => 0
theorem boxI_at {w : World} {b k : Nat} (h : w.cell? ⟨b, 0, none⟩ = some (.int .i64 k)) : boxI (.pointer (some ⟨b, 0, none⟩)) w = k := by
  unfold boxI
  simp only [h]
  simp [RowKit.intOf]
def LpR (lA : Option Addr) (lc : Nat) (l : List Dc) (n : Int) (Lb Cb p : Nat) (W : World) (A : Option Addr) (c b : List Nat) (fr : Nat) (s11 : Value) (wr : World) : Prop :=
  ∃ k ib A2 cap2 bA2 bcap2 b2, fr ≤ k ∧ k ≤ l.length ∧ s11 = .pointer (some ⟨ib, 0, none⟩) ∧ Blk wr ib #[.int .i64 (k : Nat)] 3 ∧ p + 4 ≤ ib ∧ A2 ≠ some ⟨ib, 0, none⟩ ∧ BSt lA lc l n Lb Cb p wr A2 cap2 c bA2 bcap2 b2 ∧ LoopR l n c fr k b b2 ∧ Rel p A W A2 wr
set_option maxRecDepth 100000 in
set_option maxHeartbeats 32000000 in
theorem badd_any {lA : Option Addr} {lc : Nat} {l : List Dc} {n : Int} {Lb Cb p : Nat} (hok : LOk l) (h0 : 0 ≤ n) (h1 : n ≤ 1125899906842624) :
    ∀ (N fr : Nat), l.length - fr < N → ∀ (W : World) (A : Option Addr) (cap : Nat) (c : List Nat) (bA : Option Addr) (bcap : Nat) (b : List Nat),
      BSt lA lc l n Lb Cb p W A cap c bA bcap b → Cand l b → Cand l c → (∀ k ∈ c, k < fr) → fr ≤ l.length →
      Calls Tryz.prog 84 #[.int .i64 fr, .int .i64 (sumA l n c), .pointer (some ⟨Cb, 0, none⟩), .pointer (some ⟨p + 2, 0, none⟩), .pointer (some ⟨p + 1, 0, none⟩), .pointer (some ⟨p, 0, none⟩), .pointer (some ⟨Lb, 0, none⟩), .pointer (some ⟨p + 3, 0, none⟩)] W fun e w' => e = .returned (.tuple #[]) ∧ AddP lA lc l n Lb Cb p W A c b fr w' := by
  intro N
  induction N with
  | zero => intro fr h; omega
  | succ N ih =>
  intro fr hN W A cap c bA bcap b hS hCb hCc hlt hfr
  have IH := Lib.hid ih
  have HN := Lib.hid hN
  have HS := Lib.hid hS
  have HCb := Lib.hid hCb
  have HCc := Lib.hid hCc
  have HLT := Lib.hid hlt
  have HF := Lib.hid hfr
  have HOK := Lib.hid hok
  have hsb := sumA_bnd hok h0 h1 c
  have hcl := hCc.len
  have HF12 : Hid (l.length ≤ 12) := Lib.hid hok.few
  have hbl := hCb.len
  have hfew := hok.few
  have HCL : Hid (c.length ≤ 12) := Lib.hid (by omega)
  have HBL : Hid (b.length ≤ 12) := Lib.hid (by omega)
  have hr0 : red l n c = if n < sumA l n c then n else sumA l n c := rfl
  have HR := Lib.hid hr0
  have hs0 := hsb.1
  have hs1 : sumA l n c ≤ 13510798882111488 := by omega
  have HSM : Hid (sumA l n c = sumA l n c) := Lib.hid rfl
  clear ih hN hS hCb hCc hlt hfr hok hr0 hsb hcl hbl hfew
  obtain ⟨m, hm⟩ : ∃ m, red l n b = m := ⟨_, rfl⟩
  obtain ⟨r, hr⟩ : ∃ r, red l n c = r := ⟨_, rfl⟩
  obtain ⟨sm, hsm⟩ : ∃ sm, sumA l n c = sm := ⟨_, rfl⟩
  have cC : W.cell? ⟨Cb, 0, none⟩ = some (.int .i64 n) := HS.out.hc.cell 0 rfl
  have cM : W.cell? ⟨p + 2, 0, none⟩ = some (.int .i64 m) := by rw [← hm]; exact HS.out.hm.cell 0 rfl
  have cN : W.cell? ⟨p + 1, 0, none⟩ = some (.slice A c.length cap) := HS.out.hn.cell 0 rfl
  have cB : W.cell? ⟨p, 0, none⟩ = some (.slice bA b.length bcap) := HS.out.hb.cell 0 rfl
  have HV : Hid (r = if n < sm then n else sm) := Lib.hid (by rw [← hr, ← hsm]; exact HR.out)
  have HT : Hid (betB l n c b = (decide (m < r) || (decide (r = m) && (decide (c.length < b.length) || (decide (c.length = b.length) && lexN c b))))) := Lib.hid (by unfold betB; rw [hm, hr])
  have HMM := Lib.hid hm
  have HRR := Lib.hid hr
  have HSS := Lib.hid hsm
  rw [hsm] at hs0 hs1 ⊢
  clear hm hr hsm HR HSM
  have CP := Lib.hid (fun (hl : c.length = b.length) => compare_any cap bcap hl (by have := HCL.out; omega) HS.out.rn HS.out.rb)
  have CL := Lib.hid (cloneN_any cap HS.out.rn (fun e => by rcases HS.out.on.form with ⟨_, q, _⟩ | ⟨g, q, _⟩; (exact q); (rw [e] at q; cases q)) (by have := HCL.out; omega))
  have hmin : min sm n = r := by rw [HV.out]; split <;> omega
  go_enter Tryz.func84, Tryz.ntmps84
  go_upto_region 1 with fail
  go_cut [42] (fun s wx => s = .bool (betB l n c b) ∧ wx = W)
  case first =>
    rcases Int.lt_trichotomy m r with a1 | a1 | a1
    · have R := Lib.hid (HT.out.trans (show _ = true by simp [a1]))
      go_wp2_with fail
      go_meet
      exact ⟨by rw [R.out], by first | rfl | trivial⟩
    · subst a1
      have a2 : ¬ m < m := by omega
      rcases Nat.lt_trichotomy c.length b.length with a3 | a3 | a3
      · have a4 : (c.length : Int) < (b.length : Int) := by omega
        have R := Lib.hid (HT.out.trans (show _ = true by simp [a3]))
        clear a3
        go_wp2_with fail
        go_meet
        exact ⟨by rw [R.out], by first | rfl | trivial⟩
      · have a4 : ¬ (c.length : Int) < (b.length : Int) := by omega
        have a5 : ((c.length : Int) == (b.length : Int)) = true := by rw [a3]; simp
        have R := Lib.hid (HT.out.trans (show _ = lexN c b by simp [a3]))
        have CPX := Lib.hid (CP.out a3)
        clear a3
        go_wp2_with fail
        refine CPX.out.mono ?_
        rintro e w' ⟨⟨q, rfl, hq⟩, hw'⟩
        rw [hw']
        clear hw' w'
        have R2 := Lib.hid (R.out.trans hq.symm)
        clear hq
        go_wp2_with fail
        go_meet
        exact ⟨by rw [R2.out], by first | rfl | trivial⟩
      · have a4 : ¬ (c.length : Int) < (b.length : Int) := by omega
        have a5 : ((c.length : Int) == (b.length : Int)) = false := by rw [beq_eq_false_iff_ne]; omega
        have R := Lib.hid (HT.out.trans (show _ = false by simp; omega))
        clear a3
        go_wp2_with fail
        go_meet
        exact ⟨by rw [R.out], by first | rfl | trivial⟩
    · have a2 : ¬ m < r := by omega
      have a3 : (r == m) = false := by rw [beq_eq_false_iff_ne]; omega
      have R := Lib.hid (HT.out.trans (show _ = false by simp [a2]; omega))
      go_wp2_with fail
      go_meet
      exact ⟨by rw [R.out], by first | rfl | trivial⟩
  case rest =>
    obtain ⟨rfl, hw⟩ := hcut
    have hw := hw.symm
    subst hw
    clear HT CP cB
    go_upto_if 42 with fail
    go_cut [] (fun wx => Test lA lc l n Lb Cb p W A cap c b wx)
    case first =>
      cases ht : betB l n c b
      · have R := Lib.hid ht
        clear ht
        go_wp2_with fail
        go_meet
        exact ⟨bA, bcap, b, HS.out, HCb.out, betB_irr l n b, R.out, Rel.refl _ _ _⟩
      · have R := Lib.hid ht
        clear ht
        go_wp2_with fail
        refine CL.out.mono ?_
        rintro e W2 ⟨A2, c2, rfl, hown, hbn⟩
        have HO := Lib.hid hown
        have HB := Lib.hid hbn
        have y0 : W2.cell? ⟨p, 0, none⟩ = some (.slice bA b.length bcap) := (HS.out.keep hbn).hb.cell 0 rfl
        have y2 : W2.cell? ⟨p + 2, 0, none⟩ = some (.int .i64 (red l n b)) := (HS.out.keep hbn).hm.cell 0 rfl
        have f0 : W2.frozen? ⟨p, 0, none⟩ = false := (HS.out.keep hbn).hb.frozen 0
        have f2 : W2.frozen? ⟨p + 2, 0, none⟩ = false := (HS.out.keep hbn).hm.frozen 0
        clear hown hbn cM cN cC hmin
        go_wp2_with fail
        go_meet
        have HK := (Rel.of_below (A := A) (by have := HS.out.size; omega) HB.out).trans ((Rel.set (p := p) (j := p) (A := A) (W := W2) (Nat.le_refl _) (by omega) A (fun g h => .inl h) (.slice A2 c.length c2)).trans (Rel.set (p := p) (j := p + 2) (A := A) (by omega) (by omega) A (fun g h => .inl h) (.int .i64 r)))
        rw [← HRR.out] at HK ⊢
        exact ⟨A2, c2, c, HS.out.took HB.out HO.out, HCc.out, betB_asym R.out, betB_irr l n c, HK⟩
    case rest =>
      obtain ⟨bA1, bcap1, b1, hS1, hC1, ho1, hc1, hrel1⟩ := hcut
      have HS1 := Lib.hid hS1
      have HL1 := Lib.hid (LoopR.start fr hC1 ho1 hc1)
      have HR1 := Lib.hid hrel1
      clear hS1 hC1 ho1 hc1 hrel1 HS CL HV HMM HRR cC cM cN hmin
      obtain ⟨Y, hY⟩ : ∃ Y, wc.alloc (.cells #[.int .i64 fr] 3) = Y := ⟨_, rfl⟩
      have BY := Lib.hid (show Blk Y wc.heap.size #[.int .i64 fr] 3 by rw [← hY]; exact Blk.new wc _ _)
      have bY : Below wc.heap.size wc Y := by rw [← hY]; exact (Below.refl _ wc).al _
      have HY1 := Lib.hid (HS1.out.keep bY)
      have HRY := Lib.hid (HR1.out.trans (Rel.of_below (A := A) (by have := HS1.out.size; omega) bY))
      have HAN := Lib.hid (own_ne HS1.out.on (Nat.le_refl _))
      have HIB := Lib.hid HS1.out.size
      clear bY HS1 HR1
      go_wp2_with fail
      go_loopw [11] (fun s11 wr => LpR lA lc l n Lb Cb p W A c b fr s11 wr) (fun s11 wr => l.length - boxI s11 wr)
      case atStart => exact ⟨fr, wc.heap.size, A, cap, bA1, bcap1, b1, Nat.le_refl _, HF.out, rfl, BY.out, HIB.out, HAN.out, HY1.out, HL1.out, HRY.out⟩
      case round =>
        clear BY HY1 HRY HAN HIB HL1
        obtain ⟨k, ib, A2, cap2, bA2, bcap2, b2, hk0, hk1, rfl, hBI, hib, hAI, hS2, hL2, hR2⟩ := hrel
        have HE11 := Lib.hid (show boxI (.pointer (some ⟨ib, 0, none⟩)) wr = k from boxI_at (hBI.cell 0 rfl))
        have HBI := Lib.hid hBI
        have HIB := Lib.hid hib
        have HAI := Lib.hid hAI
        have HS2 := Lib.hid hS2
        have HL2 := Lib.hid hL2
        have HR2 := Lib.hid hR2
        have HK0 := Lib.hid hk0
        clear hBI hib hAI hS2 hL2 hR2 hk0
        have cI : wr.cell? ⟨ib, 0, none⟩ = some (.int .i64 k) := HBI.out.cell 0 rfl
        have cL : wr.cell? ⟨Lb, 0, none⟩ = some (.slice lA l.length lc) := HS2.out.hl.cell 0 rfl
        have cN : wr.cell? ⟨p + 1, 0, none⟩ = some (.slice A2 c.length cap2) := HS2.out.hn.cell 0 rfl
        by_cases hi : k < l.length
        · have i1 : (k : Int) < (l.length : Int) := by omega
          have eg := enters_of Tryz.func88 (by kernel_rfl) rfl
          have CH := Lib.hid (hasN_any cap2 (fun x => clashB l x k) 88 #[.pointer (some ⟨Lb, 0, none⟩), .pointer (some ⟨ib, 0, none⟩)] eg (by have := HCL.out; omega) HS2.out.rn (fun m x hx => clash_any lc (hr := HS2.out.rl) (W := wr.drewN m) cL cI (HCc.out.lt x hx) hi))
          have HI := Lib.hid hi
          have HKL := Lib.hid hk1
          clear eg hi hk1
          cases hcl : c.any (fun x => clashB l x k)
          · rw [hcl] at CH
            have HNO := Lib.hid hcl
            clear hcl
            go_wp2_with fail
            refine CH.out.mono ?_
            rintro e w' ⟨rfl, q, hw3⟩
            have bq : Below wr.heap.size wr w' := by rw [hw3]; exact below_drewN (Below.refl _ _) q
            clear hw3
            have HS3 := Lib.hid (HS2.out.keep bq)
            have HR3 := Lib.hid (HR2.out.trans (Rel.of_below (A := A2) (by have := HS2.out.size; omega) bq))
            have HBI3 := Lib.hid (HBI.out.below bq HBI.out.lt)
            obtain ⟨W3, rfl⟩ : ∃ W3, W3 = w' := ⟨_, rfl⟩
            have cI : W3.cell? ⟨ib, 0, none⟩ = some (.int .i64 k) := HBI3.out.cell 0 rfl
            have cL : W3.cell? ⟨Lb, 0, none⟩ = some (.slice lA l.length lc) := HS3.out.hl.cell 0 rfl
            have cN : W3.cell? ⟨p + 1, 0, none⟩ = some (.slice A2 c.length cap2) := HS3.out.hn.cell 0 rfl
            clear bq CH
            obtain ⟨xb, xo, x, hA, hxb, hx, hxc⟩ := HS3.out.rl.at_ HI.out
            subst hA
            have hsz : p + 4 ≤ W3.heap.size := HS3.out.size
            have f1 : W3.frozen? ⟨p + 1, 0, none⟩ = false := HS3.out.hn.frozen 0
            have hown := HS3.out.on
            have hbel := Below.refl (p + 4) W3
            have HX := Lib.hid hx
            have HXB := Lib.hid hxb
            have HXC := Lib.hid (And.intro (hxc 0 _ rfl) (And.intro (hxc 1 _ rfl) (And.intro (hxc 2 _ rfl) (And.intro (hxc 3 _ rfl) (And.intro (hxc 4 _ rfl) (And.intro (hxc 5 _ rfl) (And.intro (hxc 6 _ rfl) (And.intro (hxc 7 _ rfl) (And.intro (hxc 8 _ rfl) (hxc 9 _ rfl))))))))))
            have hclen : c.length ≤ 12 := HCL.out
            clear hx hxb hxc
            go_wp2_with ((at_builtin; refine wpList_app1a rfl (.tmp 56) (.tmp 58) tyN encN_ok rfl k rfl _ rfl (by simp) hown rfl (by first | rfl | simp) (by first | omega | (simp; omega)) (by first | omega | (simp; omega)) (by first | exact hbel.size | (have := hbel.size; omega)) ?_; intro A9 c9 w9 hown9 hb9 hs9 hf9 hl9; have hbel9 := hbel.trans hb9); have y1 : w9.cell? ⟨p + 1, 0, none⟩ = some (.slice A2 c.length cap2) := (hb9.cell (p := ⟨p + 1, 0, none⟩) (by show p + 1 < p + 4; omega)).trans cN; have f9 : w9.frozen? ⟨p + 1, 0, none⟩ = false := (hb9.frozen (p := ⟨p + 1, 0, none⟩) (by show p + 1 < p + 4; omega)).trans f1)
            obtain ⟨cc, hcc⟩ : ∃ cc, c ++ [k] = cc := ⟨_, rfl⟩
            have hlen : cc.length = c.length + 1 := by rw [← hcc]; simp
            have hs5 : BSt (some ⟨xb, xo, none⟩) lc l n Lb Cb p (w9.setCell ⟨p + 1, 0, none⟩ (.slice A9 (c.length + 1) c9)) A9 c9 cc bA2 bcap2 b2 := by
              have h := HS3.out.now hb9 (HS3.out.hk hf9) hown9 hl9
              rw [hcc, hlen] at h
              exact h
            have hr5 : Rel p A2 W3 A9 (w9.setCell ⟨p + 1, 0, none⟩ (.slice A9 (c.length + 1) c9)) := Rel.app hb9 hf9 hl9 _
            have hb5 : Blk (w9.setCell ⟨p + 1, 0, none⟩ (.slice A9 (c.length + 1) c9)) ib #[.int .i64 k] 3 := (hr5.fr ib HIB.out HBI3.out.lt HAI.out).trans HBI3.out
            have HAI9 : Hid (A9 ≠ some ⟨ib, 0, none⟩) := Lib.hid (fun e => by rcases hl9 ib e with q | q; (exact HAI.out q); (have := HBI3.out.lt; omega))
            have KS : Hid (∀ X A' cap' c' bA' bcap' b', BSt (some ⟨xb, xo, none⟩) lc l n Lb Cb p X A' cap' c' bA' bcap' b' → Blk X ib #[.int .i64 k] 3 → Below p W3 X → (fun w' : World => w'.cell? ⟨p + 3, 0, none⟩ = some (.func (.func 84) #[] #[.pointer (some ⟨Cb, 0, none⟩), .pointer (some ⟨p + 2, 0, none⟩), .pointer (some ⟨p + 1, 0, none⟩), .pointer (some ⟨p, 0, none⟩), .pointer (some ⟨Lb, 0, none⟩), .pointer (some ⟨p + 3, 0, none⟩)]) ∧ w'.cell? ⟨ib, 0, none⟩ = some (.int .i64 k) ∧ w'.cell? ⟨Lb, 0, none⟩ = some (.slice (some ⟨xb, xo, none⟩) l.length lc) ∧ w'.cell? ⟨Cb, 0, none⟩ = some (.int .i64 n) ∧ w'.cell? ⟨xb, xo + k * 10, none⟩ = some (.string x.nm) ∧ w'.cell? ⟨xb, xo + k * 10 + 1, none⟩ = some (.int .i64 x.kd) ∧ w'.cell? ⟨xb, xo + k * 10 + 2, none⟩ = some (.int .i64 x.am) ∧ w'.cell? ⟨xb, xo + k * 10 + 3, none⟩ = some (.string x.gr) ∧ w'.cell? ⟨xb, xo + k * 10 + 4, none⟩ = some (.string x.sy) ∧ w'.cell? ⟨xb, xo + k * 10 + 5, none⟩ = some (.int .i64 x.cl) ∧ w'.cell? ⟨xb, xo + k * 10 + 6, none⟩ = some (.int .i64 x.wd) ∧ w'.cell? ⟨xb, xo + k * 10 + 7, none⟩ = some (.int .i64 x.wf) ∧ w'.cell? ⟨xb, xo + k * 10 + 8, none⟩ = some (.int .i64 x.wt) ∧ w'.cell? ⟨xb, xo + k * 10 + 9, none⟩ = some (.int .i64 x.le)) X) := Lib.hid (fun X A' cap' c' bA' bcap' b' hS hB hX => by
              have tr : ∀ j (v : Value), W3.cell? ⟨xb, j, none⟩ = some v → X.cell? ⟨xb, j, none⟩ = some v := fun j v hv => (hX.cell (p := ⟨xb, j, none⟩) HXB.out).trans hv
              have hx := HXC.out
              exact ⟨hS.ha.cell 0 rfl, hB.cell 0 rfl, hS.hl.cell 0 rfl, hS.hc.cell 0 rfl, tr _ _ hx.1, tr _ _ hx.2.1, tr _ _ hx.2.2.1, tr _ _ hx.2.2.2.1, tr _ _ hx.2.2.2.2.1, tr _ _ hx.2.2.2.2.2.1, tr _ _ hx.2.2.2.2.2.2.1, tr _ _ hx.2.2.2.2.2.2.2.1, tr _ _ hx.2.2.2.2.2.2.2.2.1, tr _ _ hx.2.2.2.2.2.2.2.2.2⟩)
            have HCC := Lib.hid hcc
            have HLEN := Lib.hid hlen
            clear hcc hlen hown9 hb9 hf9 hl9 hs9 hbel9 f1 hown hbel y1 f9 cN cI cL
            generalize w9.setCell ⟨p + 1, 0, none⟩ (.slice A9 (c.length + 1) c9) = W5 at hs5 hr5 hb5 ⊢
            have HS5 := Lib.hid (hs5.keep (below_drewN (Below.refl _ _) 1))
            have HR5 := Lib.hid (hr5.trans (Rel.of_below (A := A9) (by have := hs5.size; omega) (below_drewN (Below.refl W5.heap.size W5) 1)))
            have HB5 : Hid (Blk (W5.drewN 1) ib #[.int .i64 k] 3) := Lib.hid hb5
            change Hid (BSt (some ⟨xb, xo, none⟩) lc l n Lb Cb p W5.drew A9 c9 cc bA2 bcap2 b2) at HS5
            change Hid (Rel p A2 W3 A9 W5.drew) at HR5
            change Hid (Blk W5.drew ib #[.int .i64 k] 3) at HB5
            have CAM := Lib.hid (fun (X : World) => pamount_any (HOK.out.mem (List.mem_of_getElem? HX.out)) h0 h1 X)
            have HAM : Hid (amtN l n k = amtV x n) := Lib.hid (by unfold amtN; rw [HX.out])
            have ham := amtV_bnd (HOK.out.mem (List.mem_of_getElem? HX.out)) h0
            obtain ⟨am, hame⟩ : ∃ am, amtV x n = am := ⟨_, rfl⟩
            rw [hame] at CAM HAM ham
            have hw1 : IntKind.i64.wrap ((k : Int) + 1) = (k : Int) + 1 := IntWalk.i64_in _ (by have := HI.out; have := HF12.out; omega)
            have hw2 : IntKind.i64.wrap (sm + am) = sm + am := IntWalk.i64_in _ (by omega)
            have hkn : decide (k < l.length) = true := decide_eq_true HI.out
            clear hame hs5 hr5 hb5
            refine wp_region_held_drew (S := (fun w' : World => w'.cell? ⟨p + 3, 0, none⟩ = some (.func (.func 84) #[] #[.pointer (some ⟨Cb, 0, none⟩), .pointer (some ⟨p + 2, 0, none⟩), .pointer (some ⟨p + 1, 0, none⟩), .pointer (some ⟨p, 0, none⟩), .pointer (some ⟨Lb, 0, none⟩), .pointer (some ⟨p + 3, 0, none⟩)]) ∧ w'.cell? ⟨ib, 0, none⟩ = some (.int .i64 k) ∧ w'.cell? ⟨Lb, 0, none⟩ = some (.slice (some ⟨xb, xo, none⟩) l.length lc) ∧ w'.cell? ⟨Cb, 0, none⟩ = some (.int .i64 n) ∧ w'.cell? ⟨xb, xo + k * 10, none⟩ = some (.string x.nm) ∧ w'.cell? ⟨xb, xo + k * 10 + 1, none⟩ = some (.int .i64 x.kd) ∧ w'.cell? ⟨xb, xo + k * 10 + 2, none⟩ = some (.int .i64 x.am) ∧ w'.cell? ⟨xb, xo + k * 10 + 3, none⟩ = some (.string x.gr) ∧ w'.cell? ⟨xb, xo + k * 10 + 4, none⟩ = some (.string x.sy) ∧ w'.cell? ⟨xb, xo + k * 10 + 5, none⟩ = some (.int .i64 x.cl) ∧ w'.cell? ⟨xb, xo + k * 10 + 6, none⟩ = some (.int .i64 x.wd) ∧ w'.cell? ⟨xb, xo + k * 10 + 7, none⟩ = some (.int .i64 x.wf) ∧ w'.cell? ⟨xb, xo + k * 10 + 8, none⟩ = some (.int .i64 x.wt) ∧ w'.cell? ⟨xb, xo + k * 10 + 9, none⟩ = some (.int .i64 x.le))) (by kernel_rfl) ?_ (fun hHeld => ?_)
            focus exact KS.out _ _ _ _ _ _ _ HS5.out HB5.out HR5.out.below
            have hSS := KS.out _ _ _ _ _ _ _ HS5.out HB5.out HR5.out.below
            generalize W5.drew = W0 at hSS hHeld HS5 HR5 HB5 ⊢
            change wpAnyH _ _ _ _ _ 12 _ _ _
            refine wpAnyH_take (i := 0) (v := ?_) (by simp only [List.getElem?_toArray, List.getElem?_cons_zero, List.getElem?_cons_succ]; rfl) (by kernel_rfl) (by kernel_rfl) (by kernel_rfl) (by intro _ _ _ h; exact h) (Or.inl ⟨by rfl, ?_⟩) (by assumption) ?_; rotate_left; (focus (intro w1 hSw; (try dsimp only at hSw); go_simp; (try with_reducible rfl))); (try simp only [Act.put, List.setIfInBounds_toArray, List.set_cons_zero, List.set_cons_succ, List.getElem_toArray, List.getElem_cons_zero, List.getElem_cons_succ])
            refine wpAnyH_take (i := 1) (v := ?_) (by simp only [List.getElem?_toArray, List.getElem?_cons_zero, List.getElem?_cons_succ]; rfl) (by kernel_rfl) (by kernel_rfl) (by kernel_rfl) (by intro _ _ _ h; exact h) (Or.inl ⟨by rfl, ?_⟩) (by assumption) ?_; rotate_left; (focus (intro w1 hSw; (try dsimp only at hSw); go_simp; (try with_reducible rfl))); (try simp only [Act.put, List.setIfInBounds_toArray, List.set_cons_zero, List.set_cons_succ, List.getElem_toArray, List.getElem_cons_zero, List.getElem_cons_succ])
            refine wpAnyH_take (i := 2) (v := ?_) (by simp only [List.getElem?_toArray, List.getElem?_cons_zero, List.getElem?_cons_succ]; rfl) (by kernel_rfl) (by kernel_rfl) (by kernel_rfl) (by intro _ _ _ h; exact h) (Or.inl ⟨by rfl, ?_⟩) (by assumption) ?_; rotate_left; (focus (intro w1 hSw; (try dsimp only at hSw); go_simp; (try with_reducible rfl))); (try simp only [Act.put, List.setIfInBounds_toArray, List.set_cons_zero, List.set_cons_succ, List.getElem_toArray, List.getElem_cons_zero, List.getElem_cons_succ])
            refine wpAnyH_take (i := 3) (v := ?_) (by simp only [List.getElem?_toArray, List.getElem?_cons_zero, List.getElem?_cons_succ]; rfl) (by kernel_rfl) (by kernel_rfl) (by kernel_rfl) (by intro _ _ _ h; exact h) (Or.inl ⟨by rfl, ?_⟩) (by assumption) ?_; rotate_left; (focus (intro w1 hSw; (try dsimp only at hSw); go_simp; (try with_reducible rfl))); (try simp only [Act.put, List.setIfInBounds_toArray, List.set_cons_zero, List.set_cons_succ, List.getElem_toArray, List.getElem_cons_zero, List.getElem_cons_succ])
            refine wpAnyH_take (i := 4) (v := ?_) (by simp only [List.getElem?_toArray, List.getElem?_cons_zero, List.getElem?_cons_succ]; rfl) (by kernel_rfl) (by kernel_rfl) (by kernel_rfl) (by intro _ _ _ h; exact h) (Or.inl ⟨by rfl, ?_⟩) (by assumption) ?_; rotate_left; (focus (intro w1 hSw; (try dsimp only at hSw); go_simp; (try with_reducible rfl))); (try simp only [Act.put, List.setIfInBounds_toArray, List.set_cons_zero, List.set_cons_succ, List.getElem_toArray, List.getElem_cons_zero, List.getElem_cons_succ])
            refine wpAnyH_take (i := 5) (v := ?_) (by simp only [List.getElem?_toArray, List.getElem?_cons_zero, List.getElem?_cons_succ]; rfl) (by kernel_rfl) (by kernel_rfl) (by kernel_rfl) (by intro _ _ _ h; exact h) (Or.inl ⟨by rfl, ?_⟩) (by assumption) ?_; rotate_left; (focus (intro w1 hSw; (try dsimp only at hSw); go_simp; (try with_reducible rfl))); (try simp only [Act.put, List.setIfInBounds_toArray, List.set_cons_zero, List.set_cons_succ, List.getElem_toArray, List.getElem_cons_zero, List.getElem_cons_succ])
            refine wpAnyH_take (i := 6) (v := ?_) (by simp only [List.getElem?_toArray, List.getElem?_cons_zero, List.getElem?_cons_succ]; rfl) (by kernel_rfl) (by kernel_rfl) (by kernel_rfl) (by intro _ _ _ h; exact h) (Or.inl ⟨by rfl, ?_⟩) (by assumption) ?_; rotate_left; (focus (intro w1 hSw; (try dsimp only at hSw); go_simp; (try with_reducible rfl))); (try simp only [Act.put, List.setIfInBounds_toArray, List.set_cons_zero, List.set_cons_succ, List.getElem_toArray, List.getElem_cons_zero, List.getElem_cons_succ])
            refine wpAnyH_take (i := 7) (v := ?_) (by simp only [List.getElem?_toArray, List.getElem?_cons_zero, List.getElem?_cons_succ]; rfl) (by kernel_rfl) (by kernel_rfl) (by kernel_rfl) (by intro _ _ _ h; exact h) (Or.inl ⟨by rfl, ?_⟩) (by assumption) ?_; rotate_left; (focus (intro w1 hSw; (try dsimp only at hSw); go_simp; (try with_reducible rfl))); (try simp only [Act.put, List.setIfInBounds_toArray, List.set_cons_zero, List.set_cons_succ, List.getElem_toArray, List.getElem_cons_zero, List.getElem_cons_succ])
            refine wpAnyH_take (i := 8) (v := ?_) (by simp only [List.getElem?_toArray, List.getElem?_cons_zero, List.getElem?_cons_succ]; rfl) (by kernel_rfl) (by kernel_rfl) (by kernel_rfl) (by intro _ _ _ h; exact h) (Or.inl ⟨by rfl, ?_⟩) (by assumption) ?_; rotate_left; (focus (intro w1 hSw; (try dsimp only at hSw); go_simp; (try with_reducible rfl))); (try simp only [Act.put, List.setIfInBounds_toArray, List.set_cons_zero, List.set_cons_succ, List.getElem_toArray, List.getElem_cons_zero, List.getElem_cons_succ])
            refine wpAnyH_ready (rs := [9]) (by kernel_rfl) (by simp) ?_; refine AllReadyH.cons (by simp only [List.getElem?_toArray, List.getElem?_cons_zero, List.getElem?_cons_succ]; rfl) (fun K hK => ?_) AllReadyH.nil
            rw [if_pos (by rfl)]; go_wp2_with fail
            refine (CAM.out W0).mono ?_
            rintro e W6 ⟨rfl, hbn⟩
            have HS6 := Lib.hid (HS5.out.keep hbn)
            have HR6 := Lib.hid (HR5.out.trans (Rel.of_below (A := A9) (by have := HS5.out.size; omega) hbn))
            have HB6 := Lib.hid (HB5.out.below hbn HB5.out.lt)
            have hS6 := KS.out _ _ _ _ _ _ _ HS6.out HB6.out HR6.out.below
            clear hbn HS5 HR5 HB5 hSS hHeld CAM
            go_wp2_with fail
            refine hK.out _ _ hS6 (fun hHeld => ?_)
            clear hK K
            (try simp only [Act.put, List.setIfInBounds_toArray, List.set_cons_zero, List.set_cons_succ, List.getElem_toArray, List.getElem_cons_zero, List.getElem_cons_succ])
            have hSS := hS6
            refine wpAnyH_take (i := 10) (v := ?_) (by simp only [List.getElem?_toArray, List.getElem?_cons_zero, List.getElem?_cons_succ]; rfl) (by kernel_rfl) (by kernel_rfl) (by kernel_rfl) (by intro _ _ _ h; exact h) (Or.inl ⟨by rfl, ?_⟩) (by assumption) ?_; rotate_left; (focus (intro w1 hSw; (try dsimp only at hSw); go_simp; (try with_reducible rfl))); (try simp only [Act.put, List.setIfInBounds_toArray, List.set_cons_zero, List.set_cons_succ, List.getElem_toArray, List.getElem_cons_zero, List.getElem_cons_succ])
            refine wpAnyH_ready (rs := [11]) (by kernel_rfl) (by simp) ?_; refine AllReadyH.cons (by simp only [List.getElem?_toArray, List.getElem?_cons_zero, List.getElem?_cons_succ]; rfl) (fun K hK => ?_) AllReadyH.nil
            rw [if_pos (by rfl)]; go_wp2_with fail
            have hcc6 : Cand l cc := by
              rw [← HCC.out]
              exact HCc.out.snoc (fun j hj => by have := HLT.out j hj; have := HK0.out; omega) HI.out (fun j hj => by have h := HNO.out; rw [List.any_eq_false] at h; simpa using h j hj)
            have hsum : sumA l n cc = sm + am := by rw [← HCC.out, sumA_snoc, HAM.out, HSS.out]
            have CI : Hid (Calls Tryz.prog 84 #[.int .i64 ((k : Int) + 1), .int .i64 (sm + am), .pointer (some ⟨Cb, 0, none⟩), .pointer (some ⟨p + 2, 0, none⟩), .pointer (some ⟨p + 1, 0, none⟩), .pointer (some ⟨p, 0, none⟩), .pointer (some ⟨Lb, 0, none⟩), .pointer (some ⟨p + 3, 0, none⟩)] W6 fun e w' => e = .returned (.tuple #[]) ∧ AddP (some ⟨xb, xo, none⟩) lc l n Lb Cb p W6 A9 cc b2 (k + 1) w') := Lib.hid (by
              have h := IH.out (k + 1) (by have := HN.out; have := HK0.out; have := HI.out; omega) W6 A9 c9 cc bA2 bcap2 b2 HS6.out HL2.out.cand hcc6 (fun j hj => by rw [← HCC.out, List.mem_append] at hj; rcases hj with q | q; (have := HLT.out j q; have := HK0.out; omega); (simp at q; omega)) HI.out
              rw [hsum] at h
              exact h)
            clear hcc6 hsum hSS hHeld
            refine CI.out.mono ?_
            rintro e W7 ⟨rfl, A7, cap7, bA7, bcap7, b7, hs7, ha7, hr7⟩
            have HS7 := Lib.hid hs7
            have HL7 := Lib.hid (HL2.out.step (by rw [HCC.out]; exact ha7))
            have HR7 := Lib.hid (HR6.out.trans hr7)
            have HB7 : Hid (Blk W7 ib #[.int .i64 k] 3) := Lib.hid ((hr7.fr ib HIB.out HB6.out.lt HAI9.out).trans HB6.out)
            have hS7 := KS.out _ _ _ _ _ _ _ HS7.out HB7.out HR7.out.below
            have HOC := Lib.hid (Own.cut (c := c) (i := k) (by have h := hs7.on; rw [← HCC.out] at h; exact h))
            have kc : c.length ≤ cap7 := by
              have h := hs7.on
              rcases h.2 with ⟨_, h2⟩ | ⟨_, _, _, hv, _, _, hle, _⟩
              · have := HLEN.out; omega
              · injection hv with _ _ q; have := HLEN.out; omega
            clear hs7 ha7 hr7 HS6 HR6 HB6 CI hS6
            go_wp2_with fail
            refine hK.out _ _ hS7 (fun hHeld => ?_)
            clear hK K
            (try simp only [Act.put, List.setIfInBounds_toArray, List.set_cons_zero, List.set_cons_succ, List.getElem_toArray, List.getElem_cons_zero, List.getElem_cons_succ])
            refine wpAnyH_done (by kernel_rfl) ?_ _
            clear hHeld hS7
            have y7 : W7.cell? ⟨p + 1, 0, none⟩ = some (.slice A7 (c.length + 1) cap7) := by rw [← HLEN.out]; exact HS7.out.hn.cell 0 rfl
            have f7 : W7.frozen? ⟨p + 1, 0, none⟩ = false := HS7.out.hn.frozen 0
            have lT : ∀ g, A7 = some ⟨g, 0, none⟩ → A7 = some ⟨g, 0, none⟩ ∨ W7.heap.size ≤ g := fun g h => .inl h
            have HS8 := Lib.hid (HS7.out.now (Below.refl (p + 4) W7) (fun _ _ => rfl) HOC.out lT)
            have HR8 := Lib.hid (HR3.out.trans (HR7.out.trans (Rel.set (p := p) (j := p + 1) (A := A7) (W := W7) (by omega) (by omega) A7 lT (.slice A7 c.length cap7))))
            have cI : (W7.setCell ⟨p + 1, 0, none⟩ (.slice A7 c.length cap7)).cell? ⟨ib, 0, none⟩ = some (.int .i64 k) := (HB7.out.other (p := ⟨p + 1, 0, none⟩) (by have := HIB.out; show ib ≠ p + 1; omega) _).cell 0 rfl
            clear lT
            obtain ⟨W8, hW8⟩ : ∃ X, W7.setCell ⟨p + 1, 0, none⟩ (.slice A7 c.length cap7) = X := ⟨_, rfl⟩
            rw [hW8] at HS8 HR8 cI
            go_wp2_with fail
            (have hke : (wrap64 ((k : Int) + 1)) = ((k + 1 : Nat) : Int) := by (have := HI.out; have := HF12.out; (try unfold wrap64); omega)); (have hke1 : ((k : Int) + 1) = ((k + 1 : Nat) : Int) := by omega); (first | rw [hke] | rw [hke1]); (have BN := Blk.new W8 #[.int .i64 ((k + 1 : Nat) : Int)] 3); (have bn : Below (World.heap W8).size W8 (World.alloc W8 (.cells #[.int .i64 ((k + 1 : Nat) : Int)] 3)) := (Below.refl _ _).al _); refine ⟨⟨k + 1, (World.heap W8).size, A7, cap7, bA7, bcap7, b7, Nat.le_succ_of_le HK0.out, HI.out, rfl, BN, (HS8.out).size, own_ne (HS8.out).on (Nat.le_refl _), (HS8.out).keep bn, HL7.out, (HR8.out).trans (Rel.of_below (Nat.le_trans (Nat.le_add_right _ _) (HS8.out).size) bn)⟩, ?_⟩; rw [boxI_at (k := k + 1) (BN.cell 0 rfl), HE11.out]; exact Nat.sub_succ_lt_self _ _ HI.out
          · rw [hcl] at CH
            have HYES := Lib.hid hcl
            clear hcl
            go_wp2_with fail
            refine CH.out.mono ?_
            rintro e w' ⟨rfl, q, hw3⟩
            have bq : Below wr.heap.size wr w' := by rw [hw3]; exact below_drewN (Below.refl _ _) q
            clear hw3
            have HS3 := Lib.hid (HS2.out.keep bq)
            have HR3 := Lib.hid (HR2.out.trans (Rel.of_below (A := A2) (by have := HS2.out.size; omega) bq))
            have HBI3 := Lib.hid (HBI.out.below bq HBI.out.lt)
            obtain ⟨W3, rfl⟩ : ∃ W3, W3 = w' := ⟨_, rfl⟩
            have cI : W3.cell? ⟨ib, 0, none⟩ = some (.int .i64 k) := HBI3.out.cell 0 rfl
            have cL : W3.cell? ⟨Lb, 0, none⟩ = some (.slice lA l.length lc) := HS3.out.hl.cell 0 rfl
            have cN : W3.cell? ⟨p + 1, 0, none⟩ = some (.slice A2 c.length cap2) := HS3.out.hn.cell 0 rfl
            clear bq CH
            go_wp2_with fail
            (have hke : (wrap64 ((k : Int) + 1)) = ((k + 1 : Nat) : Int) := by (have := HI.out; have := HF12.out; (try unfold wrap64); omega)); (have hke1 : ((k : Int) + 1) = ((k + 1 : Nat) : Int) := by omega); (first | rw [hke] | rw [hke1]); (have BN := Blk.new W3 #[.int .i64 ((k + 1 : Nat) : Int)] 3); (have bn : Below (World.heap W3).size W3 (World.alloc W3 (.cells #[.int .i64 ((k + 1 : Nat) : Int)] 3)) := (Below.refl _ _).al _); refine ⟨⟨k + 1, (World.heap W3).size, A2, cap2, bA2, bcap2, b2, Nat.le_succ_of_le HK0.out, HI.out, rfl, BN, (HS3.out).size, own_ne (HS3.out).on (Nat.le_refl _), (HS3.out).keep bn, (HL2.out.skip HYES.out), (HR3.out).trans (Rel.of_below (Nat.le_trans (Nat.le_add_right _ _) (HS3.out).size) bn)⟩, ?_⟩; rw [boxI_at (k := k + 1) (BN.cell 0 rfl), HE11.out]; exact Nat.sub_succ_lt_self _ _ HI.out
        · obtain rfl : k = l.length := by omega
          have HFIN := Lib.hid (HL2.out.fin (Nat.le_refl _))
          go_wp2_with fail
          go_end0
          exact ⟨rfl, A2, cap2, bA2, bcap2, b2, HS2.out, HFIN.out, HR2.out⟩
end Go.Proofs.YtelchfijalkibaaGreatDoor
