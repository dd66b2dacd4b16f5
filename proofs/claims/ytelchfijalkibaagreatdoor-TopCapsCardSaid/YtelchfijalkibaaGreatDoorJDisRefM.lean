/- Joined texts: DisRefM, DisLines. -/
import Derived.Test.YtelchfijalkibaaGreatDoorJDisAmt
import Derived.Test.YtelchfijalkibaaGreatDoorJRelMath
import Derived.Test.YtelchfijalkibaaGreatDoorDisBest2
/- All combinations as the bits of a number; what an enumeration of the numbers shows; the lines of a combination. No program in sight. -/
namespace Go.Proofs.YtelchfijalkibaaGreatDoor
open Go.RowKit Go.Lib

def bitB (m i : Nat) : Bool := decide (m / 2 ^ i % 2 = 1)
def bitsN (n m : Nat) : List Nat := (List.range n).filter (bitB m)
theorem bitsN_succ (k m : Nat) : bitsN (k + 1) m = if bitB m k then bitsN k m ++ [k] else bitsN k m := by
  unfold bitsN
  rw [List.range_succ, List.filter_append]
  cases h : bitB m k <;> simp [h]
theorem bitsN_asc (n m : Nat) : (bitsN n m).Pairwise (· < ·) := List.Pairwise.filter _ List.pairwise_lt_range
theorem bitsN_lt {n m i : Nat} (h : i ∈ bitsN n m) : i < n := List.mem_range.1 (List.mem_filter.1 h).1
theorem bits_of (p : Nat → Bool) : ∀ n, ∃ m, m < 2 ^ n ∧ ∀ i, i < n → bitB m i = p i
  | 0 => ⟨0, by simp, fun i h => absurd h (by omega)⟩
  | n + 1 => by
    obtain ⟨m, hm, h⟩ := bits_of p n
    by_cases q : p n = true
    · refine ⟨m + 2 ^ n, by rw [Nat.pow_succ]; omega, fun i hi => ?_⟩
      by_cases e : i = n
      · subst e
        rw [q]
        unfold bitB
        rw [Nat.add_div_right _ (Nat.two_pow_pos i), Nat.div_eq_of_lt hm]
        rfl
      · rw [← h i (by omega)]
        unfold bitB
        have e2 : 2 ^ n = 2 ^ i * (2 * 2 ^ (n - 1 - i)) := by
          rw [← Nat.pow_succ', ← Nat.pow_add]
          congr 1
          omega
        rw [e2, Nat.add_mul_div_left _ _ (Nat.two_pow_pos i), Nat.add_mul_mod_self_left]
    · refine ⟨m, by rw [Nat.pow_succ]; omega, fun i hi => ?_⟩
      by_cases e : i = n
      · subst e
        unfold bitB
        rw [Nat.div_eq_of_lt hm]
        cases h2 : p i
        · rfl
        · exact absurd h2 q
      · exact h i (by omega)
theorem asc_same : ∀ (a b : List Nat), a.Pairwise (· < ·) → b.Pairwise (· < ·) → (∀ x, x ∈ a ↔ x ∈ b) → a = b
  | [], [], _, _, _ => rfl
  | [], y :: b, _, _, h => absurd ((h y).2 (by simp)) (by simp)
  | x :: a, [], _, _, h => absurd ((h x).1 (by simp)) (by simp)
  | x :: a, y :: b, ha, hb, h => by
    have ha' := List.pairwise_cons.1 ha
    have hb' := List.pairwise_cons.1 hb
    have e : x = y := by
      have h1 := (h x).1 (by simp)
      have h2 := (h y).2 (by simp)
      rw [List.mem_cons] at h1 h2
      rcases h1 with h1 | h1
      · exact h1
      · rcases h2 with h2 | h2
        · exact h2.symm
        · have := ha'.1 y h2; have := hb'.1 x h1; omega
    subst e
    rw [asc_same a b ha'.2 hb'.2 fun z => ?_]
    constructor
    · intro hz
      have h1 := (h z).1 (by simp [hz])
      rw [List.mem_cons] at h1
      rcases h1 with h1 | h1
      · subst h1; exact absurd (ha'.1 z hz) (by omega)
      · exact h1
    · intro hz
      have h1 := (h z).2 (by simp [hz])
      rw [List.mem_cons] at h1
      rcases h1 with h1 | h1
      · subst h1; exact absurd (hb'.1 z hz) (by omega)
      · exact h1
theorem bits_all {n : Nat} {c : List Nat} (h1 : c.Pairwise (· < ·)) (h2 : ∀ i ∈ c, i < n) : ∃ m, m < 2 ^ n ∧ bitsN n m = c := by
  obtain ⟨m, hm, h⟩ := bits_of (fun i => decide (i ∈ c)) n
  refine ⟨m, hm, asc_same _ _ (bitsN_asc n m) h1 fun x => ?_⟩
  unfold bitsN
  rw [List.mem_filter, List.mem_range]
  constructor
  · rintro ⟨q1, q2⟩
    rw [h x q1] at q2
    simpa using q2
  · intro q
    refine ⟨h2 x q, ?_⟩
    rw [h x (h2 x q)]
    simpa using q
theorem bitsN_zero (n : Nat) : bitsN n 0 = [] := by
  unfold bitsN
  rw [List.filter_eq_nil_iff]
  intro i _
  simp [bitB]

/-- what the enumeration up to k has shown -/
structure RBst (l : List Dc) (n : Int) (k : Nat) (b : List Nat) : Prop where
  cand : Cand l b
  all : ∀ m, m < k → Cand l (bitsN l.length m) → betB l n (bitsN l.length m) b = false
theorem RBst.start (l : List Dc) (n : Int) : RBst l n 1 [] := by
  refine ⟨Cand.nil l, fun m hm _ => ?_⟩
  obtain rfl : m = 0 := by omega
  rw [bitsN_zero]
  exact betB_irr l n []
theorem RBst.skip {l : List Dc} {n : Int} {k : Nat} {b : List Nat} (h : RBst l n k b) (hc : ¬ Cand l (bitsN l.length k)) : RBst l n (k + 1) b := by
  refine ⟨h.cand, fun m hm hd => ?_⟩
  by_cases e : m = k
  · subst e; exact absurd hd hc
  · exact h.all m (by omega) hd
theorem RBst.stay {l : List Dc} {n : Int} {k : Nat} {b : List Nat} (h : RBst l n k b) (hb : betB l n (bitsN l.length k) b = false) : RBst l n (k + 1) b := by
  refine ⟨h.cand, fun m hm hd => ?_⟩
  by_cases e : m = k
  · subst e; exact hb
  · exact h.all m (by omega) hd
theorem RBst.take {l : List Dc} {n : Int} {k : Nat} {b : List Nat} (h : RBst l n k b) (hc : Cand l (bitsN l.length k)) (hb : betB l n (bitsN l.length k) b = true) : RBst l n (k + 1) (bitsN l.length k) := by
  refine ⟨hc, fun m hm hd => ?_⟩
  by_cases e : m = k
  · subst e; exact betB_irr l n _
  · exact betB_tr (h.all m (by omega) hd) (betB_asym hb)
theorem RBst.fin {l : List Dc} {n : Int} {b : List Nat} (h : RBst l n (2 ^ l.length) b) : BestR l n b := by
  refine ⟨h.cand, fun c hc => ?_⟩
  obtain ⟨m, hm, rfl⟩ := bits_all hc.asc hc.lt
  exact h.all m hm hc
/-- the bits up to k are permitted together -/
def okTo (l : List Dc) (m k : Nat) : Prop := (bitsN k m).Pairwise (fun a b => clashB l a b = false)
theorem okTo.zero (l : List Dc) (m : Nat) : okTo l m 0 := by unfold okTo bitsN; simp
theorem okTo.skip {l : List Dc} {m k : Nat} (h : okTo l m k) (hb : bitB m k = false) : okTo l m (k + 1) := by
  unfold okTo
  rw [bitsN_succ, hb]
  exact h
theorem okTo.next {l : List Dc} {m k : Nat} (h : okTo l m k) (hc : ∀ j ∈ bitsN k m, clashB l j k = false) : okTo l m (k + 1) := by
  unfold okTo
  rw [bitsN_succ]
  split
  · rw [List.pairwise_append]
    exact ⟨h, List.pairwise_singleton _ _, fun a ha b hb => by simp at hb; subst hb; exact hc a ha⟩
  · exact h
theorem okTo.cand {l : List Dc} {m : Nat} (h : okTo l m l.length) : Cand l (bitsN l.length m) := ⟨bitsN_asc _ _, fun _ hi => bitsN_lt hi, h⟩
/-- the lines of a combination -/
def nmN (l : List Dc) (i : Nat) : ByteArray := match l[i]? with
  | some x => x.nm
  | none => ⟨#[]⟩
def mn (a b : Int) : Int := if b < a then b else a
def stepL (l : List Dc) (n : Int) (s : List Ln × Int) (i : Nat) : List Ln × Int := (s.1 ++ [(nmN l i, -(mn (amtN l n i) s.2))], s.2 - mn (amtN l n i) s.2)
def lnsS (l : List Dc) (n : Int) (c : List Nat) : List Ln × Int := c.foldl (stepL l n) ([], n)
theorem lnsS_snoc (l : List Dc) (n : Int) (c : List Nat) (i : Nat) : lnsS l n (c ++ [i]) = stepL l n (lnsS l n c) i := by unfold lnsS; rw [List.foldl_append]; rfl
def dn (a b : Int) : Int := if a < b then 0 else a - b
theorem dn_zero {a : Int} (h : 0 ≤ a) : dn a 0 = a := by unfold dn; split <;> omega
theorem dn_step {s a S : Int} (hs : 0 ≤ s) (ha : 0 ≤ a) (hS : 0 ≤ S) : dn (s - mn a s) S = dn s (a + S) := by unfold dn mn; split <;> split <;> split <;> omega
theorem lns_all {l : List Dc} {n : Int} (ha : ∀ i, 0 ≤ amtN l n i ∧ amtN l n i ≤ n) : ∀ (c : List Nat) (s : List Ln × Int), 0 ≤ s.2 → s.2 ≤ n → n ≤ 1125899906842624 → sumL s.1 = s.2 - n → Mst s.1 →
    (c.foldl (stepL l n) s).1.length = s.1.length + c.length ∧ (c.foldl (stepL l n) s).2 = dn s.2 (sumA l n c) ∧ sumL (c.foldl (stepL l n) s).1 = (c.foldl (stepL l n) s).2 - n ∧ Mst (c.foldl (stepL l n) s).1
  | [], s, h0, _, _, hs, hm => by
    exact ⟨by simp, (dn_zero h0).symm, hs, hm⟩
  | i :: c, s, h0, h1, h2, hs, hm => by
    have hi := ha i
    have hmn : 0 ≤ mn (amtN l n i) s.2 ∧ mn (amtN l n i) s.2 ≤ s.2 ∧ mn (amtN l n i) s.2 ≤ amtN l n i ∧ (mn (amtN l n i) s.2 = s.2 ∨ mn (amtN l n i) s.2 = amtN l n i) := by unfold mn; split <;> omega
    have hr := lns_all ha c (stepL l n s i) (by simp only [stepL]; omega) (by simp only [stepL]; omega) h2 (by
      simp only [stepL]
      unfold sumL at hs ⊢
      rw [List.map_append, List.sum_append, hs]
      simp
      omega) (by
      intro y hy
      simp only [stepL] at hy
      rw [List.mem_append] at hy
      rcases hy with hy | hy
      · exact hm y hy
      · simp at hy
        subst hy
        unfold fitsB
        simp
        omega)
    rw [List.foldl_cons]
    obtain ⟨r1, r2, r3, r4⟩ := hr
    refine ⟨by rw [r1]; simp [stepL]; omega, ?_, r3, r4⟩
    rw [r2]
    have hsc : 0 ≤ sumA l n c := by
      clear r1 r2 r3 r4 hmn
      induction c with
      | nil => simp [sumA]
      | cons x c ih => have := ha x; simp [sumA]; omega
    exact dn_step h0 hi.1 hsc
theorem lns_facts {l : List Dc} {n : Int} (ha : ∀ i, 0 ≤ amtN l n i ∧ amtN l n i ≤ n) (h0 : 0 ≤ n) (h1 : n ≤ 1125899906842624) (c : List Nat) :
    (lnsS l n c).1.length = c.length ∧ (lnsS l n c).2 = n - red l n c ∧ sumL (lnsS l n c).1 = - red l n c ∧ Mst (lnsS l n c).1 := by
  have h := lns_all ha c ([], n) h0 (Int.le_refl _) h1 (by simp [sumL]) (fun y hy => absurd hy (by simp))
  obtain ⟨r1, r2, r3, r4⟩ := h
  have e : (lnsS l n c).2 = n - red l n c := by
    show (c.foldl (stepL l n) ([], n)).2 = _
    rw [r2]
    show dn n (sumA l n c) = n - red l n c
    unfold red dn
    split <;> omega
  refine ⟨by have := r1; simp at this; exact this, e, ?_, r4⟩
  have h3 : sumL (lnsS l n c).1 = (lnsS l n c).2 - n := r3
  rw [h3, e]
  omega
theorem lns_left {l : List Dc} {n : Int} (ha : ∀ i, 0 ≤ amtN l n i ∧ amtN l n i ≤ n) (h0 : 0 ≤ n) (h1 : n ≤ 1125899906842624) (c : List Nat) : 0 ≤ (lnsS l n c).2 ∧ (lnsS l n c).2 ≤ n := by
  have h := (lns_facts ha h0 h1 c).2.1
  rw [h]
  have hsc : 0 ≤ sumA l n c := by
    clear h
    induction c with
    | nil => simp [sumA]
    | cons x c ih => have := ha x; simp [sumA]; omega
  unfold red
  split <;> omega
end Go.Proofs.YtelchfijalkibaaGreatDoor
/- discount.Lines, walked: the lines of the best combination. -/
set_option linter.unusedSimpArgs false
namespace Go.Proofs.YtelchfijalkibaaGreatDoor
open Go.RowKit Go.Lib

/-- the lines of the best combination, in new memory -/
def LnsR (l : List Dc) (n : Int) (w w' : World) (e : Ending) : Prop := ∃ A c b, e = .returned (.slice A b.length c) ∧ BestR l n b ∧ Own 104 encLn 2 w' w.heap.size A c (lnsS l n b).1 ∧ Below w.heap.size w w'
theorem lnsS_at {l : List Dc} {n : Int} {b : List Nat} {k i : Nat} (h : b[k]? = some i) : lnsS l n (b.take (k + 1)) = stepL l n (lnsS l n (b.take k)) i := by rw [take_snoc h, lnsS_snoc]
theorem lnsS_len {l : List Dc} (hok : LOk l) {n : Int} (h0 : 0 ≤ n) (h1 : n ≤ 1125899906842624) (c : List Nat) : (lnsS l n c).1.length = c.length := (lns_facts (amtN_bnd hok h0) h0 h1 c).1

set_option maxRecDepth 100000 in
set_option maxHeartbeats 8000000 in
theorem plinesD_any {lA : Option Addr} {lc : Nat} {l : List Dc} {n : Int} (hok : LOk l) (hlc : l.length ≤ lc) (h0 : 0 ≤ n) (h1 : n ≤ 1125899906842624) {w : World} (hr : Rd encDc 10 w w.heap.size lA l) :
    Calls Tryz.prog 26 #[.slice lA l.length lc, .int .i64 n] w fun e w' => LnsR l n w w' e := by
  have CB := Lib.hid (pbest_any hok hlc h0 h1 hr)
  have HR := Lib.hid hr
  have HOK := Lib.hid hok
  have HF := Lib.hid hok.few
  clear hr hok
  go_enter Tryz.func26, Tryz.ntmps26
  go_wp2_with fail
  refine CB.out.mono ?_
  rintro e W2 ⟨bA, bc, b, rfl, hbest, hown, hbn⟩
  have RB := Lib.hid (hown.rd encN_ok)
  have HBW := Lib.hid hbn
  have HBE := Lib.hid hbest
  have HBL := Lib.hid (show b.length ≤ 12 by have := hbest.1.len; have := HF.out; omega)
  generalize red l n b = m
  have hbl : b.length ≤ 12 := HBL.out
  clear hbest hown hbn CB
  go_wp2_with fail
  go_loopw [25, 8, 9] (fun sk so sl wr => ∃ (k : Nat) (A : Option Addr) (c : Nat), k ≤ b.length ∧ sk = .int .i64 k ∧ so = .slice A (lnsS l n (b.take k)).1.length c ∧ sl = .int .i64 (lnsS l n (b.take k)).2 ∧ Own 104 encLn 2 wr W2.heap.size A c (lnsS l n (b.take k)).1 ∧ Below W2.heap.size W2 wr) (fun sk _ _ _ => b.length - (RowKit.intOf sk).toNat)
  case atStart => exact ⟨0, none, 0, Nat.zero_le _, rfl, rfl, rfl, Own.nil _ _, Below.refl _ _⟩
  case round =>
    obtain ⟨k, A, c, hk, rfl, rfl, rfl, hown, hb2⟩ := hrel
    have k1 : (0 : Int) ≤ (k : Int) := by omega
    by_cases hi : k < b.length
    · have k2 : (k : Int) < (b.length : Int) := by omega
      have HI := Lib.hid hi
      obtain ⟨g, o, hA, hg, hx⟩ := (RB.out.keep hb2).n hi
      have HX := Lib.hid (show b[k]? = some b[k] from List.getElem?_eq_getElem hi)
      generalize b[k] = i at *
      subst hA
      have hil : i < l.length := HBE.out.1.lt i (List.mem_of_getElem? HX.out)
      obtain ⟨lb, lo, x, hA2, hlb, hxl, hc⟩ := ((HR.out.st HBW.out).keep hb2).at_ hil
      subst hA2
      have d0 := hc 0 _ rfl; have d1 := hc 1 _ rfl; have d2 := hc 2 _ rfl; have d3 := hc 3 _ rfl; have d4 := hc 4 _ rfl; have d5 := hc 5 _ rfl; have d6 := hc 6 _ rfl; have d7 := hc 7 _ rfl; have d8 := hc 8 _ rfl; have d9 := hc 9 _ rfl; simp only [Nat.add_zero] at d0
      have HXL := Lib.hid hxl
      have HAM : Hid (amtN l n i = amtV x n) := Lib.hid (by unfold amtN; rw [hxl])
      have HNM : Hid (nmN l i = x.nm) := Lib.hid (by unfold nmN; rw [hxl])
      have CAM := Lib.hid (fun (X : World) => pamount_any (HOK.out.mem (List.mem_of_getElem? hxl)) h0 h1 X)
      have hab := amtV_bnd (HOK.out.mem (List.mem_of_getElem? hxl)) h0
      have hlf := lns_left (amtN_bnd HOK.out h0) h0 h1 (b.take k)
      have HLN : Hid ((lnsS l n (b.take k)).1.length = k) := Lib.hid (by rw [lnsS_len HOK.out h0 h1, List.length_take]; have := HI.out; omega)
      have HST := Lib.hid (lnsS_at (l := l) (n := n) HX.out)
      obtain ⟨L, hL⟩ : ∃ L, (lnsS l n (b.take k)).1 = L := ⟨_, rfl⟩
      obtain ⟨lf, hlfe⟩ : ∃ f, (lnsS l n (b.take k)).2 = f := ⟨_, rfl⟩
      obtain ⟨am, hame⟩ : ∃ am, amtV x n = am := ⟨_, rfl⟩
      have HST2 : Hid (lnsS l n (b.take (k + 1)) = (L ++ [(x.nm, -(mn am lf))], lf - mn am lf)) := Lib.hid (by rw [HST.out]; unfold stepL; rw [hL, hlfe, HNM.out, HAM.out, hame])
      rw [hL] at hown HLN ⊢
      rw [hlfe] at hlf ⊢
      rw [hame] at CAM hab
      obtain ⟨a, ha⟩ : ∃ a, mn am lf = a := ⟨_, rfl⟩
      rw [ha] at HST2
      have hmin : min am lf = a := by rw [← ha]; unfold mn; split <;> omega
      have ha0 : 0 ≤ a ∧ a ≤ lf := by rw [← ha]; unfold mn; split <;> omega
      obtain ⟨ha1, ha2⟩ := ha0
      obtain ⟨hlf1, hlf2⟩ := hlf
      have w1 : IntKind.i64.wrap (-a) = -a := IntWalk.i64_in _ (by omega)
      have w2 : IntKind.i64.wrap (lf - a) = lf - a := IntWalk.i64_in _ (by omega)
      have i1 : (0 : Int) ≤ (i : Int) := by omega
      have i2 : (i : Int) < (l.length : Int) := by omega
      have HLB := Lib.hid hlb
      have HD0 := Lib.hid d0
      have HOW := Lib.hid hown
      have HB2 := Lib.hid hb2
      have HLN9 : Hid (L.length ≤ 12) := Lib.hid (by have := HLN.out; have := HI.out; have := HBL.out; omega)
      clear hL hlfe hame ha hxl hc hlb hown hb2 hil hi HST HAM HNM hg hab
      go_wp2_with fail
      refine (CAM.out _).mono ?_
      rintro e W3 ⟨rfl, hbn⟩
      have bW3 := Lib.hid (HB2.out.trans (hbn.mono HB2.out.size))
      have hown := HOW.out.keep hbn (Nat.le_refl _)
      have d0 := (hbn.cell (p := ⟨lb, lo + i * 10, none⟩) (Nat.lt_of_lt_of_le HLB.out HB2.out.size)).trans HD0.out
      have hll : L.length ≤ 12 := HLN9.out
      have hbel := Below.refl W2.heap.size W3
      have hbs : W2.heap.size ≤ W3.heap.size := Nat.le_trans HB2.out.size hbn.size
      clear hbn d1 d2 d3 d4 d5 d6 d7 d8 d9 CAM HOW
      go_wp2_with (at_builtin; refine wpList_app1 rfl (.tmp 37) (.tmp 46) tyLn encLn_ok rfl (x.nm, -a) rfl _ rfl (by simp) hown rfl (by first | rfl | simp) (by first | omega | (simp; omega)) (by first | omega | (simp; omega)) hbs ?_; intro A9 c9 w9 hown9 hb9 hs9 hf9)
      go_roundw
      case rel =>
        refine ⟨k + 1, A9, c9, HI.out, by go_num, ?_, ?_, ?_, bW3.out.trans hb9⟩
        · rw [HST2.out]; simp
        · rw [HST2.out]
        · rw [HST2.out]; exact hown9
      case measure => have := HI.out; simp [RowKit.intOf]; omega
    · obtain rfl : k = b.length := by omega
      have HLN : Hid ((lnsS l n b).1.length = b.length) := Lib.hid (lnsS_len HOK.out h0 h1 b)
      rw [List.take_length, HLN.out] at *
      have HOW := Lib.hid hown
      have HB2 := Lib.hid hb2
      clear hown hb2 hi
      go_wp2_with fail
      go_ret
      exact ⟨A, c, b, rfl, HBE.out, HOW.out.mono HBW.out.size, HBW.out.trans (HB2.out.mono HBW.out.size)⟩
end Go.Proofs.YtelchfijalkibaaGreatDoor
