/- Joined texts: DisAmt, DisBestM. -/
import Derived.Test.YtelchfijalkibaaGreatDoorJTarRRate
import Derived.Test.YtelchfijalkibaaGreatDoorJRelUp
import Derived.Test.YtelchfijalkibaaGreatDoorJDisAll
/- By how much a discount reduces a price: Amount of both, walked. -/
set_option linter.unusedSimpArgs false
namespace Go.Proofs.YtelchfijalkibaaGreatDoor
open Go.RowKit Go.Lib

set_option maxRecDepth 100000 in
set_option maxHeartbeats 8000000 in
theorem qdownn_any {n m : Nat} (hn : n ≤ 1125899906842624) (hm0 : m ≤ 1000) (w : World) :
    Calls Tryz.prog 23 #[.int .i64 n, .int .i64 m, .int .i64 1000, .int .i64 1] w fun e w' =>
      e = .returned (.tuple #[.int .i64 ((n : Int) * (m : Int) / 1000), .int .i64 0]) ∧ ∃ k, w' = w.drewN k := by
  have hn0 : (0 : Int) ≤ (n : Int) := by omega
  have hmz : (0 : Int) ≤ (m : Int) := by omega
  have C1 := Lib.hid (fun w => fits_yes (n := (n : Int)) (by omega) w)
  have C2 := Lib.hid (fun w => size_any (n := n) (by omega) w)
  have C3 := Lib.hid (fun w => size_any (n := m) (by omega) w)
  have C4 : Hid (∀ w, Calls Tryz.prog 52 #[.int .i64 1000] w fun e w' => e = .returned (.int .u64 1000) ∧ w' = w) := Lib.hid (fun w => size_any (n := 1000) (by omega) w)
  have C5 := Lib.hid (fun w => mul_any (n := n) (m := m) (by omega) (by omega) w)
  have hp : n * m ≤ 1125899906842624 * 1000 := Nat.mul_le_mul hn hm0
  have hP : (n : Int) * (m : Int) / 1000 = ((n * m / 1000 : Nat) : Int) := by rw [← Int.natCast_mul]; rfl
  rw [hP]
  clear hP
  generalize n * m = p at *
  have e1 : p / 18446744073709551616 = 0 := by omega
  have e2 : p % 18446744073709551616 = p := by omega
  rw [e1, e2] at C5
  have C6 := Lib.hid (fun w => div0k_any (n := p) (by omega) w)
  obtain ⟨q, hq⟩ : ∃ q : Int, ((p / 1000 : Nat) : Int) = q := ⟨_, rfl⟩
  obtain ⟨r, hr⟩ : ∃ r : Int, ((p % 1000 : Nat) : Int) = r := ⟨_, rfl⟩
  have hq0 : 0 ≤ q := by omega
  have hqm : q ≤ 1125899906842624 := by omega
  have hqn : ¬ 1125899906842624 < q := by omega
  have hr0 : 0 ≤ r := by omega
  have hr1 : r < 1000 := by omega
  rw [hq]
  rw [hq, hr] at C6
  clear e1 e2 hp hq hr
  go_enter Tryz.func23, Tryz.ntmps23
  go_wp2_with (first | (go_at_call 51; with_reducible refine (C1.out _).mono ?_; rintro e w' ⟨rfl, rfl⟩) | (go_at_call 52; with_reducible refine (C4.out _).mono ?_; rintro e w' ⟨rfl, rfl⟩) | (go_at_call 52; with_reducible refine (C2.out _).mono ?_; rintro e w' ⟨rfl, rfl⟩) | (go_at_call 52; with_reducible refine (C3.out _).mono ?_; rintro e w' ⟨rfl, rfl⟩) | (go_at_call 53; with_reducible refine (C5.out _).mono ?_; rintro e w' ⟨rfl, rfl⟩) | (go_at_call 54; with_reducible refine (C6.out _).mono ?_; rintro e w6 ⟨rfl, k6, rfl⟩))
  all_goals (go_ret2; exact ⟨rfl, k6, rfl⟩)
theorem qdown_any {n m : Int} (h0 : 0 ≤ n) (h1 : n ≤ 1125899906842624) (h2 : 0 ≤ m) (h3 : m ≤ 1000) (w : World) :
    Calls Tryz.prog 23 #[.int .i64 n, .int .i64 m, .int .i64 1000, .int .i64 1] w fun e w' => e = .returned (.tuple #[.int .i64 (n * m / 1000), .int .i64 0]) ∧ ∃ k, w' = w.drewN k := by
  obtain ⟨a, rfl⟩ := Int.eq_ofNat_of_zero_le h0
  obtain ⟨b, rfl⟩ := Int.eq_ofNat_of_zero_le h2
  exact qdownn_any (n := a) (m := b) (by omega) (by omega) w

/-- by how much a discount reduces a price -/
def amtV (x : Dc) (n : Int) : Int := if x.kd = 1 then n * x.am / 1000 else if x.kd = 2 then (if x.am < n then x.am else n) else n
theorem amtV_bnd {x : Dc} (h : DcOk x) {n : Int} (h0 : 0 ≤ n) : 0 ≤ amtV x n ∧ amtV x n ≤ n := by
  have ha := amB_most h.a
  unfold mostV at ha
  unfold amtV
  split
  · rename_i q
    rw [if_pos q] at ha
    have h1 : 0 ≤ n * x.am := Int.mul_nonneg h0 ha.1
    have h2 : n * x.am ≤ n * 1000 := Int.mul_le_mul_of_nonneg_left ha.2 h0
    omega
  · rename_i q
    rw [if_neg q] at ha
    split
    · rename_i q2
      rw [if_pos q2] at ha
      split <;> omega
    · omega
set_option maxRecDepth 100000 in
set_option maxHeartbeats 8000000 in
theorem pamount_any {x : Dc} (h : DcOk x) {n : Int} (h0 : 0 ≤ n) (h1 : n ≤ 1125899906842624) (w : World) :
    Calls Tryz.prog 58 #[.agg #[.string x.nm, .int .i64 x.kd, .int .i64 x.am, .string x.gr, .string x.sy, .int .i64 x.cl, .int .i64 x.wd, .int .i64 x.wf, .int .i64 x.wt, .int .i64 x.le], .int .i64 n] w fun e w' => e = .returned (.int .i64 (amtV x n)) ∧ Below w.heap.size w w' := by
  obtain ⟨Y, hY⟩ : ∃ Y, w.alloc (.cells #[.string x.nm, .int .i64 x.kd, .int .i64 x.am, .string x.gr, .string x.sy, .int .i64 x.cl, .int .i64 x.wd, .int .i64 x.wf, .int .i64 x.wt, .int .i64 x.le] 99) = Y := ⟨_, rfl⟩
  have bW : Below w.heap.size w Y := by rw [← hY]; exact (Below.refl _ w).al _
  have B1 : Blk Y w.heap.size #[.string x.nm, .int .i64 x.kd, .int .i64 x.am, .string x.gr, .string x.sy, .int .i64 x.cl, .int .i64 x.wd, .int .i64 x.wf, .int .i64 x.wt, .int .i64 x.le] 99 := by rw [← hY]; exact Blk.new w _ _
  have CX := Lib.hid (fun (X : World) => pcheck_any h X)
  have ha := amB_most h.a
  unfold mostV at ha
  obtain ⟨k1, k2⟩ := h.k
  have n1 : ¬ n < 0 := by omega
  have n2 : ¬ 1125899906842624 < n := by omega
  generalize hv : amtV x n = v
  unfold amtV at hv
  have z0 := B1.cell 0 (v := .string x.nm) rfl; have z1 := B1.cell 1 (v := .int .i64 x.kd) rfl; have z2 := B1.cell 2 (v := .int .i64 x.am) rfl; have z3 := B1.cell 3 (v := .string x.gr) rfl; have z4 := B1.cell 4 (v := .string x.sy) rfl; have z5 := B1.cell 5 (v := .int .i64 x.cl) rfl; have z6 := B1.cell 6 (v := .int .i64 x.wd) rfl; have z7 := B1.cell 7 (v := .int .i64 x.wf) rfl; have z8 := B1.cell 8 (v := .int .i64 x.wt) rfl; have z9 := B1.cell 9 (v := .int .i64 x.le) rfl
  clear h
  by_cases q1 : x.kd = 1
  · rw [if_pos q1] at hv ha
    have CQ := Lib.hid (fun (X : World) => qdown_any h0 h1 ha.1 ha.2 X)
    rw [hv] at CQ
    have q2 : (x.kd == 1) = true := by simp [q1]
    clear q1 hv ha
    go_enter Tryz.func58, Tryz.ntmps58
    (go_wp2_with fail); (refine (CX.out _).mono ?_); (rintro e W2 ⟨rfl, hbn⟩); (have bW := bW.st hbn); (have B1 := B1.below hbn B1.lt); (clear hbn z0 z1 z2 z3 z4 z5 z6 z7 z8 z9 CX); (have z1 := B1.cell 1 (v := .int .i64 x.kd) rfl); (have z2 := B1.cell 2 (v := .int .i64 x.am) rfl); (clear B1)
    go_wp2_with fail
    refine (CQ.out _).mono ?_
    rintro e w' ⟨rfl, kq, rfl⟩
    go_wp2_with fail
    go_ret
    exact ⟨rfl, below_drewN bW kq⟩
  · rw [if_neg q1] at hv ha
    have q2 : (x.kd == 1) = false := by simp [q1]
    by_cases q3 : x.kd = 2
    · rw [if_pos q3] at hv ha
      have q4 : (x.kd == 2) = true := by simp [q3]
      clear q1 q3
      have HV := Lib.hid hv
      clear hv
      by_cases q5 : x.am < n
      · have R := Lib.hid (HV.out.symm.trans (if_pos q5))
        clear HV
        go_enter Tryz.func58, Tryz.ntmps58
        (go_wp2_with fail); (refine (CX.out _).mono ?_); (rintro e W2 ⟨rfl, hbn⟩); (have bW := bW.st hbn); (have B1 := B1.below hbn B1.lt); (clear hbn z0 z1 z2 z3 z4 z5 z6 z7 z8 z9 CX); (have z1 := B1.cell 1 (v := .int .i64 x.kd) rfl); (have z2 := B1.cell 2 (v := .int .i64 x.am) rfl); (clear B1)
        go_wp2_with fail
        go_ret
        exact ⟨by rw [R.out]; simp; omega, bW⟩
      · have R := Lib.hid (HV.out.symm.trans (if_neg q5))
        clear HV
        go_enter Tryz.func58, Tryz.ntmps58
        (go_wp2_with fail); (refine (CX.out _).mono ?_); (rintro e W2 ⟨rfl, hbn⟩); (have bW := bW.st hbn); (have B1 := B1.below hbn B1.lt); (clear hbn z0 z1 z2 z3 z4 z5 z6 z7 z8 z9 CX); (have z1 := B1.cell 1 (v := .int .i64 x.kd) rfl); (have z2 := B1.cell 2 (v := .int .i64 x.am) rfl); (clear B1)
        go_wp2_with fail
        go_ret
        exact ⟨by rw [R.out]; simp; omega, bW⟩
    · rw [if_neg q3] at hv ha
      have q4 : (x.kd == 2) = false := by simp [q3]
      subst hv
      clear q1 q3 ha k1 k2
      go_enter Tryz.func58, Tryz.ntmps58
      (go_wp2_with fail); (refine (CX.out _).mono ?_); (rintro e W2 ⟨rfl, hbn⟩); (have bW := bW.st hbn); (have B1 := B1.below hbn B1.lt); (clear hbn z0 z1 z2 z3 z4 z5 z6 z7 z8 z9 CX); (have z1 := B1.cell 1 (v := .int .i64 x.kd) rfl); (have z2 := B1.cell 2 (v := .int .i64 x.am) rfl); (clear B1)
      go_wp2_with fail
      go_ret
      exact ⟨rfl, bW⟩
end Go.Proofs.YtelchfijalkibaaGreatDoor
/- The best combination of discounts, in plain words: an order that is total, what an enumeration must show. No program in sight. -/
namespace Go.Proofs.YtelchfijalkibaaGreatDoor
open Go.RowKit Go.Lib

def amtN (l : List Dc) (n : Int) (i : Nat) : Int := match l[i]? with
  | some x => amtV x n
  | none => 0
def sumA (l : List Dc) (n : Int) : List Nat → Int
  | [] => 0
  | i :: c => amtN l n i + sumA l n c
/-- by how much a combination reduces a price -/
def red (l : List Dc) (n : Int) (c : List Nat) : Int := if n < sumA l n c then n else sumA l n c
def clashB (l : List Dc) (i j : Nat) : Bool := match l[i]?, l[j]? with
  | some x, some y => !(emp x.gr) && eqS x.gr y.gr
  | _, _ => false
/-- a permitted combination -/
structure Cand (l : List Dc) (c : List Nat) : Prop where
  asc : c.Pairwise (· < ·)
  lt : ∀ i ∈ c, i < l.length
  ok : c.Pairwise (fun k i => clashB l k i = false)
def lexN : List Nat → List Nat → Bool
  | [], _ => false
  | _ :: _, [] => false
  | a :: s, b :: t => decide (a < b) || (decide (a = b) && lexN s t)
/-- a reduces the price more than b, or as much by fewer, or by as many that come first -/
def betB (l : List Dc) (n : Int) (a b : List Nat) : Bool :=
  decide (red l n b < red l n a) || (decide (red l n a = red l n b) && (decide (a.length < b.length) || (decide (a.length = b.length) && lexN a b)))

theorem sumA_snoc (l : List Dc) (n : Int) (c : List Nat) (i : Nat) : sumA l n (c ++ [i]) = sumA l n c + amtN l n i := by
  induction c with
  | nil => simp [sumA]
  | cons a c ih => simp [sumA, ih]; omega
theorem lexN_irr (a : List Nat) : lexN a a = false := by
  induction a with
  | nil => rfl
  | cons x a ih => simp [lexN, ih]
theorem lexN_asym : ∀ (a b : List Nat), lexN a b = true → lexN b a = false
  | [], _, h => by simp [lexN] at h
  | _ :: _, [], h => by simp [lexN] at h
  | x :: a, y :: b, h => by
    simp only [lexN, Bool.or_eq_true, Bool.and_eq_true, decide_eq_true_eq] at h
    simp only [lexN, Bool.or_eq_false_iff, Bool.and_eq_false_iff, decide_eq_false_iff_not]
    rcases h with h | ⟨h1, h2⟩
    · exact ⟨by omega, .inl (by omega)⟩
    · exact ⟨by omega, .inr (lexN_asym a b h2)⟩
theorem lexN_tot : ∀ (a b : List Nat), a.length = b.length → lexN a b = false → lexN b a = false → a = b
  | [], [], _, _, _ => rfl
  | [], _ :: _, h, _, _ => by simp at h
  | _ :: _, [], h, _, _ => by simp at h
  | x :: a, y :: b, h, h1, h2 => by
    simp only [lexN, Bool.or_eq_false_iff, Bool.and_eq_false_iff, decide_eq_false_iff_not] at h1 h2
    obtain rfl : x = y := by omega
    have h3 : lexN a b = false := by rcases h1.2 with q | q; (exact absurd rfl q); (exact q)
    have h4 : lexN b a = false := by rcases h2.2 with q | q; (exact absurd rfl q); (exact q)
    rw [lexN_tot a b (by simpa using h) h3 h4]
theorem lexN_tr : ∀ (a b c : List Nat), a.length = b.length → b.length = c.length → lexN a b = false → lexN b c = false → lexN a c = false
  | [], _, _, _, _, _, _ => rfl
  | _ :: _, [], _, h, _, _, _ => by simp at h
  | _ :: _, _ :: _, [], _, h, _, _ => by simp at h
  | x :: a, y :: b, z :: c, h, h', h1, h2 => by
    simp only [lexN, Bool.or_eq_false_iff, Bool.and_eq_false_iff, decide_eq_false_iff_not] at h1 h2 ⊢
    refine ⟨by omega, ?_⟩
    by_cases e : x = z
    · have e1 : x = y := by omega
      have e2 : y = z := by omega
      right
      exact lexN_tr a b c (by simpa using h) (by simpa using h') (by rcases h1.2 with q | q; (exact absurd e1 q); (exact q)) (by rcases h2.2 with q | q; (exact absurd e2 q); (exact q))
    · exact .inl e
theorem betB_no {l : List Dc} {n : Int} {a b : List Nat} : betB l n a b = false ↔ red l n a ≤ red l n b ∧ (red l n a = red l n b → b.length ≤ a.length ∧ (a.length = b.length → lexN a b = false)) := by
  unfold betB
  simp only [Bool.or_eq_false_iff, Bool.and_eq_false_iff, decide_eq_false_iff_not]
  constructor
  · rintro ⟨h1, h2⟩
    refine ⟨by omega, fun e => ?_⟩
    rcases h2 with h2 | ⟨h2, h3⟩
    · exact absurd e h2
    · refine ⟨by omega, fun e2 => ?_⟩
      rcases h3 with h3 | h3
      · exact absurd e2 h3
      · exact h3
  · rintro ⟨h1, h2⟩
    refine ⟨by omega, ?_⟩
    by_cases e : red l n a = red l n b
    · obtain ⟨h3, h4⟩ := h2 e
      refine .inr ⟨by omega, ?_⟩
      by_cases e2 : a.length = b.length
      · exact .inr (h4 e2)
      · exact .inl e2
    · exact .inl e
theorem betB_irr (l : List Dc) (n : Int) (a : List Nat) : betB l n a a = false := betB_no.2 ⟨Int.le_refl _, fun _ => ⟨Nat.le_refl _, fun _ => lexN_irr a⟩⟩
theorem betB_tr {l : List Dc} {n : Int} {a b c : List Nat} (h1 : betB l n a b = false) (h2 : betB l n b c = false) : betB l n a c = false := by
  rw [betB_no] at h1 h2 ⊢
  refine ⟨by omega, fun e => ?_⟩
  obtain ⟨p1, p2⟩ := h1.2 (by omega)
  obtain ⟨q1, q2⟩ := h2.2 (by omega)
  refine ⟨by omega, fun e2 => ?_⟩
  exact lexN_tr a b c (by omega) (by omega) (p2 (by omega)) (q2 (by omega))
theorem betB_asym {l : List Dc} {n : Int} {a b : List Nat} (h : betB l n a b = true) : betB l n b a = false := by
  cases q : betB l n b a
  · rfl
  · exfalso
    unfold betB at h q
    simp only [Bool.or_eq_true, Bool.and_eq_true, decide_eq_true_eq] at h q
    rcases h with h | ⟨h, h' | ⟨h', h2⟩⟩ <;> rcases q with q | ⟨q, q' | ⟨q', q2⟩⟩ <;> try omega
    rw [lexN_asym _ _ h2] at q2
    cases q2
theorem betB_eq {l : List Dc} {n : Int} {a b : List Nat} (h1 : betB l n a b = false) (h2 : betB l n b a = false) : a = b := by
  rw [betB_no] at h1 h2
  obtain ⟨p1, p2⟩ := h1.2 (by omega)
  obtain ⟨q1, q2⟩ := h2.2 (by omega)
  exact lexN_tot a b (by omega) (p2 (by omega)) (q2 (by omega))
/-- the best combination -/
def BestR (l : List Dc) (n : Int) (b : List Nat) : Prop := Cand l b ∧ ∀ c, Cand l c → betB l n c b = false
theorem BestR.unique {l : List Dc} {n : Int} {a b : List Nat} (h1 : BestR l n a) (h2 : BestR l n b) : a = b := betB_eq (h2.2 a h1.1) (h1.2 b h2.1)
theorem Cand.nil (l : List Dc) : Cand l [] := ⟨List.Pairwise.nil, fun _ h => absurd h (by simp), List.Pairwise.nil⟩
theorem Cand.snoc {l : List Dc} {c : List Nat} {i : Nat} (h : Cand l c) (h1 : ∀ k ∈ c, k < i) (h2 : i < l.length) (h3 : ∀ k ∈ c, clashB l k i = false) : Cand l (c ++ [i]) := by
  refine ⟨?_, ?_, ?_⟩
  · rw [List.pairwise_append]
    exact ⟨h.asc, List.pairwise_singleton _ _, fun a ha b hb => by simp at hb; subst hb; exact h1 a ha⟩
  · intro j hj
    rw [List.mem_append] at hj
    rcases hj with hj | hj
    · exact h.lt j hj
    · simp at hj; omega
  · rw [List.pairwise_append]
    exact ⟨h.ok, List.pairwise_singleton _ _, fun a ha b hb => by simp at hb; subst hb; exact h3 a ha⟩
/-- what add shows: b' is not worse than b, nor than c with any further ones from k on -/
structure AddR (l : List Dc) (n : Int) (c : List Nat) (k : Nat) (b b' : List Nat) : Prop where
  cand : Cand l b'
  old : betB l n b b' = false
  all : ∀ d, Cand l (c ++ d) → (∀ i ∈ d, k ≤ i) → betB l n (c ++ d) b' = false
structure LoopR (l : List Dc) (n : Int) (c : List Nat) (k0 k : Nat) (b b' : List Nat) : Prop where
  cand : Cand l b'
  old : betB l n b b' = false
  all : ∀ d, Cand l (c ++ d) → (∀ i ∈ d, k0 ≤ i) → (∀ i ∈ d.head?, i < k) → betB l n (c ++ d) b' = false
theorem LoopR.start {l : List Dc} {n : Int} {c : List Nat} (k0 : Nat) {b b1 : List Nat} (h : Cand l b1) (h1 : betB l n b b1 = false) (h2 : betB l n c b1 = false) : LoopR l n c k0 k0 b b1 := by
  refine ⟨h, h1, fun d hd h3 h4 => ?_⟩
  cases d with
  | nil => rw [List.append_nil]; exact h2
  | cons x d =>
    have q1 := h3 x (by simp)
    have q2 := h4 x (by simp)
    omega
theorem LoopR.skip {l : List Dc} {n : Int} {c : List Nat} {k0 k : Nat} {b b1 : List Nat} (h : LoopR l n c k0 k b b1) (hc : c.any (fun x => clashB l x k) = true) : LoopR l n c k0 (k + 1) b b1 := by
  refine ⟨h.cand, h.old, fun d hd h3 h4 => ?_⟩
  cases d with
  | nil => exact h.all [] hd h3 (by simp)
  | cons x d =>
    have q2 := h4 x (by simp)
    by_cases e : x = k
    · exfalso
      subst e
      obtain ⟨y, hy, hcl⟩ := List.any_eq_true.1 hc
      have := (List.pairwise_append.1 hd.ok).2.2 y hy x (by simp)
      rw [this] at hcl
      cases hcl
    · exact h.all (x :: d) hd h3 (by simp; omega)
theorem LoopR.step {l : List Dc} {n : Int} {c : List Nat} {k0 k : Nat} {b b1 b2 : List Nat} (h : LoopR l n c k0 k b b1) (ha : AddR l n (c ++ [k]) (k + 1) b1 b2) : LoopR l n c k0 (k + 1) b b2 := by
  refine ⟨ha.cand, betB_tr h.old ha.old, fun d hd h3 h4 => ?_⟩
  cases d with
  | nil => exact betB_tr (h.all [] hd h3 (by simp)) ha.old
  | cons x d =>
    have q2 := h4 x (by simp)
    by_cases e : x = k
    · subst e
      have e2 : c ++ x :: d = (c ++ [x]) ++ d := by simp
      rw [e2] at hd ⊢
      refine ha.all d hd fun i hi => ?_
      have := (List.pairwise_append.1 hd.asc).2.2 x (by simp) i hi
      omega
    · exact betB_tr (h.all (x :: d) hd h3 (by simp; omega)) ha.old
theorem LoopR.fin {l : List Dc} {n : Int} {c : List Nat} {k0 k : Nat} {b b1 : List Nat} (h : LoopR l n c k0 k b b1) (hk : l.length ≤ k) : AddR l n c k0 b b1 := by
  refine ⟨h.cand, h.old, fun d hd h3 => h.all d hd h3 fun i hi => ?_⟩
  have hm : i ∈ d := List.mem_of_mem_head? hi
  have := hd.lt i (List.mem_append_right _ hm)
  omega
theorem AddR.best {l : List Dc} {n : Int} {b b' : List Nat} (h : AddR l n [] 0 b b') : BestR l n b' := ⟨h.cand, fun c hc => h.all c hc fun _ _ => Nat.zero_le _⟩
end Go.Proofs.YtelchfijalkibaaGreatDoor
