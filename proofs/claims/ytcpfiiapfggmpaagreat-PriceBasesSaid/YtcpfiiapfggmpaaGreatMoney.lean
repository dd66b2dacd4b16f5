/- money: Fits, size, total, Add, Sum, Ratio over one, walked. -/
import Derived.Test.YtcpfiiapfggmpaaGreatJRelMath
import Derived.Test.YtcpfiiapfggmpaaGreatJFirst
import Derived.Test.YtcpfiiapfggmpaaGreatJShelf
namespace Go.Proofs.YtcpfiiapfggmpaaGreat
open Go.RowKit Go.Lib

theorem div0_any {n : Nat} (h : n < 18446744073709551616) (w : World) : Calls Tryz.prog 93 #[.int .u64 0, .int .u64 n, .int .u64 1] w fun e w' => e = .returned (.tuple #[.int .u64 n, .int .u64 0]) ∧ ∃ k, w' = w.drewN k := by
  have h0 : (0 : Int) ≤ (n : Int) := by omega
  have h1 : (n : Int) < 18446744073709551616 := by omega
  go_enter Tryz.func93, Tryz.ntmps93
  go_wp2_with fail
  go_quiet (fail)
  go_wp2
  go_ret2
  exact ⟨rfl, _, rfl⟩
/-- n times num over one, rounded down -/
theorem ratio1_any {n m : Nat} (hn : n ≤ 1125899906842624) (hm : m < 9223372036854775808) (w : World) :
    Calls Tryz.prog 47 #[.int .i64 n, .int .i64 m, .int .i64 1, .int .i64 1] w fun e w' =>
      e = .returned (.tuple #[.int .i64 (if 1125899906842624 < n * m then 0 else (n * m : Nat)), .int .i64 (if 1125899906842624 < n * m then 13 else 0)]) ∧ ∃ k, w' = w.drewN k := by
  have hn0 : (0 : Int) ≤ (n : Int) := by omega
  have hm0 : (0 : Int) ≤ (m : Int) := by omega
  have C1 := Lib.hid (fun w => fits_yes (n := (n : Int)) (by omega) w)
  have C2 := Lib.hid (fun w => size_any (n := n) (by omega) w)
  have C3 := Lib.hid (fun w => size_any (n := m) hm w)
  have C4 : Hid (∀ w, Calls Tryz.prog 91 #[.int .i64 1] w fun e w' => e = .returned (.int .u64 1) ∧ w' = w) := Lib.hid (fun w => size_any (n := 1) (by omega) w)
  have C5 := Lib.hid (fun w => mul_any (n := n) (m := m) (by omega) (by omega) w)
  generalize n * m = p at *
  have hp0 : (0 : Int) ≤ (p : Int) := by omega
  by_cases h : p < 18446744073709551616
  · have e1 : p / 18446744073709551616 = 0 := by omega
    have e2 : p % 18446744073709551616 = p := by omega
    rw [e1, e2] at C5
    have C6 := Lib.hid (fun w => div0_any h w)
    clear e1 e2
    by_cases h2 : 1125899906842624 < p
    · have h2' : (1125899906842624 : Int) < (p : Int) := by omega
      rw [if_pos h2, if_pos h2]
      go_enter Tryz.func47, Tryz.ntmps47
      go_wp2_with (first | (go_at_call 55; with_reducible refine (C1.out _).mono ?_; rintro e w' ⟨rfl, rfl⟩) | (go_at_call 91; with_reducible refine (C4.out _).mono ?_; rintro e w' ⟨rfl, rfl⟩) | (go_at_call 91; with_reducible refine (C2.out _).mono ?_; rintro e w' ⟨rfl, rfl⟩) | (go_at_call 91; with_reducible refine (C3.out _).mono ?_; rintro e w' ⟨rfl, rfl⟩) | (go_at_call 92; with_reducible refine (C5.out _).mono ?_; rintro e w' ⟨rfl, rfl⟩) | (go_at_call 93; with_reducible refine (C6.out _).mono ?_; rintro e w6 ⟨rfl, k6, rfl⟩))
      all_goals (go_ret2; exact ⟨rfl, k6, rfl⟩)
    · have h2' : (p : Int) ≤ 1125899906842624 := by omega
      rw [if_neg h2, if_neg h2]
      go_enter Tryz.func47, Tryz.ntmps47
      go_wp2_with (first | (go_at_call 55; with_reducible refine (C1.out _).mono ?_; rintro e w' ⟨rfl, rfl⟩) | (go_at_call 91; with_reducible refine (C4.out _).mono ?_; rintro e w' ⟨rfl, rfl⟩) | (go_at_call 91; with_reducible refine (C2.out _).mono ?_; rintro e w' ⟨rfl, rfl⟩) | (go_at_call 91; with_reducible refine (C3.out _).mono ?_; rintro e w' ⟨rfl, rfl⟩) | (go_at_call 92; with_reducible refine (C5.out _).mono ?_; rintro e w' ⟨rfl, rfl⟩) | (go_at_call 93; with_reducible refine (C6.out _).mono ?_; rintro e w6 ⟨rfl, k6, rfl⟩))
      all_goals (go_ret2; exact ⟨rfl, k6, rfl⟩)
  · rw [if_pos (by omega), if_pos (by omega)]
    have h1 : (1 : Int) ≤ ((p / 18446744073709551616 : Nat) : Int) := by omega
    generalize p / 18446744073709551616 = hi at *
    generalize p % 18446744073709551616 = lo at *
    clear h
    go_enter Tryz.func47, Tryz.ntmps47
    go_wp2_with (first | (go_at_call 55; with_reducible refine (C1.out _).mono ?_; rintro e w' ⟨rfl, rfl⟩) | (go_at_call 91; with_reducible refine (C4.out _).mono ?_; rintro e w' ⟨rfl, rfl⟩) | (go_at_call 91; with_reducible refine (C2.out _).mono ?_; rintro e w' ⟨rfl, rfl⟩) | (go_at_call 91; with_reducible refine (C3.out _).mono ?_; rintro e w' ⟨rfl, rfl⟩) | (go_at_call 92; with_reducible refine (C5.out _).mono ?_; rintro e w' ⟨rfl, rfl⟩))
    all_goals (go_ret2; exact ⟨rfl, 0, rfl⟩)
theorem ratio1_ok {n m : Int} (h0 : 0 ≤ n) (h1 : n ≤ 1125899906842624) (h2 : 0 ≤ m) (h3 : m < 9223372036854775808) (h : m * n ≤ 1125899906842624) (w : World) :
    Calls Tryz.prog 47 #[.int .i64 n, .int .i64 m, .int .i64 1, .int .i64 1] w fun e w' => e = .returned (.tuple #[.int .i64 (m * n), .int .i64 0]) ∧ ∃ k, w' = w.drewN k := by
  obtain ⟨a, rfl⟩ := Int.eq_ofNat_of_zero_le h0
  obtain ⟨b, rfl⟩ := Int.eq_ofNat_of_zero_le h2
  have h' : a * b ≤ 1125899906842624 := by rw [Nat.mul_comm]; exact Int.ofNat_le.1 (by rw [Int.natCast_mul]; exact h)
  refine (ratio1_any (n := a) (m := b) (by omega) (by omega) w).mono ?_
  rintro e w' ⟨rfl, k, rfl⟩
  rw [if_neg (by omega), if_neg (by omega), Nat.mul_comm, Int.natCast_mul]
  exact ⟨rfl, k, rfl⟩
theorem ratio1_no {n m : Int} (h0 : 0 ≤ n) (h1 : n ≤ 1125899906842624) (h2 : 0 ≤ m) (h3 : m < 9223372036854775808) (h : 1125899906842624 < m * n) (w : World) :
    Calls Tryz.prog 47 #[.int .i64 n, .int .i64 m, .int .i64 1, .int .i64 1] w fun e w' => e = .returned (.tuple #[.int .i64 0, .int .i64 13]) ∧ ∃ k, w' = w.drewN k := by
  obtain ⟨a, rfl⟩ := Int.eq_ofNat_of_zero_le h0
  obtain ⟨b, rfl⟩ := Int.eq_ofNat_of_zero_le h2
  have h' : 1125899906842624 < a * b := by rw [Nat.mul_comm]; exact Int.ofNat_lt.1 (by rw [Int.natCast_mul]; exact h)
  refine (ratio1_any (n := a) (m := b) (by omega) (by omega) w).mono ?_
  rintro e w' ⟨rfl, k, rfl⟩
  rw [if_pos h', if_pos h']
  exact ⟨rfl, k, rfl⟩
theorem sum_bounds : ∀ {l : List Int}, (∀ x ∈ l, -1125899906842624 ≤ x ∧ x ≤ 1125899906842624) → -(1125899906842624 * (l.length : Int)) ≤ l.sum ∧ l.sum ≤ 1125899906842624 * (l.length : Int)
  | [], _ => by simp
  | x :: l, h => by
    have a := h x (by simp)
    have b := sum_bounds (l := l) fun y hy => h y (by simp [hy])
    simp only [List.sum_cons, List.length_cons]
    omega
theorem total_any {A : Option Addr} (c : Nat) {l : List Int} {w : World} (h : Rd encI 1 w w.heap.size A l) (hl : l.length ≤ 1024) (hb : ∀ x ∈ l, -1125899906842624 ≤ x ∧ x ≤ 1125899906842624) :
    Calls Tryz.prog 86 #[.slice A l.length c] w fun e w' => e = .returned (.int .i64 l.sum) ∧ Below w.heap.size w w' := by
  have H := Lib.hid h
  have HB := Lib.hid hb
  clear h hb
  go_enter Tryz.func86, Tryz.ntmps86
  go_wp2
  go_loopw [3, 8] (fun v i wr => ∃ (k : Nat) (q : Int), k ≤ l.length ∧ i = .int .i64 k ∧ Hid ((l.take k).sum = q) ∧ v = .int .i64 q ∧ Below w.heap.size w wr) (fun _ i _ => l.length - (RowKit.intOf i).toNat)
  case atStart => exact ⟨0, 0, Nat.zero_le _, rfl, rfl, rfl, Below.refl _ _⟩
  case round =>
    obtain ⟨k, q, hk, rfl, HO, rfl, hbr⟩ := hrel
    have hq := sum_bounds (l := l.take k) fun x hx => HB.out x (List.mem_of_mem_take hx)
    rw [HO.out, List.length_take, Nat.min_eq_left hk] at hq
    obtain ⟨hq1, hq2⟩ := hq
    by_cases hlt : k < l.length
    · obtain ⟨b, off, x, rfl, hg, hx, hc0⟩ := (H.out.keep hbr).i hlt
      obtain ⟨hx1, hx2⟩ := HB.out x (List.mem_of_getElem? hx)
      have R := Lib.hid (show (l.take (k + 1)).sum = q + x by rw [List.take_add_one, hx, List.sum_append, HO.out]; simp)
      clear hx HO
      go_wp2
      go_roundw
      case rel => exact ⟨k + 1, _, by omega, by go_num, R, rfl, hbr⟩
      case measure => simp [RowKit.intOf]; omega
    · obtain rfl : k = l.length := by omega
      have R := Lib.hid (show l.sum = q by have := HO.out; rwa [List.take_length] at this)
      clear HO
      go_wp2
      go_ret
      exact ⟨ret_int R.out.symm, hbr⟩
theorem Rd.two (w : World) (a b : Int) : Rd encI 1 (w.alloc (.cells #[.int .i64 a, .int .i64 b] 3)) (w.alloc (.cells #[.int .i64 a, .int .i64 b] 3)).heap.size (some ⟨w.heap.size, 0, none⟩) [a, b] := by
  intro _
  refine ⟨_, _, rfl, by simp, fun i x hi j u hu => ?_⟩
  match i, j with
  | 0, 0 => simp at hi; subst hi; simp [encI] at hu; subst hu; simp
  | 1, 0 => simp at hi; subst hi; simp [encI] at hu; subst hu; simp
  | i + 2, _ => simp at hi
  | 0, j + 1 => simp [encI] at hu
  | 1, j + 1 => simp [encI] at hu
theorem total2 (a b : Int) (w : World) (ha : -1125899906842624 ≤ a ∧ a ≤ 1125899906842624) (hb : -1125899906842624 ≤ b ∧ b ≤ 1125899906842624) :
    Calls Tryz.prog 86 #[.slice (some ⟨w.heap.size, 0, none⟩) 2 2] (w.alloc (.cells #[.int .i64 a, .int .i64 b] 3)) fun e w' => e = .returned (.int .i64 (a + b)) ∧ Below w.heap.size w w' := by
  refine (total_any 2 (Rd.two w a b) (by simp) (by intro x hx; simp at hx; rcases hx with rfl | rfl <;> assumption)).mono ?_
  rintro e w' ⟨rfl, hb'⟩
  exact ⟨ret_int (by simp), ((Below.refl _ w).al _).trans (hb'.mono (by simp))⟩
/-- the sum of two amounts -/
theorem add_any {a b : Int} (ha : -1125899906842624 ≤ a ∧ a ≤ 1125899906842624) (hb : -1125899906842624 ≤ b ∧ b ≤ 1125899906842624) (w : World) :
    Calls Tryz.prog 42 #[.int .i64 a, .int .i64 b] w fun e w' =>
      e = .returned (.tuple #[.int .i64 (if fitsB (a + b) = true then a + b else 0), .int .i64 (if fitsB (a + b) = true then 0 else 13)]) ∧ Below w.heap.size w w' := by
  have C1 := Lib.hid (fun w => fits_yes ha w)
  have C2 := Lib.hid (fun w => fits_yes hb w)
  have C3 := Lib.hid (fun w => total2 a b w ha hb)
  have C4 := Lib.hid (fun w => fits_any (a + b) w)
  cases hf : fitsB (a + b)
  · rw [hf] at C4
    rw [if_neg (by simp), if_neg (by simp)]
    clear ha hb hf
    generalize a + b = s at *
    go_enter Tryz.func42, Tryz.ntmps42
    go_wp2_with (first | (go_at_call 55; with_reducible refine (C1.out _).mono ?_; rintro e w' ⟨rfl, rfl⟩) | (go_at_call 55; with_reducible refine (C2.out _).mono ?_; rintro e w' ⟨rfl, rfl⟩) | (go_at_call 55; with_reducible refine (C4.out _).mono ?_; rintro e w' ⟨rfl, rfl⟩) | (go_at_call 86; with_reducible refine (C3.out _).mono ?_; rintro e w1 ⟨rfl, hb1⟩))
    all_goals (go_ret2; exact ⟨rfl, hb1⟩)
  · rw [hf] at C4
    rw [if_pos rfl, if_pos rfl]
    clear ha hb hf
    generalize a + b = s at *
    go_enter Tryz.func42, Tryz.ntmps42
    go_wp2_with (first | (go_at_call 55; with_reducible refine (C1.out _).mono ?_; rintro e w' ⟨rfl, rfl⟩) | (go_at_call 55; with_reducible refine (C2.out _).mono ?_; rintro e w' ⟨rfl, rfl⟩) | (go_at_call 55; with_reducible refine (C4.out _).mono ?_; rintro e w' ⟨rfl, rfl⟩) | (go_at_call 86; with_reducible refine (C3.out _).mono ?_; rintro e w1 ⟨rfl, hb1⟩))
    all_goals (go_ret2; exact ⟨rfl, by first | assumption | exact Below.st (by assumption) (by assumption)⟩)
theorem add_ok {a b : Int} (ha : -1125899906842624 ≤ a ∧ a ≤ 1125899906842624) (hb : -1125899906842624 ≤ b ∧ b ≤ 1125899906842624) (h : -1125899906842624 ≤ a + b ∧ a + b ≤ 1125899906842624) (w : World) :
    Calls Tryz.prog 42 #[.int .i64 a, .int .i64 b] w fun e w' => e = .returned (.tuple #[.int .i64 (a + b), .int .i64 0]) ∧ Below w.heap.size w w' := by
  have := add_any ha hb w
  have hf : fitsB (a + b) = true := by unfold fitsB; rw [decide_eq_true_iff]; exact h
  rwa [if_pos hf, if_pos hf] at this
theorem add_no {a b : Int} (ha : -1125899906842624 ≤ a ∧ a ≤ 1125899906842624) (hb : -1125899906842624 ≤ b ∧ b ≤ 1125899906842624) (h : 1125899906842624 < a + b) (w : World) :
    Calls Tryz.prog 42 #[.int .i64 a, .int .i64 b] w fun e w' => e = .returned (.tuple #[.int .i64 0, .int .i64 13]) ∧ Below w.heap.size w w' := by
  have := add_any ha hb w
  have hf : ¬ fitsB (a + b) = true := by unfold fitsB; rw [decide_eq_true_iff]; omega
  rwa [if_neg hf, if_neg hf] at this
/-- the sum of at most 1024 amounts that fit -/
theorem sum_any {A : Option Addr} (c : Nat) {l : List Int} {w : World} (h : Rd encI 1 w w.heap.size A l) (hl : l.length ≤ 1024) (hb : ∀ x ∈ l, -1125899906842624 ≤ x ∧ x ≤ 1125899906842624) :
    Calls Tryz.prog 75 #[.slice A l.length c] w fun e w' =>
      e = .returned (.tuple #[.int .i64 (if fitsB l.sum = true then l.sum else 0), .int .i64 (if fitsB l.sum = true then 0 else 13)]) ∧ Below w.heap.size w w' := by
  have H := Lib.hid h
  have HB := Lib.hid hb
  have C1 := Lib.hid (fun (W : World) (hW : Below w.heap.size w W) => total_any c (h.st hW) hl hb)
  have C2 := Lib.hid (fun w => fits_any l.sum w)
  clear h hb
  have hl' : (l.length : Int) ≤ 1024 := by omega
  cases hf : fitsB l.sum
  all_goals (rw [hf] at C2)
  · rw [if_neg (by simp), if_neg (by simp)]
    clear hf
    go_enter Tryz.func75, Tryz.ntmps75
    go_wp2
    go_loopw [12] (fun i wr => ∃ (k : Nat), k ≤ l.length ∧ i = .int .i64 k ∧ Below w.heap.size w wr) (fun i _ => l.length - (RowKit.intOf i).toNat)
    case atStart => exact ⟨0, Nat.zero_le _, rfl, Below.refl _ _⟩
    case round =>
      obtain ⟨k, hk, rfl, hbr⟩ := hrel
      by_cases hlt : k < l.length
      · obtain ⟨b, off, x, rfl, hg, hx, hc0⟩ := (H.out.keep hbr).i hlt
        have C3 := Lib.hid (fun w => fits_yes (HB.out x (List.mem_of_getElem? hx)) w)
        clear hx
        go_wp2_with (go_at_call 55; with_reducible refine (C3.out _).mono ?_; rintro e w' ⟨rfl, rfl⟩)
        go_roundw
        case rel => exact ⟨k + 1, by omega, by go_num, hbr⟩
        case measure => simp [RowKit.intOf]; omega
      · obtain rfl : k = l.length := by omega
        have C1' := Lib.hid (C1.out _ hbr)
        clear H HB C1
        obtain ⟨s, hs⟩ : ∃ s, l.sum = s := ⟨_, rfl⟩
        rw [hs] at C1' C2
        go_wp2_with (first | (go_at_call 86; with_reducible refine (C1'.out).mono ?_; rintro e w1 ⟨rfl, hb1⟩) | (go_at_call 55; with_reducible refine (C2.out _).mono ?_; rintro e w' ⟨rfl, rfl⟩))
        all_goals (go_ret2; exact ⟨by first | rfl | (rw [hs]; rfl), hbr.trans (hb1.mono hbr.size)⟩)
  · rw [if_pos rfl, if_pos rfl]
    clear hf
    go_enter Tryz.func75, Tryz.ntmps75
    go_wp2
    go_loopw [12] (fun i wr => ∃ (k : Nat), k ≤ l.length ∧ i = .int .i64 k ∧ Below w.heap.size w wr) (fun i _ => l.length - (RowKit.intOf i).toNat)
    case atStart => exact ⟨0, Nat.zero_le _, rfl, Below.refl _ _⟩
    case round =>
      obtain ⟨k, hk, rfl, hbr⟩ := hrel
      by_cases hlt : k < l.length
      · obtain ⟨b, off, x, rfl, hg, hx, hc0⟩ := (H.out.keep hbr).i hlt
        have C3 := Lib.hid (fun w => fits_yes (HB.out x (List.mem_of_getElem? hx)) w)
        clear hx
        go_wp2_with (go_at_call 55; with_reducible refine (C3.out _).mono ?_; rintro e w' ⟨rfl, rfl⟩)
        go_roundw
        case rel => exact ⟨k + 1, by omega, by go_num, hbr⟩
        case measure => simp [RowKit.intOf]; omega
      · obtain rfl : k = l.length := by omega
        have C1' := Lib.hid (C1.out _ hbr)
        clear H HB C1
        obtain ⟨s, hs⟩ : ∃ s, l.sum = s := ⟨_, rfl⟩
        rw [hs] at C1' C2
        go_wp2_with (first | (go_at_call 86; with_reducible refine (C1'.out).mono ?_; rintro e w1 ⟨rfl, hb1⟩) | (go_at_call 55; with_reducible refine (C2.out _).mono ?_; rintro e w' ⟨rfl, rfl⟩))
        all_goals (go_ret2; exact ⟨by first | rfl | (rw [hs]; rfl), hbr.trans (hb1.mono hbr.size)⟩)
end Go.Proofs.YtcpfiiapfggmpaaGreat
