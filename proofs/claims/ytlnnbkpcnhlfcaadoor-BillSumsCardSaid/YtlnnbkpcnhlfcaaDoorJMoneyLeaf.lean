/- Joined texts: MoneyLeaf, Money, SumAny. -/
import Derived.Test.YtlnnbkpcnhlfcaaDoorJInts
import Derived.Test.YtlnnbkpcnhlfcaaDoorJValid
/- money: Fits, size, and bits.Mul64, walked. -/
namespace Go.Proofs.YtlnnbkpcnhlfcaaDoor
open Go.RowKit Go.Lib

def fitsB (n : Int) : Bool := decide (-1125899906842624 ≤ n ∧ n ≤ 1125899906842624)
theorem fits_any (n : Int) (w : World) : Calls Tryd.prog 49 #[.int .i64 n] w fun e w' => e = .returned (.bool (fitsB n)) ∧ w' = w := by
  unfold fitsB
  go_enter Tryd.func49, Tryd.ntmps49
  go_wp2
  all_goals (go_ret; exact ⟨ret_bool (by rw [Bool.eq_iff_iff]; simp; omega), rfl⟩)
theorem fits_yes {n : Int} (h : -1125899906842624 ≤ n ∧ n ≤ 1125899906842624) (w : World) : Calls Tryd.prog 49 #[.int .i64 n] w fun e w' => e = .returned (.bool true) ∧ w' = w := by
  have := fits_any n w
  rwa [show fitsB n = true by simp [fitsB, h]] at this
theorem fits_no {n : Int} (h : ¬ (-1125899906842624 ≤ n ∧ n ≤ 1125899906842624)) (w : World) : Calls Tryd.prog 49 #[.int .i64 n] w fun e w' => e = .returned (.bool false) ∧ w' = w := by
  have := fits_any n w
  rwa [show fitsB n = false by unfold fitsB; rw [decide_eq_false_iff_not]; exact h] at this
end Go.Proofs.YtlnnbkpcnhlfcaaDoor
/- money: Fits, size, total, Add, Sum, Ratio over one, walked. -/
namespace Go.Proofs.YtlnnbkpcnhlfcaaDoor
open Go.RowKit Go.Lib

theorem sum_bounds : ∀ {l : List Int}, (∀ x ∈ l, -1125899906842624 ≤ x ∧ x ≤ 1125899906842624) → -(1125899906842624 * (l.length : Int)) ≤ l.sum ∧ l.sum ≤ 1125899906842624 * (l.length : Int)
  | [], _ => by simp
  | x :: l, h => by
    have a := h x (by simp)
    have b := sum_bounds (l := l) fun y hy => h y (by simp [hy])
    simp only [List.sum_cons, List.length_cons]
    omega
theorem total_any {A : Option Addr} (c : Nat) {l : List Int} {w : World} (h : Rd encI 1 w w.heap.size A l) (hl : l.length ≤ 1024) (hb : ∀ x ∈ l, -1125899906842624 ≤ x ∧ x ≤ 1125899906842624) :
    Calls Tryd.prog 80 #[.slice A l.length c] w fun e w' => e = .returned (.int .i64 l.sum) ∧ Below w.heap.size w w' := by
  have H := Lib.hid h
  have HB := Lib.hid hb
  clear h hb
  go_enter Tryd.func80, Tryd.ntmps80
  go_wp2
  go_loopw [3, 8] (fun v i wr => ∃ (k : Nat) (q : Int), k ≤ l.length ∧ i = .int .i64 k ∧ Hid ((l.take k).sum = q) ∧ v = .int .i64 q ∧ Below w.heap.size w wr) (fun _ i _ => l.length - (RowKit.intOf i).toNat)
  case atStart => exact ⟨0, 0, Nat.zero_le _, rfl, rfl, rfl, Below.refl _ _⟩
  case round =>
    obtain ⟨k, q, hk, rfl, HO, rfl, hbr⟩ := hrel
    have hq := sum_bounds (l := l.take k) fun x hx => HB.out x (List.mem_of_mem_take hx)
    rw [HO.out, List.length_take, Nat.min_eq_left hk] at hq
    obtain ⟨hq1, hq2⟩ := hq
    by_cases hlt : k < l.length
    · obtain ⟨b, off, x, rfl, hg, hx, hc0⟩ := (H.out.keep hbr).i hlt
      obtain ⟨hx1, hx2⟩ := HB.out x (List.mem_of_getElem? hx)
      have R := Lib.hid (show (l.take (k + 1)).sum = q + x by rw [List.take_add_one, hx, List.sum_append, HO.out]; simp)
      clear hx HO
      go_wp2
      go_roundw
      case rel => exact ⟨k + 1, _, by omega, by go_num, R, rfl, hbr⟩
      case measure => simp [RowKit.intOf]; omega
    · obtain rfl : k = l.length := by omega
      have R := Lib.hid (show l.sum = q by have := HO.out; rwa [List.take_length] at this)
      clear HO
      go_wp2
      go_ret
      exact ⟨ret_int R.out.symm, hbr⟩
theorem Rd.two (w : World) (a b : Int) : Rd encI 1 (w.alloc (.cells #[.int .i64 a, .int .i64 b] 3)) (w.alloc (.cells #[.int .i64 a, .int .i64 b] 3)).heap.size (some ⟨w.heap.size, 0, none⟩) [a, b] := by
  intro _
  refine ⟨_, _, rfl, by simp, fun i x hi j u hu => ?_⟩
  match i, j with
  | 0, 0 => simp at hi; subst hi; simp [encI] at hu; subst hu; simp
  | 1, 0 => simp at hi; subst hi; simp [encI] at hu; subst hu; simp
  | i + 2, _ => simp at hi
  | 0, j + 1 => simp [encI] at hu
  | 1, j + 1 => simp [encI] at hu
theorem total2 (a b : Int) (w : World) (ha : -1125899906842624 ≤ a ∧ a ≤ 1125899906842624) (hb : -1125899906842624 ≤ b ∧ b ≤ 1125899906842624) :
    Calls Tryd.prog 80 #[.slice (some ⟨w.heap.size, 0, none⟩) 2 2] (w.alloc (.cells #[.int .i64 a, .int .i64 b] 3)) fun e w' => e = .returned (.int .i64 (a + b)) ∧ Below w.heap.size w w' := by
  refine (total_any 2 (Rd.two w a b) (by simp) (by intro x hx; simp at hx; rcases hx with rfl | rfl <;> assumption)).mono ?_
  rintro e w' ⟨rfl, hb'⟩
  exact ⟨ret_int (by simp), ((Below.refl _ w).al _).trans (hb'.mono (by simp))⟩
/-- the sum of at most 1024 amounts that fit -/
theorem sum_any {A : Option Addr} (c : Nat) {l : List Int} {w : World} (h : Rd encI 1 w w.heap.size A l) (hl : l.length ≤ 1024) (hb : ∀ x ∈ l, -1125899906842624 ≤ x ∧ x ≤ 1125899906842624) :
    Calls Tryd.prog 45 #[.slice A l.length c] w fun e w' =>
      e = .returned (.tuple #[.int .i64 (if fitsB l.sum = true then l.sum else 0), .int .i64 (if fitsB l.sum = true then 0 else 13)]) ∧ Below w.heap.size w w' := by
  have H := Lib.hid h
  have HB := Lib.hid hb
  have C1 := Lib.hid (fun (W : World) (hW : Below w.heap.size w W) => total_any c (h.st hW) hl hb)
  have C2 := Lib.hid (fun w => fits_any l.sum w)
  clear h hb
  have hl' : (l.length : Int) ≤ 1024 := by omega
  cases hf : fitsB l.sum
  all_goals (rw [hf] at C2)
  · rw [if_neg (by simp), if_neg (by simp)]
    clear hf
    go_enter Tryd.func45, Tryd.ntmps45
    go_wp2
    go_loopw [12] (fun i wr => ∃ (k : Nat), k ≤ l.length ∧ i = .int .i64 k ∧ Below w.heap.size w wr) (fun i _ => l.length - (RowKit.intOf i).toNat)
    case atStart => exact ⟨0, Nat.zero_le _, rfl, Below.refl _ _⟩
    case round =>
      obtain ⟨k, hk, rfl, hbr⟩ := hrel
      by_cases hlt : k < l.length
      · obtain ⟨b, off, x, rfl, hg, hx, hc0⟩ := (H.out.keep hbr).i hlt
        have C3 := Lib.hid (fun w => fits_yes (HB.out x (List.mem_of_getElem? hx)) w)
        clear hx
        go_wp2_with (go_at_call 49; with_reducible refine (C3.out _).mono ?_; rintro e w' ⟨rfl, rfl⟩)
        go_roundw
        case rel => exact ⟨k + 1, by omega, by go_num, hbr⟩
        case measure => simp [RowKit.intOf]; omega
      · obtain rfl : k = l.length := by omega
        have C1' := Lib.hid (C1.out _ hbr)
        clear H HB C1
        obtain ⟨s, hs⟩ : ∃ s, l.sum = s := ⟨_, rfl⟩
        rw [hs] at C1' C2
        go_wp2_with (first | (go_at_call 80; with_reducible refine (C1'.out).mono ?_; rintro e w1 ⟨rfl, hb1⟩) | (go_at_call 49; with_reducible refine (C2.out _).mono ?_; rintro e w' ⟨rfl, rfl⟩))
        all_goals (go_ret2; exact ⟨by first | rfl | (rw [hs]; rfl), hbr.trans (hb1.mono hbr.size)⟩)
  · rw [if_pos rfl, if_pos rfl]
    clear hf
    go_enter Tryd.func45, Tryd.ntmps45
    go_wp2
    go_loopw [12] (fun i wr => ∃ (k : Nat), k ≤ l.length ∧ i = .int .i64 k ∧ Below w.heap.size w wr) (fun i _ => l.length - (RowKit.intOf i).toNat)
    case atStart => exact ⟨0, Nat.zero_le _, rfl, Below.refl _ _⟩
    case round =>
      obtain ⟨k, hk, rfl, hbr⟩ := hrel
      by_cases hlt : k < l.length
      · obtain ⟨b, off, x, rfl, hg, hx, hc0⟩ := (H.out.keep hbr).i hlt
        have C3 := Lib.hid (fun w => fits_yes (HB.out x (List.mem_of_getElem? hx)) w)
        clear hx
        go_wp2_with (go_at_call 49; with_reducible refine (C3.out _).mono ?_; rintro e w' ⟨rfl, rfl⟩)
        go_roundw
        case rel => exact ⟨k + 1, by omega, by go_num, hbr⟩
        case measure => simp [RowKit.intOf]; omega
      · obtain rfl : k = l.length := by omega
        have C1' := Lib.hid (C1.out _ hbr)
        clear H HB C1
        obtain ⟨s, hs⟩ : ∃ s, l.sum = s := ⟨_, rfl⟩
        rw [hs] at C1' C2
        go_wp2_with (first | (go_at_call 80; with_reducible refine (C1'.out).mono ?_; rintro e w1 ⟨rfl, hb1⟩) | (go_at_call 49; with_reducible refine (C2.out _).mono ?_; rintro e w' ⟨rfl, rfl⟩))
        all_goals (go_ret2; exact ⟨by first | rfl | (rw [hs]; rfl), hbr.trans (hb1.mono hbr.size)⟩)
end Go.Proofs.YtlnnbkpcnhlfcaaDoor
/- money.Sum and the reference's Sum of at most 1024 amounts of any size, walked. -/
namespace Go.Proofs.YtlnnbkpcnhlfcaaDoor
open Go.RowKit Go.Lib

def sumV (l : List Int) : Int := if l.all fitsB = true then (if fitsB l.sum = true then l.sum else 0) else 0
def sumE (l : List Int) : Int := if l.all fitsB = true then (if fitsB l.sum = true then 0 else 13) else 13
theorem fitsB_bnd {x : Int} (h : fitsB x = true) : -1125899906842624 ≤ x ∧ x ≤ 1125899906842624 := by unfold fitsB at h; exact of_decide_eq_true h
theorem r3fits_any (n : Int) (w : World) : Calls Tryd.prog 52 #[.int .i64 n] w fun e w' => e = .returned (.bool (fitsB n)) ∧ w' = w := by
  unfold fitsB
  go_enter Tryd.func52, Tryd.ntmps52
  go_wp2
  all_goals (go_ret; exact ⟨ret_bool (by rw [Bool.eq_iff_iff]; simp; omega), rfl⟩)
theorem sum_split {l : List Int} (h : l.all fitsB = true) : ∀ x ∈ l, -1125899906842624 ≤ x ∧ x ≤ 1125899906842624 := fun x hx => fitsB_bnd (List.all_eq_true.1 h x hx)
set_option maxHeartbeats 2000000 in
theorem msumx_any {A : Option Addr} (c : Nat) {l : List Int} {w : World} (h : Rd encI 1 w w.heap.size A l) (hl : l.length ≤ 1024) :
    Calls Tryd.prog 45 #[.slice A l.length c] w fun e w' => e = .returned (.tuple #[.int .i64 (sumV l), .int .i64 (sumE l)]) ∧ Below w.heap.size w w' := by
  unfold sumV sumE
  cases ha : l.all fitsB
  · rw [if_neg (by simp), if_neg (by simp)]
    have HA := Lib.hid ha
    have H := Lib.hid h
    clear ha h
    have hl' : (l.length : Int) ≤ 1024 := by omega
    go_enter Tryd.func45, Tryd.ntmps45
    go_wp2
    go_loopw [12] (fun i wr => ∃ (k : Nat), k ≤ l.length ∧ i = .int .i64 k ∧ Hid (∀ x ∈ l.take k, fitsB x = true) ∧ Below w.heap.size w wr) (fun i _ => l.length - (RowKit.intOf i).toNat)
    case atStart => exact ⟨0, Nat.zero_le _, rfl, (by unfold Hid; simp), Below.refl _ _⟩
    case round =>
      obtain ⟨k, hk, rfl, HF, hbr⟩ := hrel
      by_cases hlt : k < l.length
      · obtain ⟨b, off, x, rfl, hg, hx, hc0⟩ := (H.out.keep hbr).i hlt
        have C3 := Lib.hid (fun w => fits_any x w)
        have HT := Lib.hid (fun (q : fitsB x = true) => show ∀ y ∈ l.take (k + 1), fitsB y = true by
          intro y hy
          rw [List.take_add_one, hx] at hy
          rcases List.mem_append.1 hy with hy | hy
          · exact HF.out y hy
          · simp at hy; subst hy; exact q)
        have HK := Lib.hid hlt
        clear hx
        cases hf : fitsB x
        · rw [hf] at C3
          clear HT hf
          go_wp2_with (go_at_call 49; with_reducible refine (C3.out _).mono ?_; rintro e w' ⟨rfl, rfl⟩)
          go_ret2
          exact ⟨rfl, hbr⟩
        · rw [hf] at C3
          have R := Lib.hid (HT.out hf)
          clear HT hf
          go_wp2_with (go_at_call 49; with_reducible refine (C3.out _).mono ?_; rintro e w' ⟨rfl, rfl⟩)
          go_roundw
          case rel => exact ⟨k + 1, HK.out, by go_num, R, hbr⟩
          case measure => have := HK.out; simp [RowKit.intOf]; omega
      · exfalso
        obtain rfl : k = l.length := by omega
        have := HF.out
        rw [List.take_length] at this
        have e := HA.out
        rw [List.all_eq_true.2 this] at e
        cases e
  · rw [if_pos rfl, if_pos rfl]
    exact sum_any c h hl (sum_split ha)
set_option maxHeartbeats 2000000 in
theorem rsumx_any {A : Option Addr} (c : Nat) {l : List Int} {w : World} (h : Rd encI 1 w w.heap.size A l) (hl : l.length ≤ 1024) :
    Calls Tryd.prog 48 #[.slice A l.length c] w fun e w' => e = .returned (.tuple #[.int .i64 (sumV l), .int .i64 (sumE l)]) ∧ Below w.heap.size w w' := by
  have H := Lib.hid h
  clear h
  have hl' : (l.length : Int) ≤ 1024 := by omega
  have HN := Lib.hid (fun (k : Nat) (x : Int) (hx : l[k]? = some x) (q : fitsB x = false) => show sumV l = 0 ∧ sumE l = 13 by
    have : ¬ l.all fitsB = true := fun e => by rw [List.all_eq_true] at e; rw [e x (List.mem_of_getElem? hx)] at q; cases q
    exact ⟨by unfold sumV; rw [if_neg this], by unfold sumE; rw [if_neg this]⟩)
  have HY := Lib.hid (fun (q : ∀ x ∈ l, fitsB x = true) => show sumV l = (if fitsB l.sum = true then l.sum else 0) ∧ sumE l = (if fitsB l.sum = true then 0 else 13) by
    exact ⟨by unfold sumV; rw [if_pos (List.all_eq_true.2 q)], by unfold sumE; rw [if_pos (List.all_eq_true.2 q)]⟩)
  generalize sumV l = sv at *
  generalize sumE l = se at *
  go_enter Tryd.func48, Tryd.ntmps48
  go_wp2
  go_loopw [4, 5] (fun v i wr => ∃ (k : Nat) (q : Int), k ≤ l.length ∧ i = .int .i64 k ∧ v = .int .i64 q ∧ Hid ((l.take k).sum = q) ∧ Hid (∀ x ∈ l.take k, fitsB x = true) ∧ Below w.heap.size w wr) (fun _ i _ => l.length - (RowKit.intOf i).toNat)
  case atStart => exact ⟨0, 0, Nat.zero_le _, rfl, rfl, rfl, (by unfold Hid; simp), Below.refl _ _⟩
  case round =>
    obtain ⟨k, q, hk, rfl, rfl, HO, HF, hbr⟩ := hrel
    have hq := sum_bounds (l := l.take k) fun x hx => fitsB_bnd (HF.out x hx)
    rw [HO.out, List.length_take, Nat.min_eq_left hk] at hq
    obtain ⟨hq1, hq2⟩ := hq
    by_cases hlt : k < l.length
    · obtain ⟨b, off, x, rfl, hg, hx, hc0⟩ := (H.out.keep hbr).i hlt
      have C3 := Lib.hid (fun w => r3fits_any x w)
      have HX := Lib.hid hx
      have HK := Lib.hid hlt
      clear hx
      cases hf : fitsB x
      · rw [hf] at C3
        have R := Lib.hid (HN.out k x HX.out hf)
        clear hf HN HY
        go_wp2_with (go_at_call 52; with_reducible refine (C3.out _).mono ?_; rintro e w' ⟨rfl, rfl⟩)
        go_ret2
        exact ⟨by rw [R.out.1, R.out.2]; rfl, hbr⟩
      · have R : Hid ((l.take (k + 1)).sum = q + x) := Lib.hid (show (l.take (k + 1)).sum = q + x by rw [List.take_add_one, HX.out, List.sum_append, HO.out]; simp)
        have RF : Hid (∀ y ∈ l.take (k + 1), fitsB y = true) := Lib.hid (by
          intro y hy
          rw [List.take_add_one, HX.out] at hy
          rcases List.mem_append.1 hy with hy | hy
          · exact HF.out y hy
          · simp at hy; subst hy; exact hf)
        obtain ⟨hx1, hx2⟩ := fitsB_bnd hf
        rw [hf] at C3
        have hw : IntKind.i64.wrap (q + x) = q + x := IntWalk.i64_in _ (by omega)
        clear hf HN HY HO HF
        go_wp2_with (go_at_call 52; with_reducible refine (C3.out _).mono ?_; rintro e w' ⟨rfl, rfl⟩)
        go_roundw
        case rel => exact ⟨k + 1, q + x, HK.out, by go_num, rfl, R, RF, hbr⟩
        case measure => have := HK.out; simp [RowKit.intOf]; omega
    · obtain rfl : k = l.length := by omega
      have R := HY.out (by have := HF.out; rwa [List.take_length] at this)
      rw [show l.sum = q by have := HO.out; rwa [List.take_length] at this] at R
      have R := Lib.hid R
      have C4 := Lib.hid (fun w => r3fits_any q w)
      clear HO HF HN HY
      cases hf : fitsB q
      · rw [hf] at C4 R
        clear hf
        go_wp2_with (go_at_call 52; with_reducible refine (C4.out _).mono ?_; rintro e w' ⟨rfl, rfl⟩)
        go_ret2
        exact ⟨by rw [R.out.1, R.out.2]; rfl, hbr⟩
      · rw [hf] at C4 R
        clear hf
        go_wp2_with (go_at_call 52; with_reducible refine (C4.out _).mono ?_; rintro e w' ⟨rfl, rfl⟩)
        go_ret2
        exact ⟨by rw [R.out.1, R.out.2]; rfl, hbr⟩
end Go.Proofs.YtlnnbkpcnhlfcaaDoor
