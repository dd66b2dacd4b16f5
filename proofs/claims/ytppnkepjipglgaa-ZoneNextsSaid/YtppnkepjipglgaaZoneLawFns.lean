/- The small functions of chapter 26's statements: great, sameSpans, within, total. -/
import Derived.Test.YtppnkepjipglgaaZoneEnforced
import Derived.Laws.StructEq
namespace Go.Proofs.Ytppnkepjipglgaa
open Go.RowKit Go.Lib

def greatB (z : Zn) : Bool := decide (60 < z.hs.length) || decide (40 < z.ss.length)
theorem greatB_no {z : Zn} (h : greatB z = false) : small z := by
  unfold greatB at h
  simp at h
  exact ⟨by omega, by omega⟩
theorem great_any (z : Zn) (w : World) :
    Calls Try.prog 10 #[ZV z] w fun e w' => e = .returned (.bool (greatB z)) ∧ Below w.heap.size w w' := by
  obtain ⟨nm, hA, hc, hs, sA, sc, ss, gr, fr, dm, ms⟩ := z
  simp only [ZV] at *
  have hb1 : Below w.heap.size w (w.alloc (.cells #[.string nm, .slice hA hs.length hc, .slice sA ss.length sc, .int .i64 gr, .int .i64 fr, .int .i64 dm, .int .i64 ms] 25)) := (Below.refl _ w).al _
  unfold greatB
  simp only
  by_cases h1 : 60 < hs.length
  · have R := Lib.hid (show (decide (60 < hs.length) || decide (40 < ss.length)) = true by simp [h1])
    generalize (decide (60 < hs.length) || decide (40 < ss.length)) = r at *
    go_enter Try.func10, Try.ntmps10
    go_wp2
    all_goals first | (go_ret; rw [R.out]; exact ⟨rfl, hb1⟩) | (exfalso; omega)
  · by_cases h2 : 40 < ss.length
    · have R := Lib.hid (show (decide (60 < hs.length) || decide (40 < ss.length)) = true by simp [h2])
      generalize (decide (60 < hs.length) || decide (40 < ss.length)) = r at *
      go_enter Try.func10, Try.ntmps10
      go_wp2
      all_goals first | (go_ret; rw [R.out]; exact ⟨rfl, hb1⟩) | (go_ret; rw [R.out]; exact ⟨ret_bool (by simp; omega), hb1⟩) | (exfalso; omega)
    · have R := Lib.hid (show (decide (60 < hs.length) || decide (40 < ss.length)) = false by simp; omega)
      generalize (decide (60 < hs.length) || decide (40 < ss.length)) = r at *
      go_enter Try.func10, Try.ntmps10
      go_wp2
      all_goals first | (go_ret; rw [R.out]; exact ⟨rfl, hb1⟩) | (go_ret; rw [R.out]; exact ⟨ret_bool (by simp; omega), hb1⟩) | (exfalso; omega)

set_option maxHeartbeats 1000000 in
theorem sameSpans_true {A B : Option Addr} (c d : Nat) {l : List Iv} {w : World} (ha : Rd encIv 2 w w.heap.size A l) (hb : Rd encIv 2 w w.heap.size B l) (hl : l.length ≤ 9000000000000000000) :
    Calls Try.prog 26 #[.slice A l.length c, .slice B l.length d] w fun e w' => e = .returned (.bool true) ∧ Below w.heap.size w w' := by
  go_enter Try.func26, Try.ntmps26
  go_wp2
  go_loopw [13] (fun i wr => ∃ k : Nat, k ≤ l.length ∧ i = .int .i64 k ∧ ∃ n, wr = w.drewN n) (fun i _ => l.length - (intOf i).toNat)
  case atStart => exact ⟨0, Nat.zero_le _, rfl, 0, rfl⟩
  case round =>
    obtain ⟨k, hk, rfl, n, rfl⟩ := hrel
    by_cases hi : k < l.length
    · obtain ⟨b, off, x, y, rfl, hg, hx, d0, d1⟩ := ha.iv hi
      obtain ⟨b', off', x', y', rfl, hg', hx', e0, e1⟩ := hb.iv hi
      rw [hx] at hx'
      simp only [Option.some.injEq, Prod.mk.injEq] at hx'
      obtain ⟨rfl, rfl⟩ := hx'
      have hi1 : (0 : Int) ≤ (k : Int) := by omega
      have hi2 : (k : Int) < (l.length : Int) := by omega
      clear hx ha hb
      go_wp2_with fail
      go_quiet (fail)
      go_wp2
      go_roundw
      case rel => exact ⟨k + 1, by omega, by go_num, _, rfl⟩
      case measure => simp [intOf]; omega
    · obtain rfl : k = l.length := by omega
      go_wp2
      go_ret
      exact ⟨rfl, below_drewN (Below.refl _ _) _⟩

def inL (l : List Iv) (t : Int) : Bool := l.any fun x => decide (x.1 ≤ t ∧ t < x.2)
theorem inL_yes {l : List Iv} {t : Int} {k : Nat} {x y : Int} (h : l[k]? = some (x, y)) (h1 : x ≤ t) (h2 : t < y) : inL l t = true := by
  unfold inL
  rw [List.any_eq_true]
  exact ⟨_, List.mem_of_getElem? h, by simp [h1, h2]⟩
theorem inL_no {l : List Iv} {t : Int} (h : ∀ x ∈ l.take l.length, ¬ (x.1 ≤ t ∧ t < x.2)) : inL l t = false := by
  rw [List.take_length] at h
  unfold inL
  rw [List.any_eq_false]
  intro x hx
  have := h x hx
  simpa using this
theorem inL_nf {l : List Iv} (h : NF l) (t : Int) : inL l t = true ↔ Mem l t := by
  unfold inL Mem
  rw [List.any_eq_true]
  constructor
  · rintro ⟨x, hx, h2⟩
    simp at h2
    exact ⟨x, hx, h.1 x hx, h2.1, h2.2⟩
  · rintro ⟨x, hx, _, h1, h2⟩
    exact ⟨x, hx, by simp [h1, h2]⟩
theorem not_succ {α : Type} {p : α → Prop} {l : List α} {k : Nat} {x : α} (hx : l[k]? = some x) (h : ∀ y ∈ l.take k, ¬ p y) (hp : ¬ p x) : ∀ y ∈ l.take (k + 1), ¬ p y := by
  intro y hy
  rw [take_snoc hx, List.mem_append] at hy
  rcases hy with hy | hy
  · exact h y hy
  · simp at hy; subst hy; exact hp

set_option maxHeartbeats 1000000 in
theorem lwithin_any {A : Option Addr} (c : Nat) {l : List Iv} {t : Int} {w : World} (ha : Rd encIv 2 w w.heap.size A l) (hl : l.length ≤ 9000000000000000000) :
    Calls Try.prog 27 #[.slice A l.length c, .int .i64 t] w fun e w' => e = .returned (.bool (inL l t)) ∧ Below w.heap.size w w' := by
  have Hyes := Lib.hid (show ∀ k x y, l[k]? = some (x, y) → x ≤ t → t < y → inL l t = true from fun k x y => inL_yes)
  have Hno := Lib.hid (@inL_no l t)
  generalize inL l t = r at *
  go_enter Try.func27, Try.ntmps27
  go_wp2
  go_loopw [9] (fun i wr => ∃ k : Nat, k ≤ l.length ∧ i = .int .i64 k ∧ Hid (∀ x ∈ l.take k, ¬ (x.1 ≤ t ∧ t < x.2)) ∧ Below w.heap.size w wr) (fun i _ => l.length - (intOf i).toNat)
  case atStart => exact ⟨0, Nat.zero_le _, rfl, (by unfold Hid; simp), Below.refl _ _⟩
  case round =>
    obtain ⟨k, hk, rfl, HN, hbr⟩ := hrel
    by_cases hi : k < l.length
    · obtain ⟨b, off, x, y, rfl, hg, hx, d0, d1⟩ := (ha.keep hbr).iv hi
      have hi2 : (k : Int) < (l.length : Int) := by omega
      have hbr2 := hbr.al (.cells #[.int .i64 x, .int .i64 y] 42)
      clear ha
      by_cases h1 : x ≤ t
      · by_cases h2 : t < y
        · have R := Lib.hid (Hyes.out k x y hx h1 h2)
          clear hx
          go_wp2
          all_goals (go_ret; rw [R.out]; exact ⟨rfl, hbr2⟩)
        · have R := Lib.hid (not_succ hx HN.out (fun q => h2 q.2))
          clear hx
          go_wp2
          go_roundw
          case rel => exact ⟨k + 1, by omega, by go_num, R, hbr2⟩
          case measure => simp [intOf]; omega
      · have R := Lib.hid (not_succ hx HN.out (fun q => h1 q.1))
        clear hx
        go_wp2
        go_roundw
        case rel => exact ⟨k + 1, by omega, by go_num, R, hbr2⟩
        case measure => simp [intOf]; omega
    · obtain rfl : k = l.length := by omega
      have R := Lib.hid (Hno.out HN.out)
      go_wp2
      go_ret
      rw [R.out]
      exact ⟨rfl, hbr⟩

set_option maxHeartbeats 1000000 in
theorem total_any {A : Option Addr} (c : Nat) {l : List Iv} {w : World} (ha : Rd encIv 2 w w.heap.size A l) (hn : NF l) :
    Calls Try.prog 28 #[.slice A l.length c] w fun e w' => e = .returned (.int .i64 (len l)) ∧ Below w.heap.size w w' := by
  have hl := hn.length_max
  go_enter Try.func28, Try.ntmps28
  go_wp2
  go_loopw [3, 8] (fun v i wr => ∃ (k : Nat) (s : Int), k ≤ l.length ∧ i = .int .i64 k ∧ v = .int .i64 s ∧ Hid (s = len (l.take k)) ∧ Below w.heap.size w wr) (fun _ i _ => l.length - (intOf i).toNat)
  case atStart => exact ⟨0, 0, Nat.zero_le _, rfl, rfl, rfl, Below.refl _ _⟩
  case round =>
    obtain ⟨k, s, hk, rfl, rfl, HS, hbr⟩ := hrel
    have hs1 := len_bounds (hn.take k)
    rw [← HS.out] at hs1
    obtain ⟨hs1, hs2⟩ := hs1
    by_cases hi : k < l.length
    · obtain ⟨b, off, x, y, rfl, hg, hx, d0, d1⟩ := (ha.keep hbr).iv hi
      have hi2 : (k : Int) < (l.length : Int) := by omega
      have hbr2 := hbr.al (.cells #[.int .i64 x, .int .i64 y] 42)
      have hv := hn.1 _ (List.mem_of_getElem? hx)
      unfold vld at hv
      obtain ⟨v1, v2, v3⟩ := hv
      simp only at v1 v2 v3
      have R := Lib.hid (show s + (y - x) = len (l.take (k + 1)) by rw [take_snoc hx, len_snoc, HS.out])
      clear ha hx HS
      go_wp2
      go_roundw
      case rel => exact ⟨k + 1, s + (y - x), by omega, by go_num, by first | rfl | go_num, R, hbr2⟩
      case measure => simp [intOf]; omega
    · obtain rfl : k = l.length := by omega
      have R := Lib.hid (show s = len l by rw [HS.out, List.take_length])
      clear HS
      go_wp2
      go_ret
      rw [R.out]
      exact ⟨rfl, hbr⟩
end Go.Proofs.Ytppnkepjipglgaa
