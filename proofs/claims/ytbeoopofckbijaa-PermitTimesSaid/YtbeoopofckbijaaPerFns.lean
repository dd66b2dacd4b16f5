/- Chapter 29's own: great, within, sameSpans, sameTexts. -/
import Derived.Test.YtbeoopofckbijaaPerList
import Derived.Test.YtbeoopofckbijaaJFirst
import Derived.IntWalk
import Derived.BigRegion
namespace Go.Proofs.Ytbeoopofckbijaa
open Go.RowKit Go.Lib

set_option maxHeartbeats 1000000 in
theorem sameSpans_true {A B : Option Addr} (c d : Nat) {l : List Iv} {w : World} (ha : Rd encIv 2 w w.heap.size A l) (hb : Rd encIv 2 w w.heap.size B l) (hl : l.length ≤ 9000000000000000000) :
    Calls Try.prog 13 #[.slice A l.length c, .slice B l.length d] w fun e w' => e = .returned (.bool true) ∧ Below w.heap.size w w' := by
  go_enter Try.func13, Try.ntmps13
  go_wp2
  go_loopw [13] (fun i wr => ∃ k : Nat, k ≤ l.length ∧ i = .int .i64 k ∧ ∃ n, wr = w.drewN n) (fun i _ => l.length - (intOf i).toNat)
  case atStart => exact ⟨0, Nat.zero_le _, rfl, 0, rfl⟩
  case round =>
    obtain ⟨k, hk, rfl, n, rfl⟩ := hrel
    by_cases hi : k < l.length
    · obtain ⟨b, off, x, y, rfl, hg, hx, d0, d1⟩ := ha.iv hi
      obtain ⟨b', off', x', y', rfl, hg', hx', e0, e1⟩ := hb.iv hi
      rw [hx] at hx'
      simp only [Option.some.injEq, Prod.mk.injEq] at hx'
      obtain ⟨rfl, rfl⟩ := hx'
      have hi1 : (0 : Int) ≤ (k : Int) := by omega
      have hi2 : (k : Int) < (l.length : Int) := by omega
      clear hx ha hb
      go_wp2_with fail
      go_quiet (fail)
      go_wp2
      go_roundw
      case rel => exact ⟨k + 1, by omega, by go_num, _, rfl⟩
      case measure => simp [intOf]; omega
    · obtain rfl : k = l.length := by omega
      go_wp2
      go_ret
      exact ⟨rfl, below_drewN (Below.refl _ _) _⟩

def inL (l : List Iv) (t : Int) : Bool := l.any fun x => decide (x.1 ≤ t ∧ t < x.2)
theorem inL_yes {l : List Iv} {t : Int} {k : Nat} {x y : Int} (h : l[k]? = some (x, y)) (h1 : x ≤ t) (h2 : t < y) : inL l t = true := by
  unfold inL
  rw [List.any_eq_true]
  exact ⟨_, List.mem_of_getElem? h, by simp [h1, h2]⟩
theorem inL_no {l : List Iv} {t : Int} (h : ∀ x ∈ l.take l.length, ¬ (x.1 ≤ t ∧ t < x.2)) : inL l t = false := by
  rw [List.take_length] at h
  unfold inL
  rw [List.any_eq_false]
  intro x hx
  have := h x hx
  simpa using this
theorem inL_nf {l : List Iv} (h : NF l) (t : Int) : inL l t = true ↔ Mem l t := by
  unfold inL Mem
  rw [List.any_eq_true]
  constructor
  · rintro ⟨x, hx, h2⟩
    simp at h2
    exact ⟨x, hx, h.1 x hx, h2.1, h2.2⟩
  · rintro ⟨x, hx, _, h1, h2⟩
    exact ⟨x, hx, by simp [h1, h2]⟩
theorem not_succ {α : Type} {p : α → Prop} {l : List α} {k : Nat} {x : α} (hx : l[k]? = some x) (h : ∀ y ∈ l.take k, ¬ p y) (hp : ¬ p x) : ∀ y ∈ l.take (k + 1), ¬ p y := by
  intro y hy
  rw [take_snoc hx, List.mem_append] at hy
  rcases hy with hy | hy
  · exact h y hy
  · simp at hy; subst hy; exact hp

set_option maxHeartbeats 1000000 in
theorem lwithin_any {A : Option Addr} (c : Nat) {l : List Iv} {t : Int} {w : World} (ha : Rd encIv 2 w w.heap.size A l) (hl : l.length ≤ 9000000000000000000) :
    Calls Try.prog 8 #[.slice A l.length c, .int .i64 t] w fun e w' => e = .returned (.bool (inL l t)) ∧ Below w.heap.size w w' := by
  have Hyes := Lib.hid (show ∀ k x y, l[k]? = some (x, y) → x ≤ t → t < y → inL l t = true from fun k x y => inL_yes)
  have Hno := Lib.hid (@inL_no l t)
  generalize inL l t = r at *
  go_enter Try.func8, Try.ntmps8
  go_wp2
  go_loopw [9] (fun i wr => ∃ k : Nat, k ≤ l.length ∧ i = .int .i64 k ∧ Hid (∀ x ∈ l.take k, ¬ (x.1 ≤ t ∧ t < x.2)) ∧ Below w.heap.size w wr) (fun i _ => l.length - (intOf i).toNat)
  case atStart => exact ⟨0, Nat.zero_le _, rfl, (by unfold Hid; simp), Below.refl _ _⟩
  case round =>
    obtain ⟨k, hk, rfl, HN, hbr⟩ := hrel
    by_cases hi : k < l.length
    · obtain ⟨b, off, x, y, rfl, hg, hx, d0, d1⟩ := (ha.keep hbr).iv hi
      have hi2 : (k : Int) < (l.length : Int) := by omega
      have hbr2 := hbr.al (.cells #[.int .i64 x, .int .i64 y] 26)
      clear ha
      by_cases h1 : x ≤ t
      · by_cases h2 : t < y
        · have R := Lib.hid (Hyes.out k x y hx h1 h2)
          clear hx
          go_wp2
          all_goals (go_ret; rw [R.out]; exact ⟨rfl, hbr2⟩)
        · have R := Lib.hid (not_succ hx HN.out (fun q => h2 q.2))
          clear hx
          go_wp2
          go_roundw
          case rel => exact ⟨k + 1, by omega, by go_num, R, hbr2⟩
          case measure => simp [intOf]; omega
      · have R := Lib.hid (not_succ hx HN.out (fun q => h1 q.1))
        clear hx
        go_wp2
        go_roundw
        case rel => exact ⟨k + 1, by omega, by go_num, R, hbr2⟩
        case measure => simp [intOf]; omega
    · obtain rfl : k = l.length := by omega
      have R := Lib.hid (Hno.out HN.out)
      go_wp2
      go_ret
      rw [R.out]
      exact ⟨rfl, hbr⟩

def greatB (p : Pm) : Bool := decide (1100 < p.ps.length) || decide (60 < p.hs.length)
theorem great_any (p : Pm) (w : World) :
    Calls Try.prog 5 #[PmV p] w fun e w' => e = .returned (.bool (greatB p)) ∧ Below w.heap.size w w' := by
  unfold greatB
  obtain ⟨nm, zn, pA, pc, ps, v0, v1, hA, hc, hs, mo⟩ := p
  simp only [PmV] at *
  obtain ⟨Y, hY⟩ : ∃ Y, w.alloc (.cells #[.string nm, .string zn, .slice pA ps.length pc, .int .i64 v0, .int .i64 v1, .slice hA hs.length hc, .int .i64 mo] 31) = Y := ⟨_, rfl⟩; have bW : Below w.heap.size w Y := (by rw [← hY]; exact (Below.refl _ w).al _); have BP : Blk Y w.heap.size #[.string nm, .string zn, .slice pA ps.length pc, .int .i64 v0, .int .i64 v1, .slice hA hs.length hc, .int .i64 mo] 31 := (by rw [← hY]; exact Blk.new w _ _)
  have p0 := BP.cell 0 (v := .string nm) rfl; have p1 := BP.cell 1 (v := .string zn) rfl; have p2 := BP.cell 2 (v := .slice pA ps.length pc) rfl; have p3 := BP.cell 3 (v := .int .i64 v0) rfl; have p4 := BP.cell 4 (v := .int .i64 v1) rfl; have p5 := BP.cell 5 (v := .slice hA hs.length hc) rfl; have p6 := BP.cell 6 (v := .int .i64 mo) rfl
  by_cases h1 : 1100 < ps.length
  · have d1 : decide (1100 < ps.length) = true := decide_eq_true h1
    go_enter Try.func5, Try.ntmps5
    go_wp2_with fail
    go_ret
    exact ⟨ret_bool (by first | (rw [Bool.eq_iff_iff]; done) | (rw [Bool.eq_iff_iff]; simp; done) | (rw [Bool.eq_iff_iff]; simp; omega)), bW⟩
  · by_cases h2 : 60 < hs.length
    · go_enter Try.func5, Try.ntmps5
      go_wp2_with fail
      go_ret
      exact ⟨ret_bool (by first | (rw [Bool.eq_iff_iff]; done) | (rw [Bool.eq_iff_iff]; simp; done) | (rw [Bool.eq_iff_iff]; simp; omega)), bW⟩
    · go_enter Try.func5, Try.ntmps5
      go_wp2_with fail
      go_ret
      exact ⟨ret_bool (by first | (rw [Bool.eq_iff_iff]; done) | (rw [Bool.eq_iff_iff]; simp; done) | (rw [Bool.eq_iff_iff]; simp; omega)), bW⟩

set_option maxHeartbeats 1000000 in
theorem sameTexts_true {A B : Option Addr} (c d : Nat) {l : List ByteArray} {w : World} (ha : Rd encStr 1 w w.heap.size A l) (hb : Rd encStr 1 w w.heap.size B l) (hl : l.length ≤ 9000000000000000000) :
    Calls Try.prog 14 #[.slice A l.length c, .slice B l.length d] w fun e w' => e = .returned (.bool true) ∧ Below w.heap.size w w' := by
  go_enter Try.func14, Try.ntmps14
  go_wp2
  go_loopw [13] (fun i wr => ∃ k : Nat, k ≤ l.length ∧ i = .int .i64 k ∧ ∃ n, wr = w.drewN n) (fun i _ => l.length - (RowKit.intOf i).toNat)
  case atStart => exact ⟨0, Nat.zero_le _, rfl, 0, rfl⟩
  case round =>
    obtain ⟨k, hk, rfl, n, rfl⟩ := hrel
    by_cases hi : k < l.length
    · obtain ⟨b, off, x, rfl, hg, hx, d0⟩ := ha.str hi
      obtain ⟨b', off', x', rfl, hg', hx', e0⟩ := hb.str hi
      rw [hx] at hx'
      simp only [Option.some.injEq] at hx'
      obtain rfl := hx'
      have hi1 : (0 : Int) ≤ (k : Int) := by omega
      have hi2 : (k : Int) < (l.length : Int) := by omega
      clear hx ha hb
      go_wp2_with fail
      go_quiet (fail)
      go_wp2
      go_roundw
      case rel => exact ⟨k + 1, by omega, by go_num, _, rfl⟩
      case measure => simp [RowKit.intOf]; omega
    · obtain rfl : k = l.length := by omega
      go_wp2
      go_ret
      exact ⟨rfl, below_drewN (Below.refl _ _) _⟩
end Go.Proofs.Ytbeoopofckbijaa
