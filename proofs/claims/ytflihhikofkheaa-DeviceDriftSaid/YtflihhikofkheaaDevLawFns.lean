/- The small functions of chapter 09's statements: great, sameSpans, within. -/
import Derived.Test.YtflihhikofkheaaDevEnc
import Derived.BigQuiet
import Derived.IntWalk
import Derived.Laws.StructEq
namespace Go.Proofs.Ytflihhikofkheaa
open Go.RowKit Go.Lib

set_option maxHeartbeats 1000000 in
theorem sameSpans_true {A B : Option Addr} (c d : Nat) {l : List Iv} {w : World} (ha : Rd encIv 2 w w.heap.size A l) (hb : Rd encIv 2 w w.heap.size B l) (hl : l.length ≤ 9000000000000000000) :
    Calls Try.prog 17 #[.slice A l.length c, .slice B l.length d] w fun e w' => e = .returned (.bool true) ∧ Below w.heap.size w w' := by
  go_enter Try.func17, Try.ntmps17
  go_wp2
  go_loopw [13] (fun i wr => ∃ k : Nat, k ≤ l.length ∧ i = .int .i64 k ∧ ∃ n, wr = w.drewN n) (fun i _ => l.length - (intOf i).toNat)
  case atStart => exact ⟨0, Nat.zero_le _, rfl, 0, rfl⟩
  case round =>
    obtain ⟨k, hk, rfl, n, rfl⟩ := hrel
    by_cases hi : k < l.length
    · obtain ⟨b, off, x, y, rfl, hg, hx, d0, d1⟩ := ha.iv hi
      obtain ⟨b', off', x', y', rfl, hg', hx', e0, e1⟩ := hb.iv hi
      rw [hx] at hx'
      simp only [Option.some.injEq, Prod.mk.injEq] at hx'
      obtain ⟨rfl, rfl⟩ := hx'
      have hi1 : (0 : Int) ≤ (k : Int) := by omega
      have hi2 : (k : Int) < (l.length : Int) := by omega
      clear hx ha hb
      go_wp2_with fail
      go_quiet (fail)
      go_wp2
      go_roundw
      case rel => exact ⟨k + 1, by omega, by go_num, _, rfl⟩
      case measure => simp [intOf]; omega
    · obtain rfl : k = l.length := by omega
      go_wp2
      go_ret
      exact ⟨rfl, below_drewN (Below.refl _ _) _⟩

def inL (l : List Iv) (t : Int) : Bool := l.any fun x => decide (x.1 ≤ t ∧ t < x.2)
theorem inL_yes {l : List Iv} {t : Int} {k : Nat} {x y : Int} (h : l[k]? = some (x, y)) (h1 : x ≤ t) (h2 : t < y) : inL l t = true := by
  unfold inL
  rw [List.any_eq_true]
  exact ⟨_, List.mem_of_getElem? h, by simp [h1, h2]⟩
theorem inL_no {l : List Iv} {t : Int} (h : ∀ x ∈ l.take l.length, ¬ (x.1 ≤ t ∧ t < x.2)) : inL l t = false := by
  rw [List.take_length] at h
  unfold inL
  rw [List.any_eq_false]
  intro x hx
  have := h x hx
  simpa using this
theorem inL_nf {l : List Iv} (h : NF l) (t : Int) : inL l t = true ↔ Mem l t := by
  unfold inL Mem
  rw [List.any_eq_true]
  constructor
  · rintro ⟨x, hx, h2⟩
    simp at h2
    exact ⟨x, hx, h.1 x hx, h2.1, h2.2⟩
  · rintro ⟨x, hx, _, h1, h2⟩
    exact ⟨x, hx, by simp [h1, h2]⟩
theorem not_succ {α : Type} {p : α → Prop} {l : List α} {k : Nat} {x : α} (hx : l[k]? = some x) (h : ∀ y ∈ l.take k, ¬ p y) (hp : ¬ p x) : ∀ y ∈ l.take (k + 1), ¬ p y := by
  intro y hy
  rw [take_snoc hx, List.mem_append] at hy
  rcases hy with hy | hy
  · exact h y hy
  · simp at hy; subst hy; exact hp

set_option maxHeartbeats 1000000 in
theorem lwithin_any {A : Option Addr} (c : Nat) {l : List Iv} {t : Int} {w : World} (ha : Rd encIv 2 w w.heap.size A l) (hl : l.length ≤ 9000000000000000000) :
    Calls Try.prog 20 #[.slice A l.length c, .int .i64 t] w fun e w' => e = .returned (.bool (inL l t)) ∧ Below w.heap.size w w' := by
  have Hyes := Lib.hid (show ∀ k x y, l[k]? = some (x, y) → x ≤ t → t < y → inL l t = true from fun k x y => inL_yes)
  have Hno := Lib.hid (@inL_no l t)
  generalize inL l t = r at *
  go_enter Try.func20, Try.ntmps20
  go_wp2
  go_loopw [9] (fun i wr => ∃ k : Nat, k ≤ l.length ∧ i = .int .i64 k ∧ Hid (∀ x ∈ l.take k, ¬ (x.1 ≤ t ∧ t < x.2)) ∧ Below w.heap.size w wr) (fun i _ => l.length - (intOf i).toNat)
  case atStart => exact ⟨0, Nat.zero_le _, rfl, (by unfold Hid; simp), Below.refl _ _⟩
  case round =>
    obtain ⟨k, hk, rfl, HN, hbr⟩ := hrel
    by_cases hi : k < l.length
    · obtain ⟨b, off, x, y, rfl, hg, hx, d0, d1⟩ := (ha.keep hbr).iv hi
      have hi2 : (k : Int) < (l.length : Int) := by omega
      have hbr2 := hbr.al (.cells #[.int .i64 x, .int .i64 y] 48)
      clear ha
      by_cases h1 : x ≤ t
      · by_cases h2 : t < y
        · have R := Lib.hid (Hyes.out k x y hx h1 h2)
          clear hx
          go_wp2
          all_goals (go_ret; rw [R.out]; exact ⟨rfl, hbr2⟩)
        · have R := Lib.hid (not_succ hx HN.out (fun q => h2 q.2))
          clear hx
          go_wp2
          go_roundw
          case rel => exact ⟨k + 1, by omega, by go_num, R, hbr2⟩
          case measure => simp [intOf]; omega
      · have R := Lib.hid (not_succ hx HN.out (fun q => h1 q.1))
        clear hx
        go_wp2
        go_roundw
        case rel => exact ⟨k + 1, by omega, by go_num, R, hbr2⟩
        case measure => simp [intOf]; omega
    · obtain rfl : k = l.length := by omega
      have R := Lib.hid (Hno.out HN.out)
      go_wp2
      go_ret
      rw [R.out]
      exact ⟨rfl, hbr⟩

/-- what is left when a list is not great -/
def GOk (l : List Dv) : Prop := l.length ≤ 1100 ∧ ∀ d ∈ l, d.os.length ≤ 40 ∧ d.ds.length ≤ 40
def GreatR (l : List Dv) (w w' : World) (e : Ending) : Prop := ∃ b : Bool, e = .returned (.bool b) ∧ (b = false → GOk l) ∧ Below w.heap.size w w'
theorem GOk.small {l : List Dv} (h : GOk l) : ∀ d ∈ l, smallD d := fun d hd => by have := h.2 d hd; exact ⟨by omega, by omega⟩

set_option maxRecDepth 100000 in
set_option maxHeartbeats 4000000 in
theorem great_any {A : Option Addr} (c : Nat) {l : List Dv} {w : World} (h : Rd encD 6 w w.heap.size A l) :
    Calls Try.prog 9 #[.slice A l.length c] w fun e w' => GreatR l w w' e := by
  have H := Lib.hid h
  clear h
  by_cases hbig : 1100 < l.length
  · go_enter Try.func9, Try.ntmps9
    go_wp2
    go_ret
    exact ⟨true, rfl, (fun h => by cases h), Below.refl _ _⟩
  · have HB := Lib.hid hbig
    go_enter Try.func9, Try.ntmps9
    go_wp2_with fail
    go_loopw [3, 11] (fun v i wr => ∃ (k : Nat) (n : Int), k ≤ l.length ∧ i = .int .i64 k ∧ v = .int .i64 n ∧ 0 ≤ n ∧ n ≤ 400 ∧ Hid (∀ d ∈ l.take k, d.os.length ≤ 40 ∧ d.ds.length ≤ 40) ∧ Below w.heap.size w wr) (fun _ i _ => l.length - (intOf i).toNat)
    case atStart => exact ⟨0, 0, Nat.zero_le _, rfl, rfl, by omega, by omega, (by unfold Hid; simp), Below.refl _ _⟩
    case round =>
      obtain ⟨k, n, hk, rfl, rfl, hn0, hn1, HD, hbr⟩ := hrel
      by_cases hi : k < l.length
      · obtain ⟨b, off, d, rfl, hg, hx, d0, d1, d2, d3, d4, d5⟩ := (H.out.st hbr).d hi
        have HX := Lib.hid (fun (h1 : d.os.length ≤ 40) (h2 : d.ds.length ≤ 40) => show ∀ y ∈ l.take (k + 1), y.os.length ≤ 40 ∧ y.ds.length ≤ 40 from fun y hy => by
          rw [take_snoc hx, List.mem_append] at hy
          rcases hy with hy | hy
          · exact HD.out y hy
          · simp only [List.mem_singleton] at hy
            subst hy
            exact ⟨h1, h2⟩)
        have HL := Lib.hid hi
        obtain ⟨nm, pt, kd, ln, oA, oc, os, dA, dc, ds⟩ := d
        simp only at *
        have hb2 := hbr.al (.cells #[.string nm, .string pt, .int .i64 kd, .int .i64 ln, .slice oA os.length oc, .slice dA ds.length dc] 36)
        clear hx HD
        by_cases g1 : 40 < os.length
        · go_wp2_with fail
          go_ret
          exact ⟨true, rfl, (fun h => by cases h), hb2⟩
        · by_cases g2 : 40 < ds.length
          · go_wp2_with fail
            go_ret
            exact ⟨true, rfl, (fun h => by cases h), hb2⟩
          · have HX2 := Lib.hid (HX.out (by omega) (by omega))
            clear HX
            by_cases g3 : 400 < n + (ds.length : Int)
            · go_wp2_with fail
              go_ret
              exact ⟨true, rfl, (fun h => by cases h), hb2⟩
            · go_wp2_with fail
              go_roundw
              case rel => exact ⟨k + 1, n + ds.length, HL.out, by go_num, by first | rfl | go_num, by omega, by omega, HX2, hb2⟩
              case measure => simp [intOf]; omega
      · obtain rfl : k = l.length := by omega
        have HF := Lib.hid (show ∀ d ∈ l, d.os.length ≤ 40 ∧ d.ds.length ≤ 40 by have := HD.out; rwa [List.take_length] at this)
        clear HD
        go_wp2
        go_ret
        exact ⟨false, rfl, (fun _ => ⟨by have := HB.out; omega, HF.out⟩), hbr⟩
end Go.Proofs.Ytflihhikofkheaa
