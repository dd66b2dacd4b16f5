/- Joined texts: First, Iv, More, Blk, StrEq, Emp, Name. -/
import Derived.WalkKit
import Derived.Test.YtelchfijalkibaaGreatDoorProg
import Derived.Test.YtelchfijalkibaaGreatDoorBase
import Derived.Test.YtelchfijalkibaaGreatDoorSpanMath
import Derived.Outline
import Derived.RangeFuncNested
import Derived.Laws.Rows
import Derived.RangeFuncBound
import Derived.RangeFuncCalls
import Derived.RangeFuncLeaves
import Derived.RangeFuncFrom
import Derived.RangeFuncBox
import Derived.Lib.Bytealg
import Derived.Laws.Strings
import Derived.Laws.RangeAny
import Derived.Laws.RangeString
import Derived.LoopTactic
import Derived.Laws.Closers25b
/- Lists, element by element; the first error. No program in sight. -/
namespace Go.Proofs.YtelchfijalkibaaGreatDoor

theorem take_snoc {α : Type} {l : List α} {k : Nat} {x : α} (h : l[k]? = some x) : l.take (k + 1) = l.take k ++ [x] := by
  rw [List.take_add_one, h]; rfl
theorem all_succ' {α : Type} {p : α → Bool} {l : List α} {k : Nat} {x : α} (hx : l[k]? = some x) (h : ∀ y ∈ l.take k, p y = false) (hp : p x = false) : ∀ y ∈ l.take (k + 1), p y = false := by
  intro y hy
  rw [take_snoc hx, List.mem_append] at hy
  rcases hy with hy | hy
  · exact h y hy
  · simp at hy; subst hy; exact hp
theorem all_succ {α : Type} {p : α → Bool} {l : List α} {k : Nat} {x : α} (hx : l[k]? = some x) (h : ∀ y ∈ l.take k, p y = true) (hp : p x = true) : ∀ y ∈ l.take (k + 1), p y = true := by
  intro y hy
  rw [take_snoc hx, List.mem_append] at hy
  rcases hy with hy | hy
  · exact h y hy
  · simp at hy; subst hy; exact hp
def firstE (f : Nat → Int) (n : Nat) : Int := (((List.range n).map f).find? fun e => decide (e ≠ 0)).getD 0
end Go.Proofs.YtelchfijalkibaaGreatDoor
/- Intervals as elements of slices. -/
namespace Go.Proofs.YtelchfijalkibaaGreatDoor
open Go.RowKit Go.Lib

def encIv (x : Iv) : List Value := [.int .i64 x.1, .int .i64 x.2]
theorem encIv_ok : Enc encIv 2 := ⟨fun _ => rfl, fun x u hu => by simp [encIv] at hu; rcases hu with rfl | rfl <;> rfl⟩
end Go.Proofs.YtelchfijalkibaaGreatDoor
/- More words on own slices and on what lies below. -/
namespace Go.Proofs.YtelchfijalkibaaGreatDoor
open Go.RowKit Go.Lib

theorem Own.st {α : Type} {e : Nat} {enc : α → List Value} {k : Nat} {w w' : World} {base : Nat} {A : Option Addr} {c : Nat} {l : List α} (h : Own e enc k w base A c l) (hb : Below w.heap.size w w') : Own e enc k w' base A c l := h.keep hb (Nat.le_refl _)
theorem _root_.Go.RowKit.Below.st {a b c : World} (h : Below a.heap.size a b) (k : Below b.heap.size b c) : Below a.heap.size a c := h.trans (k.mono h.size)
theorem Own.cap {α : Type} {e : Nat} {enc : α → List Value} {k : Nat} {w : World} {base : Nat} {A : Option Addr} {c : Nat} {l : List α} (h : Own e enc k w base A c l) : l.length ≤ c := by
  rcases h.2 with ⟨h1, h2⟩ | ⟨g, cap, cur, hv, _, _, hn, _⟩
  · rw [h2]; exact Nat.zero_le _
  · injection hv with p q r
    rw [r]; exact hn

end Go.Proofs.YtelchfijalkibaaGreatDoor
/- Blocks of cells, whole; own slices across stores elsewhere and across the book-keeping of a range over a function. -/
namespace Go.Proofs.YtelchfijalkibaaGreatDoor
open Go.RowKit Go.Lib

theorem Own.same {α : Type} {e : Nat} {enc : α → List Value} {k : Nat} {w w' : World} {base : Nat} {A : Option Addr} {c : Nat} {l : List α} (h : Own e enc k w base A c l) (hk : ∀ g, base ≤ g → w'.heap[g]? = w.heap[g]?) : Own e enc k w' base A c l := by
  refine ⟨h.1, ?_⟩
  rcases h.2 with h2 | ⟨g, cap, cur, hv, hg, hh, r⟩
  · exact .inl h2
  · exact .inr ⟨g, cap, cur, hv, hg, by rw [hk g hg]; exact hh, r⟩
theorem Own.other {α : Type} {e : Nat} {enc : α → List Value} {k : Nat} {w : World} {base : Nat} {A : Option Addr} {c : Nat} {l : List α} (h : Own e enc k w base A c l) {p : Addr} (hp : p.block < base) (v : Value) : Own e enc k (w.setCell p v) base A c l :=
  h.same fun g hg => Below.heap_setCell w p v g (by omega)

/-- a block of cells, whole -/
def Blk (W : World) (B : Nat) (cs : Array Value) (t : TypeId) : Prop := W.heap[B]? = some (.cells cs t (0, 0))
theorem Blk.lt {W : World} {B : Nat} {cs : Array Value} {t : TypeId} (h : Blk W B cs t) : B < W.heap.size := (Array.getElem?_eq_some_iff.1 h).1
theorem Blk.cell {W : World} {B : Nat} {cs : Array Value} {t : TypeId} (h : Blk W B cs t) (j : Nat) {v : Value} (hv : cs[j]? = some v) : W.cell? ⟨B, j, none⟩ = some v := by
  rw [cell_of_row _ _ _ cs t (0, 0) h]; exact hv
theorem Blk.frozen {W : World} {B : Nat} {cs : Array Value} {t : TypeId} (h : Blk W B cs t) (j : Nat) : W.frozen? ⟨B, j, none⟩ = false := frozen_of_row W B j cs t h
theorem Blk.set {W : World} {B : Nat} {cs : Array Value} {t : TypeId} (h : Blk W B cs t) (j : Nat) (v : Value) : Blk (W.setCell ⟨B, j, none⟩ v) B (cs.setIfInBounds j v) t := heap_setCell_same W B j cs t v h
theorem Blk.new (W : World) (cs : Array Value) (t : TypeId) : Blk (W.alloc (.cells cs t)) W.heap.size cs t := World.alloc_heap_new W _
theorem Blk.below {W W' : World} {B B' : Nat} {cs : Array Value} {t : TypeId} (h : Blk W B cs t) (hb : Below B' W W') (hB : B < B') : Blk W' B cs t := (hb.block B hB).trans h
theorem Blk.alloc {W : World} {B : Nat} {cs : Array Value} {t : TypeId} (h : Blk W B cs t) (o : Obj) : Blk (W.alloc o) B cs t := (World.grownBy_alloc W o none).block B h.lt (by simp) |>.trans h
theorem Blk.drew {W : World} {B : Nat} {cs : Array Value} {t : TypeId} (h : Blk W B cs t) : Blk W.drew B cs t := h
theorem Blk.other {W : World} {B : Nat} {cs : Array Value} {t : TypeId} (h : Blk W B cs t) {p : Addr} (hp : B ≠ p.block) (v : Value) : Blk (W.setCell p v) B cs t := (Below.heap_setCell W p v B hp).trans h

theorem _root_.Go.Boxed.below {W W' : World} {B B' : Nat} {t : TypeId} {v : Value} (h : Boxed W B t v) (hb : Below B' W W') (hB : B < B') : Boxed W' B t v := (hb.block B hB).trans h

section
variable {α : Type} {enc : α → List Value} {k : Nat} {A : Option Addr} {c : Nat} {l : List α} {P : Program} {t e bytes : Nat}
theorem Own.keepB {w w' : World} {base : Nat} (h : Own e enc k w base A c l) (hk : ∀ g, A = some ⟨g, 0, none⟩ → g < w.heap.size → w'.heap[g]? = w.heap[g]?) : Own e enc k w' base A c l := by
  refine ⟨h.1, ?_⟩
  rcases h.2 with h2 | ⟨g, cap, cur, hv, hg, hh, r⟩
  · exact .inl h2
  · refine .inr ⟨g, cap, cur, hv, hg, ?_, r⟩
    injection hv with hA _ _
    rw [hk g hA (Array.getElem?_eq_some_iff.1 hh).1]
    exact hh
/-- own slices of different element types lie in different blocks -/
theorem Own.apart {β : Type} {enc2 : β → List Value} {k2 e2 base base2 c2 : Nat} {A2 : Option Addr} {l2 : List β} {w : World} (h : Own e enc k w base A c l) (h2 : Own e2 enc2 k2 w base2 A2 c2 l2) (hne : e ≠ e2) {g g2 : Nat} (hA : A = some ⟨g, 0, none⟩) (hA2 : A2 = some ⟨g2, 0, none⟩) : g ≠ g2 := by
  subst hA hA2
  rintro rfl
  rcases h.2 with ⟨q, _⟩ | ⟨g1, cap, cur, hv, _, hh, _⟩
  · injection q with q; cases q
  · injection hv with q; injection q with q; injection q with q
    subst q
    rcases h2.2 with ⟨q, _⟩ | ⟨g1, cap, cur2, hv, _, hh2, _⟩
    · injection q with q; cases q
    · injection hv with q; injection q with q; injection q with q
      subst q
      rw [hh] at hh2
      injection hh2 with q
      injection q with _ q _
      exact hne q
end
end Go.Proofs.YtelchfijalkibaaGreatDoor
/- Equality of strings, as the walk spells it. No program in sight. -/
namespace Go.Proofs.YtelchfijalkibaaGreatDoor

def eqS (a b : ByteArray) : Bool := a.toList == b.toList
theorem eqS_iff (a b : ByteArray) : eqS a b = true ↔ a = b := by
  unfold eqS
  rw [beq_iff_eq, ByteArray.toList_eq, ByteArray.toList_eq]
  constructor
  · intro h
    cases a; cases b
    simp only [ByteArray.mk.injEq]
    exact Array.ext' h
  · rintro rfl; rfl
end Go.Proofs.YtelchfijalkibaaGreatDoor
/- The empty string, as the walk spells it. No program in sight. -/
namespace Go.Proofs.YtelchfijalkibaaGreatDoor

def emp (s : ByteArray) : Bool := eqS s ⟨#[]⟩
theorem emp_iff (s : ByteArray) : emp s = true ↔ s = ⟨#[]⟩ := eqS_iff s _
theorem toList_neE {a : ByteArray} (h : emp a = false) : ¬ a.toList = [] ∧ a.toList.isEmpty = false ∧ (a.toList == []) = false := by
  have h0 : ¬ a = ⟨#[]⟩ := fun q => by rw [(emp_iff a).2 q] at h; cases h
  have h1 : ¬ a.toList = [] := by
    intro q
    apply h0
    rw [ByteArray.toList_eq] at q
    cases a; simp only [ByteArray.mk.injEq]
    exact Array.toList_eq_nil_iff.1 q
  cases q : a.toList with
  | nil => exact absurd q h1
  | cons _ _ => exact ⟨by simp, rfl, rfl⟩
theorem toList_eE {a : ByteArray} (h : emp a = true) : a.toList = [] ∧ a.toList.isEmpty = true ∧ (a.toList == []) = true := by
  obtain rfl := (emp_iff a).1 h
  have : (⟨#[]⟩ : ByteArray).toList = [] := by rw [ByteArray.toList_eq]
  rw [this]
  exact ⟨rfl, rfl, rfl⟩
end Go.Proofs.YtelchfijalkibaaGreatDoor
/- Names: text.Name and the reference's IsName. -/
namespace Go.Proofs.YtelchfijalkibaaGreatDoor
open Go.RowKit Go.Lib

/-- byte k of a name: a letter, or behind the first a digit or '-' -/
def okByte (k c : Nat) : Bool := (decide (97 ≤ c) && decide (c ≤ 122)) || (decide (k ≠ 0) && (decide (c = 45) || (decide (48 ≤ c) && decide (c ≤ 57))))
def nameTo (s : ByteArray) (k : Nat) : Prop := ∀ i (h : i < s.size), i < k → okByte i (s[i]'h).toNat = true
def nameB (s : ByteArray) : Bool := decide (1 ≤ s.size) && decide (s.size ≤ 12) && (List.range s.size).all fun i => okByte i (s.get! i).toNat
theorem get_bang (s : ByteArray) (i : Nat) (h : i < s.size) : s.get! i = s[i]'h := get_at s i h
theorem nameB_iff (s : ByteArray) : nameB s = true ↔ 1 ≤ s.size ∧ s.size ≤ 12 ∧ nameTo s s.size := by
  unfold nameB nameTo
  simp only [Bool.and_eq_true, decide_eq_true_eq, List.all_eq_true, List.mem_range, and_assoc]
  refine and_congr_right fun _ => and_congr_right fun _ => ?_
  constructor
  · intro h i hi _
    rw [← get_bang s i hi]
    exact h i hi
  · intro h i hi
    rw [get_bang s i hi]
    exact h i hi hi
theorem nameTo_succ {s : ByteArray} {k : Nat} (h : nameTo s k) (hk : k < s.size) (ho : okByte k (s[k]'hk).toNat = true) : nameTo s (k + 1) := by
  intro i hi hik
  rcases (by omega : i < k ∨ i = k) with e | rfl
  · exact h i hi e
  · exact ho
theorem nameB_no {s : ByteArray} {k : Nat} (hk : k < s.size) (ho : okByte k (s[k]'hk).toNat = false) : nameB s = false := by
  cases hb : nameB s
  · rfl
  · have := ((nameB_iff s).1 hb).2.2 k hk hk
    rw [ho] at this
    cases this
theorem below_iter (w : World) (s : ByteArray) (pos : Nat) : Below w.heap.size w (w.iter s pos) := (Below.refl _ w).al _

theorem next_name {P : Program} (w : World) (s : ByteArray) (pos : Nat) (hp : pos < s.size) :
    ∃ c wd : Nat, (∀ ty, (Instr.next (.pointer (some ⟨w.heap.size, 0, none⟩)) true ty).run P (w.iter s pos) = .ok (.tuple #[.bool true, .int .i64 pos, .int .i32 c]) (w.iter s (pos + wd))) ∧
      okByte pos c = okByte pos (s[pos]'hp).toNat ∧ (okByte pos c = true → wd = 1) ∧ c ≤ 2147483647 := by
  by_cases ha : (s[pos]'hp).toNat < 128
  · exact ⟨(s[pos]'hp).toNat, 1, fun ty => run_next_ascii w s pos ty hp ha, rfl, fun _ => rfl, by omega⟩
  · have h1 := (decode_high s pos hp (by omega)).1
    have e1 : okByte pos (Utf8.decode s pos).1 = false := by
      unfold okByte
      simp only [Bool.or_eq_false_iff, Bool.and_eq_false_iff, decide_eq_false_iff_not]
      omega
    have e2 : okByte pos (s[pos]'hp).toNat = false := by
      unfold okByte
      simp only [Bool.or_eq_false_iff, Bool.and_eq_false_iff, decide_eq_false_iff_not]
      omega
    refine ⟨(Utf8.decode s pos).1, (Utf8.decode s pos).2, fun ty => run_next_any w s pos ty hp, by rw [e1, e2], fun h => ?_, decode_le s pos⟩
    rw [e1] at h
    cases h
theorem okByte_yes {k c : Nat} (h : okByte k c = true) : (97 ≤ (c : Int) ∧ (c : Int) ≤ 122) ∨
    (((k : Int) == 0) = false ∧ (c : Int) < 97 ∧ (((c : Int) != 45) = false ∨ (((c : Int) != 45) = true ∧ 48 ≤ (c : Int) ∧ (c : Int) ≤ 57))) := by
  unfold okByte at h
  simp only [Bool.or_eq_true, Bool.and_eq_true, decide_eq_true_eq] at h
  simp
  omega
theorem okByte_no {k c : Nat} (h : okByte k c = false) : ((c : Int) < 97 ∨ (97 ≤ (c : Int) ∧ 122 < (c : Int))) ∧ (((k : Int) == 0) = true ∨ (((k : Int) == 0) = false ∧ ((c : Int) != 45) = true ∧ ((c : Int) < 48 ∨ (48 ≤ (c : Int) ∧ 57 < (c : Int))))) := by
  unfold okByte at h
  simp only [Bool.or_eq_false_iff, Bool.and_eq_false_iff, decide_eq_false_iff_not] at h
  simp
  omega

set_option maxHeartbeats 1000000 in
theorem name_any (s : ByteArray) (w : World) :
    Calls Tryz.prog 59 #[.string s] w fun e w' => e = .returned (.bool (nameB s)) ∧ Below w.heap.size w w' := by
  generalize hr : nameB s = r
  by_cases h0 : s.size = 0
  · have hs : s = ByteArray.empty := by
      cases s with | mk d => simp at h0; simp [h0]
    have R := Lib.hid (show r = false by rw [← hr, nameB, h0]; rfl)
    subst hs
    clear hr
    go_enter Tryz.func59, Tryz.ntmps59
    go_wp2
    all_goals (go_ret; rw [R.out]; exact ⟨rfl, Below.refl _ _⟩)
  · have hn : ¬ s.toList = [] := fun h => h0 (by rw [(toList_nil_iff_emptyBytes s).1 h]; rfl)
    have he : s.toList.isEmpty = false := by cases hl : s.toList with | nil => exact absurd hl hn | cons _ _ => rfl
    by_cases h12 : 12 < s.size
    · have R := Lib.hid (show r = false by rw [← hr, nameB, show decide (s.size ≤ 12) = false from decide_eq_false (by omega)]; simp)
      clear hr
      go_enter Tryz.func59, Tryz.ntmps59
      go_wp2
      all_goals (go_ret; rw [R.out]; exact ⟨rfl, Below.refl _ _⟩)
    · have HR := Lib.hid hr
      clear hr
      go_enter Tryz.func59, Tryz.ntmps59
      go_wp2
      clear hn he
      go_loopw [3] (fun _ wr => ∃ pos, pos ≤ s.size ∧ wr = w.iter s pos ∧ Hid (nameTo s pos)) (fun _ wr => s.size - wr.iterPos w.heap.size)
      case atStart => exact ⟨0, Nat.zero_le _, rfl, fun i _ h => absurd h (Nat.not_lt_zero _)⟩
      case round =>
        obtain ⟨pos, hpl, rfl, HN⟩ := hrel
        by_cases hp : pos < s.size
        · obtain ⟨c, wd, hnx, hoc, hwd, hcm⟩ := next_name (P := Tryz.prog) w s pos hp
          cases ho : okByte pos c
          · have R := Lib.hid (show r = false by rw [← HR.out, nameB_no hp (by rw [← hoc]; exact ho)])
            have hno := okByte_no ho
            clear hoc hwd ho
            rcases hno with ⟨h1 | ⟨h1, h2⟩, h3 | ⟨h3, h4, h5 | ⟨h5, h6⟩⟩⟩
            all_goals (go_wp2; all_goals first | (go_ret; rw [R.out]; exact ⟨rfl, below_iter w s _⟩) | (exfalso; rename_i hx; simp at hx; omega))
          · have hw1 := hwd ho
            subst hw1
            have R := Lib.hid (nameTo_succ HN.out hp (by rw [← hoc]; exact ho))
            have hyes := okByte_yes ho
            clear hoc hwd ho
            rcases hyes with ⟨h1, h2⟩ | ⟨h1, h2, h3 | ⟨h3, h4, h5⟩⟩
            all_goals
              go_wp2
              go_roundw
              case rel => exact ⟨pos + 1, by omega, rfl, R⟩
              case measure => simp; omega
        · obtain rfl : pos = s.size := by omega
          have R := Lib.hid (show r = true by rw [← HR.out]; exact (nameB_iff s).2 ⟨by omega, by omega, HN.out⟩)
          have hnx : ∀ ty, (Instr.next (.pointer (some ⟨w.heap.size, 0, none⟩)) true ty).run Tryz.prog (w.iter s s.size) = _ := fun ty => run_next_end w s s.size ty hp
          go_wp2
          go_ret
          rw [R.out]
          exact ⟨rfl, below_iter w s _⟩
theorem okByte_yes' {k c : Nat} (h : okByte k c = true) : (97 ≤ (c : Int) ∧ (c : Int) ≤ 122) ∨ ((c : Int) < 97 ∧ 48 ≤ (c : Int) ∧ (c : Int) ≤ 57) ∨ ((c : Int) < 48 ∧ (c : Int) = 45) := by
  unfold okByte at h
  simp only [Bool.or_eq_true, Bool.and_eq_true, decide_eq_true_eq] at h
  omega
theorem okByte_no' {k c : Nat} (h : okByte k c = false) (hk : k ≠ 0) : ((c : Int) < 48 ∧ ¬ (c : Int) = 45) ∨ (57 < (c : Int) ∧ (c : Int) < 97) ∨ 122 < (c : Int) := by
  unfold okByte at h
  simp only [Bool.or_eq_false_iff, Bool.and_eq_false_iff, decide_eq_false_iff_not] at h
  omega

end Go.Proofs.YtelchfijalkibaaGreatDoor
