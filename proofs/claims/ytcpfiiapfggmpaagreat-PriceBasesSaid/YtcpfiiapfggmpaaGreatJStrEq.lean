/- Joined texts: StrEq, Emp, Name. -/
import Derived.Lib.Bytealg
import Derived.Laws.Strings
import Derived.Test.YtcpfiiapfggmpaaGreatProg
import Derived.Test.YtcpfiiapfggmpaaGreatJFirst
import Derived.Outline
import Derived.Laws.RangeAny
import Derived.Laws.RangeString
import Derived.LoopTactic
import Derived.Laws.Closers25b
/- Equality of strings, as the walk spells it. No program in sight. -/
namespace Go.Proofs.YtcpfiiapfggmpaaGreat

def eqS (a b : ByteArray) : Bool := a.toList == b.toList
theorem eqS_iff (a b : ByteArray) : eqS a b = true ↔ a = b := by
  unfold eqS
  rw [beq_iff_eq, ByteArray.toList_eq, ByteArray.toList_eq]
  constructor
  · intro h
    cases a; cases b
    simp only [ByteArray.mk.injEq]
    exact Array.ext' h
  · rintro rfl; rfl
theorem eqS_refl (a : ByteArray) : eqS a a = true := (eqS_iff a a).2 rfl
theorem eqS_comm (a b : ByteArray) : eqS a b = eqS b a := by
  rw [Bool.eq_iff_iff, eqS_iff, eqS_iff]; exact eq_comm
end Go.Proofs.YtcpfiiapfggmpaaGreat
/- The empty string, as the walk spells it. No program in sight. -/
namespace Go.Proofs.YtcpfiiapfggmpaaGreat

def emp (s : ByteArray) : Bool := eqS s ⟨#[]⟩
theorem emp_iff (s : ByteArray) : emp s = true ↔ s = ⟨#[]⟩ := eqS_iff s _
theorem toList_neE {a : ByteArray} (h : emp a = false) : ¬ a.toList = [] ∧ a.toList.isEmpty = false ∧ (a.toList == []) = false := by
  have h0 : ¬ a = ⟨#[]⟩ := fun q => by rw [(emp_iff a).2 q] at h; cases h
  have h1 : ¬ a.toList = [] := by
    intro q
    apply h0
    rw [ByteArray.toList_eq] at q
    cases a; simp only [ByteArray.mk.injEq]
    exact Array.toList_eq_nil_iff.1 q
  cases q : a.toList with
  | nil => exact absurd q h1
  | cons _ _ => exact ⟨by simp, rfl, rfl⟩
theorem toList_eE {a : ByteArray} (h : emp a = true) : a.toList = [] ∧ a.toList.isEmpty = true ∧ (a.toList == []) = true := by
  obtain rfl := (emp_iff a).1 h
  have : (⟨#[]⟩ : ByteArray).toList = [] := by rw [ByteArray.toList_eq]
  rw [this]
  exact ⟨rfl, rfl, rfl⟩
end Go.Proofs.YtcpfiiapfggmpaaGreat
/- Names: text.Name and the reference's IsName. -/
namespace Go.Proofs.YtcpfiiapfggmpaaGreat
open Go.RowKit Go.Lib

/-- byte k of a name: a letter, or behind the first a digit or '-' -/
def okByte (k c : Nat) : Bool := (decide (97 ≤ c) && decide (c ≤ 122)) || (decide (k ≠ 0) && (decide (c = 45) || (decide (48 ≤ c) && decide (c ≤ 57))))
def nameTo (s : ByteArray) (k : Nat) : Prop := ∀ i (h : i < s.size), i < k → okByte i (s[i]'h).toNat = true
def nameB (s : ByteArray) : Bool := decide (1 ≤ s.size) && decide (s.size ≤ 12) && (List.range s.size).all fun i => okByte i (s.get! i).toNat
theorem get_bang (s : ByteArray) (i : Nat) (h : i < s.size) : s.get! i = s[i]'h := get_at s i h
theorem nameB_iff (s : ByteArray) : nameB s = true ↔ 1 ≤ s.size ∧ s.size ≤ 12 ∧ nameTo s s.size := by
  unfold nameB nameTo
  simp only [Bool.and_eq_true, decide_eq_true_eq, List.all_eq_true, List.mem_range, and_assoc]
  refine and_congr_right fun _ => and_congr_right fun _ => ?_
  constructor
  · intro h i hi _
    rw [← get_bang s i hi]
    exact h i hi
  · intro h i hi
    rw [get_bang s i hi]
    exact h i hi hi
theorem nameTo_succ {s : ByteArray} {k : Nat} (h : nameTo s k) (hk : k < s.size) (ho : okByte k (s[k]'hk).toNat = true) : nameTo s (k + 1) := by
  intro i hi hik
  rcases (by omega : i < k ∨ i = k) with e | rfl
  · exact h i hi e
  · exact ho
theorem nameB_no {s : ByteArray} {k : Nat} (hk : k < s.size) (ho : okByte k (s[k]'hk).toNat = false) : nameB s = false := by
  cases hb : nameB s
  · rfl
  · have := ((nameB_iff s).1 hb).2.2 k hk hk
    rw [ho] at this
    cases this
theorem below_iter (w : World) (s : ByteArray) (pos : Nat) : Below w.heap.size w (w.iter s pos) := (Below.refl _ w).al _

theorem next_name {P : Program} (w : World) (s : ByteArray) (pos : Nat) (hp : pos < s.size) :
    ∃ c wd : Nat, (∀ ty, (Instr.next (.pointer (some ⟨w.heap.size, 0, none⟩)) true ty).run P (w.iter s pos) = .ok (.tuple #[.bool true, .int .i64 pos, .int .i32 c]) (w.iter s (pos + wd))) ∧
      okByte pos c = okByte pos (s[pos]'hp).toNat ∧ (okByte pos c = true → wd = 1) ∧ c ≤ 2147483647 := by
  by_cases ha : (s[pos]'hp).toNat < 128
  · exact ⟨(s[pos]'hp).toNat, 1, fun ty => run_next_ascii w s pos ty hp ha, rfl, fun _ => rfl, by omega⟩
  · have h1 := (decode_high s pos hp (by omega)).1
    have e1 : okByte pos (Utf8.decode s pos).1 = false := by
      unfold okByte
      simp only [Bool.or_eq_false_iff, Bool.and_eq_false_iff, decide_eq_false_iff_not]
      omega
    have e2 : okByte pos (s[pos]'hp).toNat = false := by
      unfold okByte
      simp only [Bool.or_eq_false_iff, Bool.and_eq_false_iff, decide_eq_false_iff_not]
      omega
    refine ⟨(Utf8.decode s pos).1, (Utf8.decode s pos).2, fun ty => run_next_any w s pos ty hp, by rw [e1, e2], fun h => ?_, decode_le s pos⟩
    rw [e1] at h
    cases h
theorem okByte_yes {k c : Nat} (h : okByte k c = true) : (97 ≤ (c : Int) ∧ (c : Int) ≤ 122) ∨
    (((k : Int) == 0) = false ∧ (c : Int) < 97 ∧ (((c : Int) != 45) = false ∨ (((c : Int) != 45) = true ∧ 48 ≤ (c : Int) ∧ (c : Int) ≤ 57))) := by
  unfold okByte at h
  simp only [Bool.or_eq_true, Bool.and_eq_true, decide_eq_true_eq] at h
  simp
  omega
theorem okByte_no {k c : Nat} (h : okByte k c = false) : ((c : Int) < 97 ∨ (97 ≤ (c : Int) ∧ 122 < (c : Int))) ∧ (((k : Int) == 0) = true ∨ (((k : Int) == 0) = false ∧ ((c : Int) != 45) = true ∧ ((c : Int) < 48 ∨ (48 ≤ (c : Int) ∧ 57 < (c : Int))))) := by
  unfold okByte at h
  simp only [Bool.or_eq_false_iff, Bool.and_eq_false_iff, decide_eq_false_iff_not] at h
  simp
  omega

set_option maxHeartbeats 1000000 in
theorem name_any (s : ByteArray) (w : World) :
    Calls Tryz.prog 125 #[.string s] w fun e w' => e = .returned (.bool (nameB s)) ∧ Below w.heap.size w w' := by
  generalize hr : nameB s = r
  by_cases h0 : s.size = 0
  · have hs : s = ByteArray.empty := by
      cases s with | mk d => simp at h0; simp [h0]
    have R := Lib.hid (show r = false by rw [← hr, nameB, h0]; rfl)
    subst hs
    clear hr
    go_enter Tryz.func125, Tryz.ntmps125
    go_wp2
    all_goals (go_ret; rw [R.out]; exact ⟨rfl, Below.refl _ _⟩)
  · have hn : ¬ s.toList = [] := fun h => h0 (by rw [(toList_nil_iff_emptyBytes s).1 h]; rfl)
    have he : s.toList.isEmpty = false := by cases hl : s.toList with | nil => exact absurd hl hn | cons _ _ => rfl
    by_cases h12 : 12 < s.size
    · have R := Lib.hid (show r = false by rw [← hr, nameB, show decide (s.size ≤ 12) = false from decide_eq_false (by omega)]; simp)
      clear hr
      go_enter Tryz.func125, Tryz.ntmps125
      go_wp2
      all_goals (go_ret; rw [R.out]; exact ⟨rfl, Below.refl _ _⟩)
    · have HR := Lib.hid hr
      clear hr
      go_enter Tryz.func125, Tryz.ntmps125
      go_wp2
      clear hn he
      go_loopw [3] (fun _ wr => ∃ pos, pos ≤ s.size ∧ wr = w.iter s pos ∧ Hid (nameTo s pos)) (fun _ wr => s.size - wr.iterPos w.heap.size)
      case atStart => exact ⟨0, Nat.zero_le _, rfl, fun i _ h => absurd h (Nat.not_lt_zero _)⟩
      case round =>
        obtain ⟨pos, hpl, rfl, HN⟩ := hrel
        by_cases hp : pos < s.size
        · obtain ⟨c, wd, hnx, hoc, hwd, hcm⟩ := next_name (P := Tryz.prog) w s pos hp
          cases ho : okByte pos c
          · have R := Lib.hid (show r = false by rw [← HR.out, nameB_no hp (by rw [← hoc]; exact ho)])
            have hno := okByte_no ho
            clear hoc hwd ho
            rcases hno with ⟨h1 | ⟨h1, h2⟩, h3 | ⟨h3, h4, h5 | ⟨h5, h6⟩⟩⟩
            all_goals (go_wp2; all_goals first | (go_ret; rw [R.out]; exact ⟨rfl, below_iter w s _⟩) | (exfalso; rename_i hx; simp at hx; omega))
          · have hw1 := hwd ho
            subst hw1
            have R := Lib.hid (nameTo_succ HN.out hp (by rw [← hoc]; exact ho))
            have hyes := okByte_yes ho
            clear hoc hwd ho
            rcases hyes with ⟨h1, h2⟩ | ⟨h1, h2, h3 | ⟨h3, h4, h5⟩⟩
            all_goals
              go_wp2
              go_roundw
              case rel => exact ⟨pos + 1, by omega, rfl, R⟩
              case measure => simp; omega
        · obtain rfl : pos = s.size := by omega
          have R := Lib.hid (show r = true by rw [← HR.out]; exact (nameB_iff s).2 ⟨by omega, by omega, HN.out⟩)
          have hnx : ∀ ty, (Instr.next (.pointer (some ⟨w.heap.size, 0, none⟩)) true ty).run Tryz.prog (w.iter s s.size) = _ := fun ty => run_next_end w s s.size ty hp
          go_wp2
          go_ret
          rw [R.out]
          exact ⟨rfl, below_iter w s _⟩
theorem okByte_yes' {k c : Nat} (h : okByte k c = true) : (97 ≤ (c : Int) ∧ (c : Int) ≤ 122) ∨ ((c : Int) < 97 ∧ 48 ≤ (c : Int) ∧ (c : Int) ≤ 57) ∨ ((c : Int) < 48 ∧ (c : Int) = 45) := by
  unfold okByte at h
  simp only [Bool.or_eq_true, Bool.and_eq_true, decide_eq_true_eq] at h
  omega
theorem okByte_no' {k c : Nat} (h : okByte k c = false) (hk : k ≠ 0) : ((c : Int) < 48 ∧ ¬ (c : Int) = 45) ∨ (57 < (c : Int) ∧ (c : Int) < 97) ∨ 122 < (c : Int) := by
  unfold okByte at h
  simp only [Bool.or_eq_false_iff, Bool.and_eq_false_iff, decide_eq_false_iff_not] at h
  omega

end Go.Proofs.YtcpfiiapfggmpaaGreat
