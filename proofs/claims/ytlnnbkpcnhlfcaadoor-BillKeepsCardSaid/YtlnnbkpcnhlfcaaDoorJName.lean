/- Joined texts: Name, DetTag, DetPl, AccMath, AccEnc, Idx. -/
import Derived.Test.YtlnnbkpcnhlfcaaDoorProg
import Derived.Test.YtlnnbkpcnhlfcaaDoorJInts
import Derived.Outline
import Derived.Laws.RangeAny
import Derived.Laws.RangeString
import Derived.LoopTactic
import Derived.Laws.Closers25b
import Derived.IntWalk
import Derived.Laws.IdiomStrings
import Derived.Test.YtlnnbkpcnhlfcaaDoorSpanMath
import Derived.Test.YtlnnbkpcnhlfcaaDoorFirst
import Derived.Lib.SlBy
/- Names: text.Name and the reference's IsName. -/
namespace Go.Proofs.YtlnnbkpcnhlfcaaDoor
open Go.RowKit Go.Lib

/-- byte k of a name: a letter, or behind the first a digit or '-' -/
def okByte (k c : Nat) : Bool := (decide (97 ≤ c) && decide (c ≤ 122)) || (decide (k ≠ 0) && (decide (c = 45) || (decide (48 ≤ c) && decide (c ≤ 57))))
def nameTo (s : ByteArray) (k : Nat) : Prop := ∀ i (h : i < s.size), i < k → okByte i (s[i]'h).toNat = true
def nameB (s : ByteArray) : Bool := decide (1 ≤ s.size) && decide (s.size ≤ 12) && (List.range s.size).all fun i => okByte i (s.get! i).toNat
theorem get_bang (s : ByteArray) (i : Nat) (h : i < s.size) : s.get! i = s[i]'h := get_at s i h
theorem nameB_iff (s : ByteArray) : nameB s = true ↔ 1 ≤ s.size ∧ s.size ≤ 12 ∧ nameTo s s.size := by
  unfold nameB nameTo
  simp only [Bool.and_eq_true, decide_eq_true_eq, List.all_eq_true, List.mem_range, and_assoc]
  refine and_congr_right fun _ => and_congr_right fun _ => ?_
  constructor
  · intro h i hi _
    rw [← get_bang s i hi]
    exact h i hi
  · intro h i hi
    rw [get_bang s i hi]
    exact h i hi hi
theorem nameTo_succ {s : ByteArray} {k : Nat} (h : nameTo s k) (hk : k < s.size) (ho : okByte k (s[k]'hk).toNat = true) : nameTo s (k + 1) := by
  intro i hi hik
  rcases (by omega : i < k ∨ i = k) with e | rfl
  · exact h i hi e
  · exact ho
theorem nameB_no {s : ByteArray} {k : Nat} (hk : k < s.size) (ho : okByte k (s[k]'hk).toNat = false) : nameB s = false := by
  cases hb : nameB s
  · rfl
  · have := ((nameB_iff s).1 hb).2.2 k hk hk
    rw [ho] at this
    cases this
theorem below_iter (w : World) (s : ByteArray) (pos : Nat) : Below w.heap.size w (w.iter s pos) := (Below.refl _ w).al _

theorem next_name {P : Program} (w : World) (s : ByteArray) (pos : Nat) (hp : pos < s.size) :
    ∃ c wd : Nat, (∀ ty, (Instr.next (.pointer (some ⟨w.heap.size, 0, none⟩)) true ty).run P (w.iter s pos) = .ok (.tuple #[.bool true, .int .i64 pos, .int .i32 c]) (w.iter s (pos + wd))) ∧
      okByte pos c = okByte pos (s[pos]'hp).toNat ∧ (okByte pos c = true → wd = 1) ∧ c ≤ 2147483647 := by
  by_cases ha : (s[pos]'hp).toNat < 128
  · exact ⟨(s[pos]'hp).toNat, 1, fun ty => run_next_ascii w s pos ty hp ha, rfl, fun _ => rfl, by omega⟩
  · have h1 := (decode_high s pos hp (by omega)).1
    have e1 : okByte pos (Utf8.decode s pos).1 = false := by
      unfold okByte
      simp only [Bool.or_eq_false_iff, Bool.and_eq_false_iff, decide_eq_false_iff_not]
      omega
    have e2 : okByte pos (s[pos]'hp).toNat = false := by
      unfold okByte
      simp only [Bool.or_eq_false_iff, Bool.and_eq_false_iff, decide_eq_false_iff_not]
      omega
    refine ⟨(Utf8.decode s pos).1, (Utf8.decode s pos).2, fun ty => run_next_any w s pos ty hp, by rw [e1, e2], fun h => ?_, decode_le s pos⟩
    rw [e1] at h
    cases h
theorem okByte_yes {k c : Nat} (h : okByte k c = true) : (97 ≤ (c : Int) ∧ (c : Int) ≤ 122) ∨
    (((k : Int) == 0) = false ∧ (c : Int) < 97 ∧ (((c : Int) != 45) = false ∨ (((c : Int) != 45) = true ∧ 48 ≤ (c : Int) ∧ (c : Int) ≤ 57))) := by
  unfold okByte at h
  simp only [Bool.or_eq_true, Bool.and_eq_true, decide_eq_true_eq] at h
  simp
  omega
theorem okByte_no {k c : Nat} (h : okByte k c = false) : ((c : Int) < 97 ∨ (97 ≤ (c : Int) ∧ 122 < (c : Int))) ∧ (((k : Int) == 0) = true ∨ (((k : Int) == 0) = false ∧ ((c : Int) != 45) = true ∧ ((c : Int) < 48 ∨ (48 ≤ (c : Int) ∧ 57 < (c : Int))))) := by
  unfold okByte at h
  simp only [Bool.or_eq_false_iff, Bool.and_eq_false_iff, decide_eq_false_iff_not] at h
  simp
  omega

set_option maxHeartbeats 1000000 in
theorem name_any (s : ByteArray) (w : World) :
    Calls Tryd.prog 86 #[.string s] w fun e w' => e = .returned (.bool (nameB s)) ∧ Below w.heap.size w w' := by
  generalize hr : nameB s = r
  by_cases h0 : s.size = 0
  · have hs : s = ByteArray.empty := by
      cases s with | mk d => simp at h0; simp [h0]
    have R := Lib.hid (show r = false by rw [← hr, nameB, h0]; rfl)
    subst hs
    clear hr
    go_enter Tryd.func86, Tryd.ntmps86
    go_wp2
    all_goals (go_ret; rw [R.out]; exact ⟨rfl, Below.refl _ _⟩)
  · have hn : ¬ s.toList = [] := fun h => h0 (by rw [(toList_nil_iff_emptyBytes s).1 h]; rfl)
    have he : s.toList.isEmpty = false := by cases hl : s.toList with | nil => exact absurd hl hn | cons _ _ => rfl
    by_cases h12 : 12 < s.size
    · have R := Lib.hid (show r = false by rw [← hr, nameB, show decide (s.size ≤ 12) = false from decide_eq_false (by omega)]; simp)
      clear hr
      go_enter Tryd.func86, Tryd.ntmps86
      go_wp2
      all_goals (go_ret; rw [R.out]; exact ⟨rfl, Below.refl _ _⟩)
    · have HR := Lib.hid hr
      clear hr
      go_enter Tryd.func86, Tryd.ntmps86
      go_wp2
      clear hn he
      go_loopw [3] (fun _ wr => ∃ pos, pos ≤ s.size ∧ wr = w.iter s pos ∧ Hid (nameTo s pos)) (fun _ wr => s.size - wr.iterPos w.heap.size)
      case atStart => exact ⟨0, Nat.zero_le _, rfl, fun i _ h => absurd h (Nat.not_lt_zero _)⟩
      case round =>
        obtain ⟨pos, hpl, rfl, HN⟩ := hrel
        by_cases hp : pos < s.size
        · obtain ⟨c, wd, hnx, hoc, hwd, hcm⟩ := next_name (P := Tryd.prog) w s pos hp
          cases ho : okByte pos c
          · have R := Lib.hid (show r = false by rw [← HR.out, nameB_no hp (by rw [← hoc]; exact ho)])
            have hno := okByte_no ho
            clear hoc hwd ho
            rcases hno with ⟨h1 | ⟨h1, h2⟩, h3 | ⟨h3, h4, h5 | ⟨h5, h6⟩⟩⟩
            all_goals (go_wp2; all_goals first | (go_ret; rw [R.out]; exact ⟨rfl, below_iter w s _⟩) | (exfalso; rename_i hx; simp at hx; omega))
          · have hw1 := hwd ho
            subst hw1
            have R := Lib.hid (nameTo_succ HN.out hp (by rw [← hoc]; exact ho))
            have hyes := okByte_yes ho
            clear hoc hwd ho
            rcases hyes with ⟨h1, h2⟩ | ⟨h1, h2, h3 | ⟨h3, h4, h5⟩⟩
            all_goals
              go_wp2
              go_roundw
              case rel => exact ⟨pos + 1, by omega, rfl, R⟩
              case measure => simp; omega
        · obtain rfl : pos = s.size := by omega
          have R := Lib.hid (show r = true by rw [← HR.out]; exact (nameB_iff s).2 ⟨by omega, by omega, HN.out⟩)
          have hnx : ∀ ty, (Instr.next (.pointer (some ⟨w.heap.size, 0, none⟩)) true ty).run Tryd.prog (w.iter s s.size) = _ := fun ty => run_next_end w s s.size ty hp
          go_wp2
          go_ret
          rw [R.out]
          exact ⟨rfl, below_iter w s _⟩
theorem okByte_yes' {k c : Nat} (h : okByte k c = true) : (97 ≤ (c : Int) ∧ (c : Int) ≤ 122) ∨ ((c : Int) < 97 ∧ 48 ≤ (c : Int) ∧ (c : Int) ≤ 57) ∨ ((c : Int) < 48 ∧ (c : Int) = 45) := by
  unfold okByte at h
  simp only [Bool.or_eq_true, Bool.and_eq_true, decide_eq_true_eq] at h
  omega
theorem okByte_no' {k c : Nat} (h : okByte k c = false) (hk : k ≠ 0) : ((c : Int) < 48 ∧ ¬ (c : Int) = 45) ∨ (57 < (c : Int) ∧ (c : Int) < 97) ∨ 122 < (c : Int) := by
  unfold okByte at h
  simp only [Bool.or_eq_false_iff, Bool.and_eq_false_iff, decide_eq_false_iff_not] at h
  omega

end Go.Proofs.YtlnnbkpcnhlfcaaDoor
/- Transponder numbers: tag.Check and the reference's Check, walked. -/
namespace Go.Proofs.YtlnnbkpcnhlfcaaDoor
open Go.RowKit Go.Lib

def digB (c : Nat) : Bool := decide (48 ≤ c) && decide (c ≤ 57)
def digTo (s : ByteArray) (k : Nat) : Prop := ∀ i (h : i < s.size), i < k → digB (s[i]'h).toNat = true
/-- what digit c adds at place i -/
def lv (i c : Nat) : Int := if i % 2 = 0 then (if 9 < 2 * ((c : Int) - 48) then 2 * ((c : Int) - 48) - 9 else 2 * ((c : Int) - 48)) else (c : Int) - 48
def lsum (s : ByteArray) : Nat → Int
  | 0 => 0
  | k + 1 => lsum s k + lv k (s.get! k).toNat
def allDig (s : ByteArray) : Bool := (List.range s.size).all fun i => digB (s.get! i).toNat
def tagB (s : ByteArray) : Bool := decide (s.size = 12) && allDig s && decide (lsum s 12 % 10 = 0)
theorem get_at2 (s : ByteArray) (i : Nat) (h : i < s.size) : s.get! i = s[i]'h := get_at s i h
theorem allDig_iff (s : ByteArray) : allDig s = true ↔ digTo s s.size := by
  unfold allDig digTo
  simp only [List.all_eq_true, List.mem_range]
  constructor
  · intro h i hi _
    rw [← get_at2 s i hi]; exact h i hi
  · intro h i hi
    rw [get_at2 s i hi]; exact h i hi hi
theorem allDig_no {s : ByteArray} {k : Nat} (hk : k < s.size) (h : digB (s[k]'hk).toNat = false) : allDig s = false := by
  cases hb : allDig s
  · rfl
  · have := (allDig_iff s).1 hb k hk hk
    rw [h] at this; cases this
theorem digTo_succ {s : ByteArray} {k : Nat} (h : digTo s k) (hk : k < s.size) (ho : digB (s[k]'hk).toNat = true) : digTo s (k + 1) := by
  intro i hi hik
  rcases (by omega : i < k ∨ i = k) with e | rfl
  · exact h i hi e
  · exact ho
theorem digB_yes {c : Nat} (h : digB c = true) : 48 ≤ (c : Int) ∧ (c : Int) ≤ 57 := by unfold digB at h; simp at h; omega
theorem digB_no {c : Nat} (h : digB c = false) : (c : Int) < 48 ∨ (48 ≤ (c : Int) ∧ 57 < (c : Int)) := by unfold digB at h; simp at h; omega
theorem lv_bounds {i c : Nat} (h : digB c = true) : 0 ≤ lv i c ∧ lv i c ≤ 9 := by
  have := digB_yes h
  unfold lv
  split
  · split <;> omega
  · omega
theorem lsum_bounds {s : ByteArray} (h : allDig s = true) : ∀ k, k ≤ s.size → 0 ≤ lsum s k ∧ lsum s k ≤ 9 * (k : Int)
  | 0, _ => by simp [lsum]
  | k + 1, hk => by
    have ih := lsum_bounds h k (by omega)
    have := (allDig_iff s).1 h k (by omega) (by omega)
    rw [← get_at2 s k (by omega)] at this
    have hv := lv_bounds (i := k) this
    unfold lsum
    omega
theorem below_iter2 (w : World) (s : ByteArray) (pos : Nat) : Below w.heap.size w (w.iter s pos) := (Below.refl _ w).al _
theorem next_dig {P : Program} (w : World) (s : ByteArray) (pos : Nat) (hp : pos < s.size) :
    ∃ c wd : Nat, (∀ ty, (Instr.next (.pointer (some ⟨w.heap.size, 0, none⟩)) true ty).run P (w.iter s pos) = .ok (.tuple #[.bool true, .int .i64 pos, .int .i32 c]) (w.iter s (pos + wd))) ∧
      digB c = digB (s[pos]'hp).toNat ∧ (digB c = true → wd = 1 ∧ c = (s[pos]'hp).toNat) ∧ c ≤ 2147483647 := by
  by_cases ha : (s[pos]'hp).toNat < 128
  · exact ⟨(s[pos]'hp).toNat, 1, fun ty => run_next_ascii w s pos ty hp ha, rfl, fun _ => ⟨rfl, rfl⟩, by omega⟩
  · have h1 := (decode_high s pos hp (by omega)).1
    have e1 : digB (Utf8.decode s pos).1 = false := by
      unfold digB
      simp only [Bool.and_eq_false_iff, decide_eq_false_iff_not]
      omega
    have e2 : digB (s[pos]'hp).toNat = false := by
      unfold digB
      simp only [Bool.and_eq_false_iff, decide_eq_false_iff_not]
      omega
    refine ⟨(Utf8.decode s pos).1, (Utf8.decode s pos).2, fun ty => run_next_any w s pos ty hp, by rw [e1, e2], fun h => ?_, decode_le s pos⟩
    rw [e1] at h
    cases h

end Go.Proofs.YtlnnbkpcnhlfcaaDoor
/- Plates: the plain normal form; plate.Normal, walked. -/
namespace Go.Proofs.YtlnnbkpcnhlfcaaDoor
open Go.RowKit Go.Lib

def encB (b : UInt8) : List Value := [.int .u8 (b.toNat : Int)]
theorem encB_ok : Enc encB 1 := ⟨fun _ => rfl, fun x u hu => by simp [encB] at hu; subst hu; rfl⟩
def upB (b : UInt8) : UInt8 := if 97 ≤ b.toNat ∧ b.toNat ≤ 122 then b - 32 else b
def skipB (b : UInt8) : Bool := decide (b.toNat = 32) || decide (b.toNat = 45)
def alB (b : UInt8) : Bool := (decide (65 ≤ b.toNat) && decide (b.toNat ≤ 90)) || (decide (48 ≤ b.toNat) && decide (b.toNat ≤ 57))
/-- a byte that may stand in a plate -/
def okPl (b : UInt8) : Bool := skipB b || alB (upB b)
def plAll (s : ByteArray) (k : Nat) : Prop := ∀ i (h : i < s.size), i < k → okPl (s[i]'h) = true
/-- the bytes of the normal form -/
def plOut (s : ByteArray) : Nat → List UInt8
  | 0 => []
  | k + 1 => plOut s k ++ (if skipB (s.get! k) = true then [] else [upB (s.get! k)])
def plAllB (s : ByteArray) : Bool := (List.range s.size).all fun i => okPl (s.get! i)
def plB (s : ByteArray) : Bool := plAllB s && decide (2 ≤ (plOut s s.size).length) && decide ((plOut s s.size).length ≤ 10)
/-- the normal form, empty where there is none -/
def plS (s : ByteArray) : ByteArray := if plB s = true then ⟨(plOut s s.size).toArray⟩ else ⟨#[]⟩
def plE (s : ByteArray) : Int := if plB s = true then 0 else 19
theorem plAllB_iff (s : ByteArray) : plAllB s = true ↔ plAll s s.size := by
  unfold plAllB plAll
  simp only [List.all_eq_true, List.mem_range]
  constructor
  · intro h i hi _
    rw [← get_at2 s i hi]; exact h i hi
  · intro h i hi
    rw [get_at2 s i hi]; exact h i hi hi
theorem plB_bad {s : ByteArray} {k : Nat} (hk : k < s.size) (h : okPl (s[k]'hk) = false) : plB s = false := by
  have : plAllB s = false := by
    cases hb : plAllB s
    · rfl
    · have := (plAllB_iff s).1 hb k hk hk
      rw [h] at this; cases this
  unfold plB; rw [this]; rfl
theorem plAll_succ {s : ByteArray} {k : Nat} (h : plAll s k) (hk : k < s.size) (ho : okPl (s[k]'hk) = true) : plAll s (k + 1) := by
  intro i hi hik
  rcases (by omega : i < k ∨ i = k) with e | rfl
  · exact h i hi e
  · exact ho
theorem plOut_skip {s : ByteArray} {k : Nat} (hk : k < s.size) (h : skipB (s[k]'hk) = true) : plOut s (k + 1) = plOut s k := by
  show plOut s k ++ _ = _
  rw [get_at2 s k hk, if_pos h, List.append_nil]
theorem plOut_add {s : ByteArray} {k : Nat} (hk : k < s.size) (h : skipB (s[k]'hk) = false) : plOut s (k + 1) = plOut s k ++ [upB (s[k]'hk)] := by
  show plOut s k ++ _ = _
  rw [get_at2 s k hk, if_neg (by rw [h]; simp)]
theorem plOut_mono (s : ByteArray) {k : Nat} : ∀ {n : Nat}, k ≤ n → (plOut s k).length ≤ (plOut s n).length
  | 0, h => by obtain rfl : k = 0 := by omega
               exact Nat.le_refl _
  | n + 1, h => by
    by_cases e : k = n + 1
    · subst e; exact Nat.le_refl _
    · refine Nat.le_trans (plOut_mono s (n := n) (by omega)) ?_
      show _ ≤ (plOut s n ++ _).length
      rw [List.length_append]; omega
theorem plOut_le (s : ByteArray) : ∀ k, (plOut s k).length ≤ k
  | 0 => Nat.le_refl _
  | k + 1 => by
    have := plOut_le s k
    show (plOut s k ++ _).length ≤ _
    rw [List.length_append]
    split <;> simp <;> omega
theorem plB_long {s : ByteArray} {k : Nat} (hk : k ≤ s.size) (h : 10 < (plOut s k).length) : plB s = false := by
  have := plOut_mono s hk
  unfold plB
  rw [decide_eq_false (by omega : ¬ (plOut s s.size).length ≤ 10), Bool.and_false]
theorem plB_end {s : ByteArray} (h : plAll s s.size) : plB s = (decide (2 ≤ (plOut s s.size).length) && decide ((plOut s s.size).length ≤ 10)) := by
  unfold plB
  rw [(plAllB_iff s).2 h, Bool.true_and]
/-- the ways of a byte -/
theorem pl_ways (b : UInt8) : (∃ x : UInt8, 97 ≤ (b.toNat : Int) ∧ (b.toNat : Int) ≤ 122 ∧ upB b = x ∧ (x.toNat : Int) = (b.toNat : Int) - 32 ∧ skipB b = false ∧ okPl b = true) ∨
    ((b.toNat : Int) = 32 ∧ skipB b = true ∧ okPl b = true) ∨ ((b.toNat : Int) = 45 ∧ skipB b = true ∧ okPl b = true) ∨
    (65 ≤ (b.toNat : Int) ∧ (b.toNat : Int) ≤ 90 ∧ upB b = b ∧ skipB b = false ∧ okPl b = true) ∨ (48 ≤ (b.toNat : Int) ∧ (b.toNat : Int) ≤ 57 ∧ upB b = b ∧ skipB b = false ∧ okPl b = true) ∨
    (okPl b = false ∧ (b.toNat : Int) ≠ 32 ∧ (b.toNat : Int) ≠ 45 ∧ ¬ (65 ≤ (b.toNat : Int) ∧ (b.toNat : Int) ≤ 90) ∧ ¬ (48 ≤ (b.toNat : Int) ∧ (b.toNat : Int) ≤ 57) ∧ ¬ (97 ≤ (b.toNat : Int) ∧ (b.toNat : Int) ≤ 122)) := by
  by_cases h1 : 97 ≤ b.toNat ∧ b.toNat ≤ 122
  · have e : (b - 32).toNat = b.toNat - 32 := by
      rw [UInt8.toNat_sub]
      have : (32 : UInt8).toNat = 32 := rfl
      omega
    have hs : skipB b = false := by unfold skipB; simp; omega
    refine Or.inl ⟨b - 32, by omega, by omega, by unfold upB; rw [if_pos h1], by omega, hs, ?_⟩
    unfold okPl
    rw [hs]
    unfold upB alB
    rw [if_pos h1, e]
    simp; omega
  · have hu : upB b = b := by unfold upB; rw [if_neg h1]
    by_cases h2 : b.toNat = 32
    · have hs : skipB b = true := by unfold skipB; simp [h2]
      exact Or.inr (Or.inl ⟨by omega, hs, by unfold okPl; rw [hs]; rfl⟩)
    · by_cases h3 : b.toNat = 45
      · have hs : skipB b = true := by unfold skipB; simp [h3]
        exact Or.inr (Or.inr (Or.inl ⟨by omega, hs, by unfold okPl; rw [hs]; rfl⟩))
      · have hs : skipB b = false := by unfold skipB; simp [h2, h3]
        by_cases h4 : 65 ≤ b.toNat ∧ b.toNat ≤ 90
        · exact Or.inr (Or.inr (Or.inr (Or.inl ⟨by omega, by omega, hu, hs, by unfold okPl; rw [hs, hu]; unfold alB; simp; omega⟩)))
        · by_cases h5 : 48 ≤ b.toNat ∧ b.toNat ≤ 57
          · exact Or.inr (Or.inr (Or.inr (Or.inr (Or.inl ⟨by omega, by omega, hu, hs, by unfold okPl; rw [hs, hu]; unfold alB; simp; omega⟩))))
          · refine Or.inr (Or.inr (Or.inr (Or.inr (Or.inr ⟨?_, by omega, by omega, by omega, by omega, by omega⟩))))
            unfold okPl
            rw [hs, hu]
            unfold alB
            simp; omega
end Go.Proofs.YtlnnbkpcnhlfcaaDoor
/- Accounts in plain words. No program in sight. -/
namespace Go.Proofs.YtlnnbkpcnhlfcaaDoor

/-- an element of Owned -/
structure Ow where
  tag : ByteArray
  pl : ByteArray
  f : Int
  t : Int
/-- an account's values -/
structure Av where
  name : ByteArray
  ag : ByteArray
  pre : Bool
  os : List Ow
  r0 : Int
  r1 : Int
  r2 : Int
  r3 : Int
  ex : Bool
def emp (s : ByteArray) : Bool := eqS s ⟨#[]⟩
theorem emp_iff (s : ByteArray) : emp s = true ↔ s = ⟨#[]⟩ := eqS_iff s _

/-- the error of an element -/
def corrE (o : Ow) : Int :=
  if emp o.tag = emp o.pl then 1
  else if emp o.tag = false ∧ tagB o.tag = false then 18
  else if emp o.pl = false ∧ (plB o.pl && eqS (plS o.pl) o.pl) = false then 19
  else if validB o.f o.t = false then 12 else 0
def sameV (x o : Ow) : Bool := eqS x.tag o.tag && eqS x.pl o.pl
def overl (x o : Ow) : Bool := validB x.f x.t && validB o.f o.t && decide (x.f < o.t) && decide (o.f < x.t)
def conB (x o : Ow) : Bool := sameV x o && overl x o
def conL (l : List Ow) (o : Ow) : Bool := l.any fun x => conB x o
def oneA (os : List Ow) (i : Nat) : Int := match os[i]? with
  | none => 0
  | some o => if corrE o ≠ 0 then corrE o else if conL (os.take i) o = true then 9 else 0
def checkA (a : Av) : Int :=
  if nameB a.name = false then 6
  else if emp a.ag = false ∧ nameB a.ag = false then 30
  else if 64 < a.os.length then 3
  else firstE (oneA a.os) a.os.length
/-- an earlier account that does not go with a -/
def clash (b a : Av) : Bool := eqS b.name a.name || a.os.any fun o => conL b.os o
def oneL (l : List Av) (i : Nat) : Int := match l[i]? with
  | none => 0
  | some a => if checkA a ≠ 0 then checkA a else if ((l.take i).any fun b => clash b a) = true then 9 else 0
def checkL (l : List Av) : Int := if 1024 < l.length then 3 else firstE (oneL l) l.length

/-- an element gives a vehicle at a time -/
def ownsB (v : ByteArray) (t : Int) (o : Ow) : Bool := (!emp v) && (eqS o.tag v || eqS o.pl v) && (validB o.f o.t && decide (o.f ≤ t) && decide (t < o.t))
def ownA (v : ByteArray) (t : Int) (a : Av) : Bool := a.os.any (ownsB v t)
def ownerB (l : List Av) (v : ByteArray) (t : Int) : Bool := l.any (ownA v t)
def ownerN (l : List Av) (v : ByteArray) (t : Int) : ByteArray := match l.find? (ownA v t) with
  | none => ⟨#[]⟩
  | some a => a.name
def named (s : ByteArray) (a : Av) : Bool := eqS a.name s
def zeroA : Av := ⟨⟨#[]⟩, ⟨#[]⟩, false, [], 0, 0, 0, 0, false⟩

def linkE (l : List Av) (s : ByteArray) (o : Ow) : Int := match l.find? (named s) with
  | none => 25
  | some a => if corrE o ≠ 0 then corrE o else if 64 ≤ a.os.length then 3 else if (l.any fun b => conL b.os o) = true then 9 else 0
/-- the first element at which p holds, changed -/
def modF {α : Type} (p : α → Bool) (f : α → α) : List α → List α
  | [] => []
  | a :: l => if p a = true then f a :: l else a :: modF p f l
def linkL (l : List Av) (s : ByteArray) (o : Ow) : List Av := if linkE l s o = 0 then modF (named s) (fun a => { a with os := a.os ++ [o] }) l else l
def cutOne (t : Int) (o : Ow) : List Ow := if o.f = t then [] else [{ o with t := t }]
/-- the first element that gives v at t ends at t -/
def cutL (v : ByteArray) (t : Int) : List Ow → List Ow
  | [] => []
  | o :: l => if ownsB v t o = true then cutOne t o ++ l else o :: cutL v t l
def timeB (t : Int) : Bool := decide (0 ≤ t) && decide (t < 68719476736)
def unlinkE (l : List Av) (s v : ByteArray) (t : Int) : Int := match l.find? (named s) with
  | none => 25
  | some a => if timeB t = false then 12 else if ownA v t a = true then 0 else 10
def unlinkL (l : List Av) (s v : ByteArray) (t : Int) : List Av := if unlinkE l s v t = 0 then modF (named s) (fun a => { a with os := cutL v t a.os }) l else l

theorem modF_at {α : Type} {p : α → Bool} {f : α → α} : ∀ {l : List α} {k : Nat} {x : α}, l[k]? = some x → p x = true → (∀ y ∈ l.take k, p y = false) → modF p f l = l.set k (f x)
  | [], k, x, h, _, _ => by simp at h
  | y :: l, 0, x, h, hp, _ => by
    simp at h
    subst h
    simp [modF, hp]
  | y :: l, k + 1, x, h, hp, hn => by
    have hy : p y = false := hn y (by simp)
    rw [modF, if_neg (by rw [hy]; simp), List.set_cons_succ, modF_at (l := l) (k := k) (x := x) (by simpa using h) hp (fun z hz => hn z (by simp; exact Or.inr hz))]
theorem cutL_at {v : ByteArray} {t : Int} : ∀ {l : List Ow} {k : Nat} {x : Ow}, l[k]? = some x → ownsB v t x = true → (∀ y ∈ l.take k, ownsB v t y = false) → cutL v t l = l.take k ++ cutOne t x ++ l.drop (k + 1)
  | [], k, x, h, _, _ => by simp at h
  | y :: l, 0, x, h, hp, _ => by
    simp at h
    subst h
    simp [cutL, hp]
  | y :: l, k + 1, x, h, hp, hn => by
    have hy : ownsB v t y = false := hn y (by simp)
    rw [cutL, if_neg (by rw [hy]; simp), cutL_at (l := l) (k := k) (x := x) (by simpa using h) hp (fun z hz => hn z (by simp; exact Or.inr hz))]
    simp
theorem cutL_gone {v : ByteArray} {t : Int} {l : List Ow} {k : Nat} {x : Ow} (h : l[k]? = some x) (hp : ownsB v t x = true) (hn : ∀ y ∈ l.take k, ownsB v t y = false) (hf : x.f = t) : cutL v t l = l.take k ++ l.drop (k + 1) := by
  rw [cutL_at h hp hn, cutOne, if_pos hf, List.append_nil]
theorem cutL_set {v : ByteArray} {t : Int} {l : List Ow} {k : Nat} {x : Ow} (h : l[k]? = some x) (hp : ownsB v t x = true) (hn : ∀ y ∈ l.take k, ownsB v t y = false) (hf : ¬ x.f = t) : cutL v t l = l.set k { x with t := t } := by
  rw [cutL_at h hp hn, cutOne, if_neg hf, List.set_eq_take_append_cons_drop, if_pos (List.getElem?_eq_some_iff.1 h).1]
  simp
end Go.Proofs.YtlnnbkpcnhlfcaaDoor
/- Accounts as values. -/
namespace Go.Proofs.YtlnnbkpcnhlfcaaDoor
open Go.RowKit Go.Lib

instance : Inhabited Ow := ⟨⟨⟨#[]⟩, ⟨#[]⟩, 0, 0⟩⟩
instance : Inhabited Av := ⟨zeroA⟩
def encOw (o : Ow) : List Value := [.string o.tag, .string o.pl, .int .i64 o.f, .int .i64 o.t]
theorem encOw_ok : Enc encOw 4 := ⟨fun _ => rfl, fun x u hu => by simp [encOw] at hu; rcases hu with rfl | rfl | rfl | rfl <;> rfl⟩
theorem tyOw : TyS Tryd.prog 87 95 4 48 := TyS.mk' (z := .agg #[.string ⟨#[]⟩, .string ⟨#[]⟩, .int .i64 0, .int .i64 0]) Tryd.underlying87 (by kernel_rfl) rfl (by omega)
def OwV (o : Ow) : Value := .agg #[.string o.tag, .string o.pl, .int .i64 o.f, .int .i64 o.t]
def zeroOw : Ow := ⟨⟨#[]⟩, ⟨#[]⟩, 0, 0⟩
theorem Rd.ow {w : World} {B : Nat} {A : Option Addr} {l : List Ow} (h : Rd encOw 4 w B A l) {i : Nat} (hi : i < l.length) :
    ∃ b off o, A = some ⟨b, off, none⟩ ∧ b < B ∧ l[i]? = some o ∧ w.cell? ⟨b, off + i * 4, none⟩ = some (.string o.tag) ∧ w.cell? ⟨b, off + i * 4 + 1, none⟩ = some (.string o.pl) ∧ w.cell? ⟨b, off + i * 4 + 2, none⟩ = some (.int .i64 o.f) ∧ w.cell? ⟨b, off + i * 4 + 3, none⟩ = some (.int .i64 o.t) := by
  obtain ⟨b, off, o, hA, hb, hx, hc⟩ := h.at_ hi
  exact ⟨b, off, o, hA, hb, hx, hc 0 _ rfl, hc 1 _ rfl, hc 2 _ rfl, hc 3 _ rfl⟩

/-- an account: its values, and where its vehicles lie -/
structure Ac where
  v : Av
  oA : Option Addr
  oc : Nat
instance : Inhabited Ac := ⟨⟨zeroA, none, 0⟩⟩
def encAc (a : Ac) : List Value := [.string a.v.name, .string a.v.ag, .bool a.v.pre, .slice a.oA a.v.os.length a.oc, .int .i64 a.v.r0, .int .i64 a.v.r1, .int .i64 a.v.r2, .int .i64 a.v.r3, .bool a.v.ex]
theorem encAc_ok : Enc encAc 9 := ⟨fun _ => rfl, fun x u hu => by simp [encAc] at hu; rcases hu with rfl | rfl | rfl | rfl | rfl | rfl | rfl | rfl | rfl <;> rfl⟩
def AcV (a : Ac) : Value := .agg #[.string a.v.name, .string a.v.ag, .bool a.v.pre, .slice a.oA a.v.os.length a.oc, .int .i64 a.v.r0, .int .i64 a.v.r1, .int .i64 a.v.r2, .int .i64 a.v.r3, .bool a.v.ex]
theorem tyAc : TyS Tryd.prog 31 91 9 104 := TyS.mk' (z := .agg #[.string ⟨#[]⟩, .string ⟨#[]⟩, .bool false, .slice none 0 0, .int .i64 0, .int .i64 0, .int .i64 0, .int .i64 0, .bool false]) Tryd.underlying31 (by kernel_rfl) rfl (by omega)
def zeroAc : Ac := ⟨zeroA, none, 0⟩
def AOk (w : World) (a : Ac) : Prop := Rd encOw 4 w w.heap.size a.oA a.v.os ∧ a.v.os.length ≤ a.oc ∧ a.oc ≤ 9223372036854775807
theorem AOk.st {w w' : World} {a : Ac} (h : AOk w a) (hb : Below w.heap.size w w') : AOk w' a := ⟨h.1.st hb, h.2⟩
def AsOk (w : World) (l : List Ac) : Prop := ∀ a ∈ l, AOk w a
theorem AsOk.st {w w' : World} {l : List Ac} (h : AsOk w l) (hb : Below w.heap.size w w') : AsOk w' l := fun a ha => (h a ha).st hb
/-- the list lies in memory -/
def AL (w : World) (A : Option Addr) (c : Nat) (l : List Ac) : Prop := Rd encAc 9 w w.heap.size A l ∧ AsOk w l ∧ l.length ≤ c ∧ c ≤ 9223372036854775807
theorem AL.st {w w' : World} {A : Option Addr} {c : Nat} {l : List Ac} (h : AL w A c l) (hb : Below w.heap.size w w') : AL w' A c l := ⟨h.1.st hb, h.2.1.st hb, h.2.2⟩
def vals (l : List Ac) : List Av := l.map Ac.v
/-- strings and lists are not too long -/
def smO (o : Ow) : Prop := o.tag.size ≤ 1000 ∧ o.pl.size ≤ 1000
def smA (a : Ac) : Prop := a.v.os.length ≤ 1000 ∧ ∀ o ∈ a.v.os, smO o
def smL (l : List Ac) : Prop := l.length ≤ 1000 ∧ ∀ a ∈ l, smA a
theorem Rd.ac {w : World} {B : Nat} {A : Option Addr} {l : List Ac} (h : Rd encAc 9 w B A l) {i : Nat} (hi : i < l.length) :
    ∃ b off a, A = some ⟨b, off, none⟩ ∧ b < B ∧ l[i]? = some a ∧ w.cell? ⟨b, off + i * 9, none⟩ = some (.string a.v.name) ∧ w.cell? ⟨b, off + i * 9 + 1, none⟩ = some (.string a.v.ag) ∧ w.cell? ⟨b, off + i * 9 + 2, none⟩ = some (.bool a.v.pre) ∧ w.cell? ⟨b, off + i * 9 + 3, none⟩ = some (.slice a.oA a.v.os.length a.oc) ∧ w.cell? ⟨b, off + i * 9 + 4, none⟩ = some (.int .i64 a.v.r0) ∧ w.cell? ⟨b, off + i * 9 + 5, none⟩ = some (.int .i64 a.v.r1) ∧ w.cell? ⟨b, off + i * 9 + 6, none⟩ = some (.int .i64 a.v.r2) ∧ w.cell? ⟨b, off + i * 9 + 7, none⟩ = some (.int .i64 a.v.r3) ∧ w.cell? ⟨b, off + i * 9 + 8, none⟩ = some (.bool a.v.ex) := by
  obtain ⟨b, off, a, hA, hb, hx, hc⟩ := h.at_ hi
  exact ⟨b, off, a, hA, hb, hx, hc 0 _ rfl, hc 1 _ rfl, hc 2 _ rfl, hc 3 _ rfl, hc 4 _ rfl, hc 5 _ rfl, hc 6 _ rfl, hc 7 _ rfl, hc 8 _ rfl⟩
end Go.Proofs.YtlnnbkpcnhlfcaaDoor
/- slices.IndexFunc's answer, in plain words. No program in sight. -/
namespace Go.Proofs.YtlnnbkpcnhlfcaaDoor

/-- i is the first index at which p holds, or -1 -/
def IdxR {α : Type} (p : α → Bool) (l : List α) (i : Int) : Prop :=
  (i = -1 ∧ ∀ y ∈ l, p y = false) ∨ ∃ (k : Nat) (x : α), l[k]? = some x ∧ i = (k : Int) ∧ p x = true ∧ ∀ y ∈ l.take k, p y = false
theorem idxR_from {α : Type} (p : α → Bool) (d : α) : ∀ (l : List α) (i : Nat), (Lib.idxByFrom (fun _ y => p y) d l i = -1 ∧ ∀ y ∈ l, p y = false) ∨ ∃ (k : Nat) (x : α), l[k]? = some x ∧ Lib.idxByFrom (fun _ y => p y) d l i = ((i + k : Nat) : Int) ∧ p x = true ∧ ∀ y ∈ l.take k, p y = false
  | [], i => .inl ⟨rfl, by simp⟩
  | y :: l, i => by
    cases hy : p y
    · have e : Lib.idxByFrom (fun _ y => p y) d (y :: l) i = Lib.idxByFrom (fun _ y => p y) d l (i + 1) := by simp [Lib.idxByFrom, hy]
      rw [e]
      rcases idxR_from p d l (i + 1) with ⟨h1, h2⟩ | ⟨k, x, h1, h2, h3, h4⟩
      · exact .inl ⟨h1, fun z hz => by rcases List.mem_cons.1 hz with rfl | hz; (exact hy); (exact h2 z hz)⟩
      · refine .inr ⟨k + 1, x, h1, by rw [h2]; congr 1; omega, h3, fun z hz => ?_⟩
        rw [List.take_succ_cons, List.mem_cons] at hz
        rcases hz with rfl | hz
        · exact hy
        · exact h4 z hz
    · exact .inr ⟨0, y, rfl, by simp [Lib.idxByFrom, hy], hy, by simp⟩
theorem idxR_of {α : Type} (p : α → Bool) (d : α) (l : List α) : IdxR p l (Lib.idxBy (fun _ y => p y) l d) := by
  rcases idxR_from p d l 0 with h | ⟨k, x, h1, h2, h3, h4⟩
  · exact .inl h
  · exact .inr ⟨k, x, h1, by unfold Lib.idxBy; rw [h2]; congr 1; omega, h3, h4⟩
theorem IdxR.any_no {α : Type} {p : α → Bool} {l : List α} (h : ∀ y ∈ l, p y = false) : l.any p = false ∧ l.find? p = none :=
  ⟨by rw [List.any_eq_false]; intro y hy; rw [h y hy]; simp, by rw [List.find?_eq_none]; intro y hy; rw [h y hy]; simp⟩
theorem IdxR.any_at {α : Type} {p : α → Bool} {l : List α} {k : Nat} {x : α} (hx : l[k]? = some x) (hp : p x = true) (h : ∀ y ∈ l.take k, p y = false) : l.any p = true ∧ l.find? p = some x := by
  refine ⟨List.any_eq_true.2 ⟨x, List.mem_of_getElem? hx, hp⟩, ?_⟩
  obtain ⟨hk, rfl⟩ := List.getElem?_eq_some_iff.1 hx
  rw [List.find?_eq_some_iff_getElem]
  refine ⟨hp, k, hk, rfl, fun j hj => ?_⟩
  have := h l[j] (by rw [List.mem_take_iff_getElem]; exact ⟨j, by omega, rfl⟩)
  simp [this]
end Go.Proofs.YtlnnbkpcnhlfcaaDoor
