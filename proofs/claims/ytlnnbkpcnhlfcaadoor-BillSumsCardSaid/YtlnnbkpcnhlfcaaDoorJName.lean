/- Joined texts: Name, DetTag, DetPl. -/
import Derived.Test.YtlnnbkpcnhlfcaaDoorProg
import Derived.Test.YtlnnbkpcnhlfcaaDoorJInts
import Derived.Outline
import Derived.Laws.RangeAny
import Derived.Laws.RangeString
import Derived.LoopTactic
import Derived.Laws.Closers25b
import Derived.IntWalk
import Derived.Laws.IdiomStrings
/- Names: text.Name and the reference's IsName. -/
namespace Go.Proofs.YtlnnbkpcnhlfcaaDoor
open Go.RowKit Go.Lib

/-- byte k of a name: a letter, or behind the first a digit or '-' -/
def okByte (k c : Nat) : Bool := (decide (97 ≤ c) && decide (c ≤ 122)) || (decide (k ≠ 0) && (decide (c = 45) || (decide (48 ≤ c) && decide (c ≤ 57))))
def nameTo (s : ByteArray) (k : Nat) : Prop := ∀ i (h : i < s.size), i < k → okByte i (s[i]'h).toNat = true
def nameB (s : ByteArray) : Bool := decide (1 ≤ s.size) && decide (s.size ≤ 12) && (List.range s.size).all fun i => okByte i (s.get! i).toNat
theorem get_bang (s : ByteArray) (i : Nat) (h : i < s.size) : s.get! i = s[i]'h := get_at s i h
theorem nameB_iff (s : ByteArray) : nameB s = true ↔ 1 ≤ s.size ∧ s.size ≤ 12 ∧ nameTo s s.size := by
  unfold nameB nameTo
  simp only [Bool.and_eq_true, decide_eq_true_eq, List.all_eq_true, List.mem_range, and_assoc]
  refine and_congr_right fun _ => and_congr_right fun _ => ?_
  constructor
  · intro h i hi _
    rw [← get_bang s i hi]
    exact h i hi
  · intro h i hi
    rw [get_bang s i hi]
    exact h i hi hi
theorem nameTo_succ {s : ByteArray} {k : Nat} (h : nameTo s k) (hk : k < s.size) (ho : okByte k (s[k]'hk).toNat = true) : nameTo s (k + 1) := by
  intro i hi hik
  rcases (by omega : i < k ∨ i = k) with e | rfl
  · exact h i hi e
  · exact ho
theorem nameB_no {s : ByteArray} {k : Nat} (hk : k < s.size) (ho : okByte k (s[k]'hk).toNat = false) : nameB s = false := by
  cases hb : nameB s
  · rfl
  · have := ((nameB_iff s).1 hb).2.2 k hk hk
    rw [ho] at this
    cases this
theorem below_iter (w : World) (s : ByteArray) (pos : Nat) : Below w.heap.size w (w.iter s pos) := (Below.refl _ w).al _

theorem next_name {P : Program} (w : World) (s : ByteArray) (pos : Nat) (hp : pos < s.size) :
    ∃ c wd : Nat, (∀ ty, (Instr.next (.pointer (some ⟨w.heap.size, 0, none⟩)) true ty).run P (w.iter s pos) = .ok (.tuple #[.bool true, .int .i64 pos, .int .i32 c]) (w.iter s (pos + wd))) ∧
      okByte pos c = okByte pos (s[pos]'hp).toNat ∧ (okByte pos c = true → wd = 1) ∧ c ≤ 2147483647 := by
  by_cases ha : (s[pos]'hp).toNat < 128
  · exact ⟨(s[pos]'hp).toNat, 1, fun ty => run_next_ascii w s pos ty hp ha, rfl, fun _ => rfl, by omega⟩
  · have h1 := (decode_high s pos hp (by omega)).1
    have e1 : okByte pos (Utf8.decode s pos).1 = false := by
      unfold okByte
      simp only [Bool.or_eq_false_iff, Bool.and_eq_false_iff, decide_eq_false_iff_not]
      omega
    have e2 : okByte pos (s[pos]'hp).toNat = false := by
      unfold okByte
      simp only [Bool.or_eq_false_iff, Bool.and_eq_false_iff, decide_eq_false_iff_not]
      omega
    refine ⟨(Utf8.decode s pos).1, (Utf8.decode s pos).2, fun ty => run_next_any w s pos ty hp, by rw [e1, e2], fun h => ?_, decode_le s pos⟩
    rw [e1] at h
    cases h
theorem okByte_yes {k c : Nat} (h : okByte k c = true) : (97 ≤ (c : Int) ∧ (c : Int) ≤ 122) ∨
    (((k : Int) == 0) = false ∧ (c : Int) < 97 ∧ (((c : Int) != 45) = false ∨ (((c : Int) != 45) = true ∧ 48 ≤ (c : Int) ∧ (c : Int) ≤ 57))) := by
  unfold okByte at h
  simp only [Bool.or_eq_true, Bool.and_eq_true, decide_eq_true_eq] at h
  simp
  omega
theorem okByte_no {k c : Nat} (h : okByte k c = false) : ((c : Int) < 97 ∨ (97 ≤ (c : Int) ∧ 122 < (c : Int))) ∧ (((k : Int) == 0) = true ∨ (((k : Int) == 0) = false ∧ ((c : Int) != 45) = true ∧ ((c : Int) < 48 ∨ (48 ≤ (c : Int) ∧ 57 < (c : Int))))) := by
  unfold okByte at h
  simp only [Bool.or_eq_false_iff, Bool.and_eq_false_iff, decide_eq_false_iff_not] at h
  simp
  omega

set_option maxHeartbeats 1000000 in
theorem name_any (s : ByteArray) (w : World) :
    Calls Tryd.prog 86 #[.string s] w fun e w' => e = .returned (.bool (nameB s)) ∧ Below w.heap.size w w' := by
  generalize hr : nameB s = r
  by_cases h0 : s.size = 0
  · have hs : s = ByteArray.empty := by
      cases s with | mk d => simp at h0; simp [h0]
    have R := Lib.hid (show r = false by rw [← hr, nameB, h0]; rfl)
    subst hs
    clear hr
    go_enter Tryd.func86, Tryd.ntmps86
    go_wp2
    all_goals (go_ret; rw [R.out]; exact ⟨rfl, Below.refl _ _⟩)
  · have hn : ¬ s.toList = [] := fun h => h0 (by rw [(toList_nil_iff_emptyBytes s).1 h]; rfl)
    have he : s.toList.isEmpty = false := by cases hl : s.toList with | nil => exact absurd hl hn | cons _ _ => rfl
    by_cases h12 : 12 < s.size
    · have R := Lib.hid (show r = false by rw [← hr, nameB, show decide (s.size ≤ 12) = false from decide_eq_false (by omega)]; simp)
      clear hr
      go_enter Tryd.func86, Tryd.ntmps86
      go_wp2
      all_goals (go_ret; rw [R.out]; exact ⟨rfl, Below.refl _ _⟩)
    · have HR := Lib.hid hr
      clear hr
      go_enter Tryd.func86, Tryd.ntmps86
      go_wp2
      clear hn he
      go_loopw [3] (fun _ wr => ∃ pos, pos ≤ s.size ∧ wr = w.iter s pos ∧ Hid (nameTo s pos)) (fun _ wr => s.size - wr.iterPos w.heap.size)
      case atStart => exact ⟨0, Nat.zero_le _, rfl, fun i _ h => absurd h (Nat.not_lt_zero _)⟩
      case round =>
        obtain ⟨pos, hpl, rfl, HN⟩ := hrel
        by_cases hp : pos < s.size
        · obtain ⟨c, wd, hnx, hoc, hwd, hcm⟩ := next_name (P := Tryd.prog) w s pos hp
          cases ho : okByte pos c
          · have R := Lib.hid (show r = false by rw [← HR.out, nameB_no hp (by rw [← hoc]; exact ho)])
            have hno := okByte_no ho
            clear hoc hwd ho
            rcases hno with ⟨h1 | ⟨h1, h2⟩, h3 | ⟨h3, h4, h5 | ⟨h5, h6⟩⟩⟩
            all_goals (go_wp2; all_goals first | (go_ret; rw [R.out]; exact ⟨rfl, below_iter w s _⟩) | (exfalso; rename_i hx; simp at hx; omega))
          · have hw1 := hwd ho
            subst hw1
            have R := Lib.hid (nameTo_succ HN.out hp (by rw [← hoc]; exact ho))
            have hyes := okByte_yes ho
            clear hoc hwd ho
            rcases hyes with ⟨h1, h2⟩ | ⟨h1, h2, h3 | ⟨h3, h4, h5⟩⟩
            all_goals
              go_wp2
              go_roundw
              case rel => exact ⟨pos + 1, by omega, rfl, R⟩
              case measure => simp; omega
        · obtain rfl : pos = s.size := by omega
          have R := Lib.hid (show r = true by rw [← HR.out]; exact (nameB_iff s).2 ⟨by omega, by omega, HN.out⟩)
          have hnx : ∀ ty, (Instr.next (.pointer (some ⟨w.heap.size, 0, none⟩)) true ty).run Tryd.prog (w.iter s s.size) = _ := fun ty => run_next_end w s s.size ty hp
          go_wp2
          go_ret
          rw [R.out]
          exact ⟨rfl, below_iter w s _⟩
theorem okByte_yes' {k c : Nat} (h : okByte k c = true) : (97 ≤ (c : Int) ∧ (c : Int) ≤ 122) ∨ ((c : Int) < 97 ∧ 48 ≤ (c : Int) ∧ (c : Int) ≤ 57) ∨ ((c : Int) < 48 ∧ (c : Int) = 45) := by
  unfold okByte at h
  simp only [Bool.or_eq_true, Bool.and_eq_true, decide_eq_true_eq] at h
  omega
theorem okByte_no' {k c : Nat} (h : okByte k c = false) (hk : k ≠ 0) : ((c : Int) < 48 ∧ ¬ (c : Int) = 45) ∨ (57 < (c : Int) ∧ (c : Int) < 97) ∨ 122 < (c : Int) := by
  unfold okByte at h
  simp only [Bool.or_eq_false_iff, Bool.and_eq_false_iff, decide_eq_false_iff_not] at h
  omega

end Go.Proofs.YtlnnbkpcnhlfcaaDoor
/- Transponder numbers: tag.Check and the reference's Check, walked. -/
namespace Go.Proofs.YtlnnbkpcnhlfcaaDoor
open Go.RowKit Go.Lib

def digB (c : Nat) : Bool := decide (48 ≤ c) && decide (c ≤ 57)
def digTo (s : ByteArray) (k : Nat) : Prop := ∀ i (h : i < s.size), i < k → digB (s[i]'h).toNat = true
/-- what digit c adds at place i -/
def lv (i c : Nat) : Int := if i % 2 = 0 then (if 9 < 2 * ((c : Int) - 48) then 2 * ((c : Int) - 48) - 9 else 2 * ((c : Int) - 48)) else (c : Int) - 48
def lsum (s : ByteArray) : Nat → Int
  | 0 => 0
  | k + 1 => lsum s k + lv k (s.get! k).toNat
def allDig (s : ByteArray) : Bool := (List.range s.size).all fun i => digB (s.get! i).toNat
def tagB (s : ByteArray) : Bool := decide (s.size = 12) && allDig s && decide (lsum s 12 % 10 = 0)
theorem get_at2 (s : ByteArray) (i : Nat) (h : i < s.size) : s.get! i = s[i]'h := get_at s i h
theorem allDig_iff (s : ByteArray) : allDig s = true ↔ digTo s s.size := by
  unfold allDig digTo
  simp only [List.all_eq_true, List.mem_range]
  constructor
  · intro h i hi _
    rw [← get_at2 s i hi]; exact h i hi
  · intro h i hi
    rw [get_at2 s i hi]; exact h i hi hi
theorem allDig_no {s : ByteArray} {k : Nat} (hk : k < s.size) (h : digB (s[k]'hk).toNat = false) : allDig s = false := by
  cases hb : allDig s
  · rfl
  · have := (allDig_iff s).1 hb k hk hk
    rw [h] at this; cases this
theorem digTo_succ {s : ByteArray} {k : Nat} (h : digTo s k) (hk : k < s.size) (ho : digB (s[k]'hk).toNat = true) : digTo s (k + 1) := by
  intro i hi hik
  rcases (by omega : i < k ∨ i = k) with e | rfl
  · exact h i hi e
  · exact ho
theorem digB_yes {c : Nat} (h : digB c = true) : 48 ≤ (c : Int) ∧ (c : Int) ≤ 57 := by unfold digB at h; simp at h; omega
theorem digB_no {c : Nat} (h : digB c = false) : (c : Int) < 48 ∨ (48 ≤ (c : Int) ∧ 57 < (c : Int)) := by unfold digB at h; simp at h; omega
theorem lv_bounds {i c : Nat} (h : digB c = true) : 0 ≤ lv i c ∧ lv i c ≤ 9 := by
  have := digB_yes h
  unfold lv
  split
  · split <;> omega
  · omega
theorem lsum_bounds {s : ByteArray} (h : allDig s = true) : ∀ k, k ≤ s.size → 0 ≤ lsum s k ∧ lsum s k ≤ 9 * (k : Int)
  | 0, _ => by simp [lsum]
  | k + 1, hk => by
    have ih := lsum_bounds h k (by omega)
    have := (allDig_iff s).1 h k (by omega) (by omega)
    rw [← get_at2 s k (by omega)] at this
    have hv := lv_bounds (i := k) this
    unfold lsum
    omega
theorem below_iter2 (w : World) (s : ByteArray) (pos : Nat) : Below w.heap.size w (w.iter s pos) := (Below.refl _ w).al _
theorem next_dig {P : Program} (w : World) (s : ByteArray) (pos : Nat) (hp : pos < s.size) :
    ∃ c wd : Nat, (∀ ty, (Instr.next (.pointer (some ⟨w.heap.size, 0, none⟩)) true ty).run P (w.iter s pos) = .ok (.tuple #[.bool true, .int .i64 pos, .int .i32 c]) (w.iter s (pos + wd))) ∧
      digB c = digB (s[pos]'hp).toNat ∧ (digB c = true → wd = 1 ∧ c = (s[pos]'hp).toNat) ∧ c ≤ 2147483647 := by
  by_cases ha : (s[pos]'hp).toNat < 128
  · exact ⟨(s[pos]'hp).toNat, 1, fun ty => run_next_ascii w s pos ty hp ha, rfl, fun _ => ⟨rfl, rfl⟩, by omega⟩
  · have h1 := (decode_high s pos hp (by omega)).1
    have e1 : digB (Utf8.decode s pos).1 = false := by
      unfold digB
      simp only [Bool.and_eq_false_iff, decide_eq_false_iff_not]
      omega
    have e2 : digB (s[pos]'hp).toNat = false := by
      unfold digB
      simp only [Bool.and_eq_false_iff, decide_eq_false_iff_not]
      omega
    refine ⟨(Utf8.decode s pos).1, (Utf8.decode s pos).2, fun ty => run_next_any w s pos ty hp, by rw [e1, e2], fun h => ?_, decode_le s pos⟩
    rw [e1] at h
    cases h

end Go.Proofs.YtlnnbkpcnhlfcaaDoor
/- Plates: the plain normal form; plate.Normal, walked. -/
namespace Go.Proofs.YtlnnbkpcnhlfcaaDoor
open Go.RowKit Go.Lib

def encB (b : UInt8) : List Value := [.int .u8 (b.toNat : Int)]
theorem encB_ok : Enc encB 1 := ⟨fun _ => rfl, fun x u hu => by simp [encB] at hu; subst hu; rfl⟩
def upB (b : UInt8) : UInt8 := if 97 ≤ b.toNat ∧ b.toNat ≤ 122 then b - 32 else b
def skipB (b : UInt8) : Bool := decide (b.toNat = 32) || decide (b.toNat = 45)
def alB (b : UInt8) : Bool := (decide (65 ≤ b.toNat) && decide (b.toNat ≤ 90)) || (decide (48 ≤ b.toNat) && decide (b.toNat ≤ 57))
/-- a byte that may stand in a plate -/
def okPl (b : UInt8) : Bool := skipB b || alB (upB b)
def plAll (s : ByteArray) (k : Nat) : Prop := ∀ i (h : i < s.size), i < k → okPl (s[i]'h) = true
/-- the bytes of the normal form -/
def plOut (s : ByteArray) : Nat → List UInt8
  | 0 => []
  | k + 1 => plOut s k ++ (if skipB (s.get! k) = true then [] else [upB (s.get! k)])
def plAllB (s : ByteArray) : Bool := (List.range s.size).all fun i => okPl (s.get! i)
def plB (s : ByteArray) : Bool := plAllB s && decide (2 ≤ (plOut s s.size).length) && decide ((plOut s s.size).length ≤ 10)
/-- the normal form, empty where there is none -/
def plS (s : ByteArray) : ByteArray := if plB s = true then ⟨(plOut s s.size).toArray⟩ else ⟨#[]⟩
def plE (s : ByteArray) : Int := if plB s = true then 0 else 19
theorem plAllB_iff (s : ByteArray) : plAllB s = true ↔ plAll s s.size := by
  unfold plAllB plAll
  simp only [List.all_eq_true, List.mem_range]
  constructor
  · intro h i hi _
    rw [← get_at2 s i hi]; exact h i hi
  · intro h i hi
    rw [get_at2 s i hi]; exact h i hi hi
theorem plB_bad {s : ByteArray} {k : Nat} (hk : k < s.size) (h : okPl (s[k]'hk) = false) : plB s = false := by
  have : plAllB s = false := by
    cases hb : plAllB s
    · rfl
    · have := (plAllB_iff s).1 hb k hk hk
      rw [h] at this; cases this
  unfold plB; rw [this]; rfl
theorem plAll_succ {s : ByteArray} {k : Nat} (h : plAll s k) (hk : k < s.size) (ho : okPl (s[k]'hk) = true) : plAll s (k + 1) := by
  intro i hi hik
  rcases (by omega : i < k ∨ i = k) with e | rfl
  · exact h i hi e
  · exact ho
theorem plOut_skip {s : ByteArray} {k : Nat} (hk : k < s.size) (h : skipB (s[k]'hk) = true) : plOut s (k + 1) = plOut s k := by
  show plOut s k ++ _ = _
  rw [get_at2 s k hk, if_pos h, List.append_nil]
theorem plOut_add {s : ByteArray} {k : Nat} (hk : k < s.size) (h : skipB (s[k]'hk) = false) : plOut s (k + 1) = plOut s k ++ [upB (s[k]'hk)] := by
  show plOut s k ++ _ = _
  rw [get_at2 s k hk, if_neg (by rw [h]; simp)]
theorem plOut_mono (s : ByteArray) {k : Nat} : ∀ {n : Nat}, k ≤ n → (plOut s k).length ≤ (plOut s n).length
  | 0, h => by obtain rfl : k = 0 := by omega
               exact Nat.le_refl _
  | n + 1, h => by
    by_cases e : k = n + 1
    · subst e; exact Nat.le_refl _
    · refine Nat.le_trans (plOut_mono s (n := n) (by omega)) ?_
      show _ ≤ (plOut s n ++ _).length
      rw [List.length_append]; omega
theorem plOut_le (s : ByteArray) : ∀ k, (plOut s k).length ≤ k
  | 0 => Nat.le_refl _
  | k + 1 => by
    have := plOut_le s k
    show (plOut s k ++ _).length ≤ _
    rw [List.length_append]
    split <;> simp <;> omega
theorem plB_long {s : ByteArray} {k : Nat} (hk : k ≤ s.size) (h : 10 < (plOut s k).length) : plB s = false := by
  have := plOut_mono s hk
  unfold plB
  rw [decide_eq_false (by omega : ¬ (plOut s s.size).length ≤ 10), Bool.and_false]
theorem plB_end {s : ByteArray} (h : plAll s s.size) : plB s = (decide (2 ≤ (plOut s s.size).length) && decide ((plOut s s.size).length ≤ 10)) := by
  unfold plB
  rw [(plAllB_iff s).2 h, Bool.true_and]
/-- the ways of a byte -/
theorem pl_ways (b : UInt8) : (∃ x : UInt8, 97 ≤ (b.toNat : Int) ∧ (b.toNat : Int) ≤ 122 ∧ upB b = x ∧ (x.toNat : Int) = (b.toNat : Int) - 32 ∧ skipB b = false ∧ okPl b = true) ∨
    ((b.toNat : Int) = 32 ∧ skipB b = true ∧ okPl b = true) ∨ ((b.toNat : Int) = 45 ∧ skipB b = true ∧ okPl b = true) ∨
    (65 ≤ (b.toNat : Int) ∧ (b.toNat : Int) ≤ 90 ∧ upB b = b ∧ skipB b = false ∧ okPl b = true) ∨ (48 ≤ (b.toNat : Int) ∧ (b.toNat : Int) ≤ 57 ∧ upB b = b ∧ skipB b = false ∧ okPl b = true) ∨
    (okPl b = false ∧ (b.toNat : Int) ≠ 32 ∧ (b.toNat : Int) ≠ 45 ∧ ¬ (65 ≤ (b.toNat : Int) ∧ (b.toNat : Int) ≤ 90) ∧ ¬ (48 ≤ (b.toNat : Int) ∧ (b.toNat : Int) ≤ 57) ∧ ¬ (97 ≤ (b.toNat : Int) ∧ (b.toNat : Int) ≤ 122)) := by
  by_cases h1 : 97 ≤ b.toNat ∧ b.toNat ≤ 122
  · have e : (b - 32).toNat = b.toNat - 32 := by
      rw [UInt8.toNat_sub]
      have : (32 : UInt8).toNat = 32 := rfl
      omega
    have hs : skipB b = false := by unfold skipB; simp; omega
    refine Or.inl ⟨b - 32, by omega, by omega, by unfold upB; rw [if_pos h1], by omega, hs, ?_⟩
    unfold okPl
    rw [hs]
    unfold upB alB
    rw [if_pos h1, e]
    simp; omega
  · have hu : upB b = b := by unfold upB; rw [if_neg h1]
    by_cases h2 : b.toNat = 32
    · have hs : skipB b = true := by unfold skipB; simp [h2]
      exact Or.inr (Or.inl ⟨by omega, hs, by unfold okPl; rw [hs]; rfl⟩)
    · by_cases h3 : b.toNat = 45
      · have hs : skipB b = true := by unfold skipB; simp [h3]
        exact Or.inr (Or.inr (Or.inl ⟨by omega, hs, by unfold okPl; rw [hs]; rfl⟩))
      · have hs : skipB b = false := by unfold skipB; simp [h2, h3]
        by_cases h4 : 65 ≤ b.toNat ∧ b.toNat ≤ 90
        · exact Or.inr (Or.inr (Or.inr (Or.inl ⟨by omega, by omega, hu, hs, by unfold okPl; rw [hs, hu]; unfold alB; simp; omega⟩)))
        · by_cases h5 : 48 ≤ b.toNat ∧ b.toNat ≤ 57
          · exact Or.inr (Or.inr (Or.inr (Or.inr (Or.inl ⟨by omega, by omega, hu, hs, by unfold okPl; rw [hs, hu]; unfold alB; simp; omega⟩))))
          · refine Or.inr (Or.inr (Or.inr (Or.inr (Or.inr ⟨?_, by omega, by omega, by omega, by omega, by omega⟩))))
            unfold okPl
            rw [hs, hu]
            unfold alB
            simp; omega
end Go.Proofs.YtlnnbkpcnhlfcaaDoor
