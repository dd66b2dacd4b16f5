/- Joined texts: Name, NetEnc, NetName. -/
import Derived.Test.YtcpfiiapfggmpaaGreatProg
import Derived.Test.YtcpfiiapfggmpaaGreatJSpanMath
import Derived.Outline
import Derived.Laws.RangeAny
import Derived.Laws.RangeString
import Derived.LoopTactic
import Derived.Laws.Closers25b
import Derived.Test.YtcpfiiapfggmpaaGreatBase
import Derived.BigQuiet
import Derived.IntWalk
import Derived.OwnWalk
/- Names: text.Name and the reference's IsName. -/
namespace Go.Proofs.YtcpfiiapfggmpaaGreat
open Go.RowKit Go.Lib

/-- byte k of a name: a letter, or behind the first a digit or '-' -/
def okByte (k c : Nat) : Bool := (decide (97 ≤ c) && decide (c ≤ 122)) || (decide (k ≠ 0) && (decide (c = 45) || (decide (48 ≤ c) && decide (c ≤ 57))))
def nameTo (s : ByteArray) (k : Nat) : Prop := ∀ i (h : i < s.size), i < k → okByte i (s[i]'h).toNat = true
def nameB (s : ByteArray) : Bool := decide (1 ≤ s.size) && decide (s.size ≤ 12) && (List.range s.size).all fun i => okByte i (s.get! i).toNat
theorem get_bang (s : ByteArray) (i : Nat) (h : i < s.size) : s.get! i = s[i]'h := get_at s i h
theorem nameB_iff (s : ByteArray) : nameB s = true ↔ 1 ≤ s.size ∧ s.size ≤ 12 ∧ nameTo s s.size := by
  unfold nameB nameTo
  simp only [Bool.and_eq_true, decide_eq_true_eq, List.all_eq_true, List.mem_range, and_assoc]
  refine and_congr_right fun _ => and_congr_right fun _ => ?_
  constructor
  · intro h i hi _
    rw [← get_bang s i hi]
    exact h i hi
  · intro h i hi
    rw [get_bang s i hi]
    exact h i hi hi
theorem nameTo_succ {s : ByteArray} {k : Nat} (h : nameTo s k) (hk : k < s.size) (ho : okByte k (s[k]'hk).toNat = true) : nameTo s (k + 1) := by
  intro i hi hik
  rcases (by omega : i < k ∨ i = k) with e | rfl
  · exact h i hi e
  · exact ho
theorem nameB_no {s : ByteArray} {k : Nat} (hk : k < s.size) (ho : okByte k (s[k]'hk).toNat = false) : nameB s = false := by
  cases hb : nameB s
  · rfl
  · have := ((nameB_iff s).1 hb).2.2 k hk hk
    rw [ho] at this
    cases this
theorem below_iter (w : World) (s : ByteArray) (pos : Nat) : Below w.heap.size w (w.iter s pos) := (Below.refl _ w).al _

theorem next_name {P : Program} (w : World) (s : ByteArray) (pos : Nat) (hp : pos < s.size) :
    ∃ c wd : Nat, (∀ ty, (Instr.next (.pointer (some ⟨w.heap.size, 0, none⟩)) true ty).run P (w.iter s pos) = .ok (.tuple #[.bool true, .int .i64 pos, .int .i32 c]) (w.iter s (pos + wd))) ∧
      okByte pos c = okByte pos (s[pos]'hp).toNat ∧ (okByte pos c = true → wd = 1) ∧ c ≤ 2147483647 := by
  by_cases ha : (s[pos]'hp).toNat < 128
  · exact ⟨(s[pos]'hp).toNat, 1, fun ty => run_next_ascii w s pos ty hp ha, rfl, fun _ => rfl, by omega⟩
  · have h1 := (decode_high s pos hp (by omega)).1
    have e1 : okByte pos (Utf8.decode s pos).1 = false := by
      unfold okByte
      simp only [Bool.or_eq_false_iff, Bool.and_eq_false_iff, decide_eq_false_iff_not]
      omega
    have e2 : okByte pos (s[pos]'hp).toNat = false := by
      unfold okByte
      simp only [Bool.or_eq_false_iff, Bool.and_eq_false_iff, decide_eq_false_iff_not]
      omega
    refine ⟨(Utf8.decode s pos).1, (Utf8.decode s pos).2, fun ty => run_next_any w s pos ty hp, by rw [e1, e2], fun h => ?_, decode_le s pos⟩
    rw [e1] at h
    cases h
theorem okByte_yes {k c : Nat} (h : okByte k c = true) : (97 ≤ (c : Int) ∧ (c : Int) ≤ 122) ∨
    (((k : Int) == 0) = false ∧ (c : Int) < 97 ∧ (((c : Int) != 45) = false ∨ (((c : Int) != 45) = true ∧ 48 ≤ (c : Int) ∧ (c : Int) ≤ 57))) := by
  unfold okByte at h
  simp only [Bool.or_eq_true, Bool.and_eq_true, decide_eq_true_eq] at h
  simp
  omega
theorem okByte_no {k c : Nat} (h : okByte k c = false) : ((c : Int) < 97 ∨ (97 ≤ (c : Int) ∧ 122 < (c : Int))) ∧ (((k : Int) == 0) = true ∨ (((k : Int) == 0) = false ∧ ((c : Int) != 45) = true ∧ ((c : Int) < 48 ∨ (48 ≤ (c : Int) ∧ 57 < (c : Int))))) := by
  unfold okByte at h
  simp only [Bool.or_eq_false_iff, Bool.and_eq_false_iff, decide_eq_false_iff_not] at h
  simp
  omega

set_option maxHeartbeats 1000000 in
theorem name_any (s : ByteArray) (w : World) :
    Calls Tryz.prog 125 #[.string s] w fun e w' => e = .returned (.bool (nameB s)) ∧ Below w.heap.size w w' := by
  generalize hr : nameB s = r
  by_cases h0 : s.size = 0
  · have hs : s = ByteArray.empty := by
      cases s with | mk d => simp at h0; simp [h0]
    have R := Lib.hid (show r = false by rw [← hr, nameB, h0]; rfl)
    subst hs
    clear hr
    go_enter Tryz.func125, Tryz.ntmps125
    go_wp2
    all_goals (go_ret; rw [R.out]; exact ⟨rfl, Below.refl _ _⟩)
  · have hn : ¬ s.toList = [] := fun h => h0 (by rw [(toList_nil_iff_emptyBytes s).1 h]; rfl)
    have he : s.toList.isEmpty = false := by cases hl : s.toList with | nil => exact absurd hl hn | cons _ _ => rfl
    by_cases h12 : 12 < s.size
    · have R := Lib.hid (show r = false by rw [← hr, nameB, show decide (s.size ≤ 12) = false from decide_eq_false (by omega)]; simp)
      clear hr
      go_enter Tryz.func125, Tryz.ntmps125
      go_wp2
      all_goals (go_ret; rw [R.out]; exact ⟨rfl, Below.refl _ _⟩)
    · have HR := Lib.hid hr
      clear hr
      go_enter Tryz.func125, Tryz.ntmps125
      go_wp2
      clear hn he
      go_loopw [3] (fun _ wr => ∃ pos, pos ≤ s.size ∧ wr = w.iter s pos ∧ Hid (nameTo s pos)) (fun _ wr => s.size - wr.iterPos w.heap.size)
      case atStart => exact ⟨0, Nat.zero_le _, rfl, fun i _ h => absurd h (Nat.not_lt_zero _)⟩
      case round =>
        obtain ⟨pos, hpl, rfl, HN⟩ := hrel
        by_cases hp : pos < s.size
        · obtain ⟨c, wd, hnx, hoc, hwd, hcm⟩ := next_name (P := Tryz.prog) w s pos hp
          cases ho : okByte pos c
          · have R := Lib.hid (show r = false by rw [← HR.out, nameB_no hp (by rw [← hoc]; exact ho)])
            have hno := okByte_no ho
            clear hoc hwd ho
            rcases hno with ⟨h1 | ⟨h1, h2⟩, h3 | ⟨h3, h4, h5 | ⟨h5, h6⟩⟩⟩
            all_goals (go_wp2; all_goals first | (go_ret; rw [R.out]; exact ⟨rfl, below_iter w s _⟩) | (exfalso; rename_i hx; simp at hx; omega))
          · have hw1 := hwd ho
            subst hw1
            have R := Lib.hid (nameTo_succ HN.out hp (by rw [← hoc]; exact ho))
            have hyes := okByte_yes ho
            clear hoc hwd ho
            rcases hyes with ⟨h1, h2⟩ | ⟨h1, h2, h3 | ⟨h3, h4, h5⟩⟩
            all_goals
              go_wp2
              go_roundw
              case rel => exact ⟨pos + 1, by omega, rfl, R⟩
              case measure => simp; omega
        · obtain rfl : pos = s.size := by omega
          have R := Lib.hid (show r = true by rw [← HR.out]; exact (nameB_iff s).2 ⟨by omega, by omega, HN.out⟩)
          have hnx : ∀ ty, (Instr.next (.pointer (some ⟨w.heap.size, 0, none⟩)) true ty).run Tryz.prog (w.iter s s.size) = _ := fun ty => run_next_end w s s.size ty hp
          go_wp2
          go_ret
          rw [R.out]
          exact ⟨rfl, below_iter w s _⟩
theorem okByte_yes' {k c : Nat} (h : okByte k c = true) : (97 ≤ (c : Int) ∧ (c : Int) ≤ 122) ∨ ((c : Int) < 97 ∧ 48 ≤ (c : Int) ∧ (c : Int) ≤ 57) ∨ ((c : Int) < 48 ∧ (c : Int) = 45) := by
  unfold okByte at h
  simp only [Bool.or_eq_true, Bool.and_eq_true, decide_eq_true_eq] at h
  omega
theorem okByte_no' {k c : Nat} (h : okByte k c = false) (hk : k ≠ 0) : ((c : Int) < 48 ∧ ¬ (c : Int) = 45) ∨ (57 < (c : Int) ∧ (c : Int) < 97) ∨ 122 < (c : Int) := by
  unfold okByte at h
  simp only [Bool.or_eq_false_iff, Bool.and_eq_false_iff, decide_eq_false_iff_not] at h
  omega

end Go.Proofs.YtcpfiiapfggmpaaGreat
/- Points, links and systems in memory. -/
set_option linter.unusedSimpArgs false
namespace Go.Proofs.YtcpfiiapfggmpaaGreat
open Go.RowKit Go.Lib

structure Pt where
  name : ByteArray
  kind : Int
  sys : ByteArray
def encPt (p : Pt) : List Value := [.string p.name, .int .i64 p.kind, .string p.sys]
theorem encPt_ok : Enc encPt 3 := ⟨fun _ => rfl, fun x u hu => by simp [encPt] at hu; rcases hu with rfl | rfl | rfl <;> rfl⟩
def PtV (p : Pt) : Value := .agg #[.string p.name, .int .i64 p.kind, .string p.sys]
structure Lk where
  fr : ByteArray
  to : ByteArray
  mn : Int
  mx : Int
def encLk (p : Lk) : List Value := [.string p.fr, .string p.to, .int .i64 p.mn, .int .i64 p.mx]
theorem encLk_ok : Enc encLk 4 := ⟨fun _ => rfl, fun x u hu => by simp [encLk] at hu; rcases hu with rfl | rfl | rfl | rfl <;> rfl⟩
structure Sy where
  name : ByteArray
  cld : Bool
  most : Int
def encSy (p : Sy) : List Value := [.string p.name, .bool p.cld, .int .i64 p.most]
theorem encSy_ok : Enc encSy 3 := ⟨fun _ => rfl, fun x u hu => by simp [encSy] at hu; rcases hu with rfl | rfl | rfl <;> rfl⟩
theorem Rd.pt {w : World} {B : Nat} {A : Option Addr} {l : List Pt} (h : Rd encPt 3 w B A l) {i : Nat} (hi : i < l.length) :
    ∃ b off p, A = some ⟨b, off, none⟩ ∧ b < B ∧ l[i]? = some p ∧ w.cell? ⟨b, off + i * 3, none⟩ = some (.string p.name) ∧ w.cell? ⟨b, off + i * 3 + 1, none⟩ = some (.int .i64 p.kind) ∧ w.cell? ⟨b, off + i * 3 + 2, none⟩ = some (.string p.sys) := by
  obtain ⟨b, off, x, hA, hb, hx, hc⟩ := h.at_ hi
  exact ⟨b, off, x, hA, hb, hx, hc 0 _ rfl, hc 1 _ rfl, hc 2 _ rfl⟩
theorem Rd.lk {w : World} {B : Nat} {A : Option Addr} {l : List Lk} (h : Rd encLk 4 w B A l) {i : Nat} (hi : i < l.length) :
    ∃ b off p, A = some ⟨b, off, none⟩ ∧ b < B ∧ l[i]? = some p ∧ w.cell? ⟨b, off + i * 4, none⟩ = some (.string p.fr) ∧ w.cell? ⟨b, off + i * 4 + 1, none⟩ = some (.string p.to) ∧ w.cell? ⟨b, off + i * 4 + 2, none⟩ = some (.int .i64 p.mn) ∧ w.cell? ⟨b, off + i * 4 + 3, none⟩ = some (.int .i64 p.mx) := by
  obtain ⟨b, off, x, hA, hb, hx, hc⟩ := h.at_ hi
  exact ⟨b, off, x, hA, hb, hx, hc 0 _ rfl, hc 1 _ rfl, hc 2 _ rfl, hc 3 _ rfl⟩
theorem Rd.sy {w : World} {B : Nat} {A : Option Addr} {l : List Sy} (h : Rd encSy 3 w B A l) {i : Nat} (hi : i < l.length) :
    ∃ b off p, A = some ⟨b, off, none⟩ ∧ b < B ∧ l[i]? = some p ∧ w.cell? ⟨b, off + i * 3, none⟩ = some (.string p.name) ∧ w.cell? ⟨b, off + i * 3 + 1, none⟩ = some (.bool p.cld) ∧ w.cell? ⟨b, off + i * 3 + 2, none⟩ = some (.int .i64 p.most) := by
  obtain ⟨b, off, x, hA, hb, hx, hc⟩ := h.at_ hi
  exact ⟨b, off, x, hA, hb, hx, hc 0 _ rfl, hc 1 _ rfl, hc 2 _ rfl⟩
def inSys (sys : List Sy) (s : ByteArray) : Prop := ∃ x ∈ sys, eqS x.name s = true
/-- an int is returned -/
def IntR (e : Ending) : Prop := ∃ n : Int, e = .returned (.int .i64 n)

set_option maxRecDepth 100000 in
set_option maxHeartbeats 4000000 in
theorem place_any {A : Option Addr} (c : Nat) {l : List Pt} (n : Int) (s : ByteArray) {w : World} (h : Rd encPt 3 w w.heap.size A l) (hl : l.length ≤ 9223372036854775807) :
    Calls Tryz.prog 102 #[.slice A l.length c, .int .i64 n, .string s] w fun e w' => (∃ r : Int, e = .returned (.int .i64 r) ∧ (r = -1 ∨ ∃ k : Nat, r = k ∧ k < l.length)) ∧ w' = w := by
  have H := Lib.hid h
  clear h
  go_enter Tryz.func102, Tryz.ntmps102
  go_wp2_with fail
  go_loopw [7] (fun i wr => ∃ k : Nat, k ≤ l.length ∧ i = .int .i64 k ∧ wr = w) (fun i _ => l.length - (RowKit.intOf i).toNat)
  case atStart => exact ⟨0, Nat.zero_le _, rfl, rfl⟩
  case round =>
    obtain ⟨k, hk, rfl, hw⟩ := hrel
    have hw := hw.symm
    subst hw
    have k1 : (0 : Int) ≤ (k : Int) := by omega
    by_cases hn : (k : Int) < n
    · by_cases hi : k < l.length
      · have k2 : (k : Int) < (l.length : Int) := by omega
        obtain ⟨b, off, p, rfl, hb, hx, d0, d1, d2⟩ := H.out.pt hi
        have HK := Lib.hid hi
        clear hx hi hb d1 d2
        cases he : eqS p.name s
        all_goals
          have he2 : (p.name.toList == s.toList) = eqS p.name s := rfl
          rw [he] at he2
          clear he
          go_wp2_with fail
          first
          | (go_ret; exact ⟨⟨_, rfl, .inr ⟨k, rfl, HK.out⟩⟩, rfl⟩)
          | (go_roundw; (case rel => exact ⟨k + 1, HK.out, by go_num, by first | rfl | trivial⟩); (case measure => have := HK.out; simp [RowKit.intOf]; omega))
      · have k2 : ¬ (k : Int) < (l.length : Int) := by omega
        go_wp2_with fail
        go_ret
        exact ⟨⟨_, rfl, .inl rfl⟩, rfl⟩
    · go_wp2_with fail
      go_ret
      exact ⟨⟨_, rfl, .inl rfl⟩, rfl⟩
set_option maxRecDepth 100000 in
set_option maxHeartbeats 4000000 in
theorem tfind_any {A : Option Addr} (c : Nat) {l : List Sy} (s : ByteArray) {w : World} (h : Rd encSy 3 w w.heap.size A l) (hl : l.length ≤ 9223372036854775807) :
    Calls Tryz.prog 60 #[.slice A l.length c, .string s] w fun e w' => (∃ r : Int, e = .returned (.int .i64 r) ∧ ((r = -1 ∧ ∀ x ∈ l, eqS x.name s = false) ∨ ∃ k : Nat, r = k ∧ k < l.length ∧ inSys l s)) ∧ w' = w := by
  have H := Lib.hid h
  clear h
  go_enter Tryz.func60, Tryz.ntmps60
  go_wp2_with fail
  go_loopw [5] (fun i wr => ∃ k : Nat, k ≤ l.length ∧ i = .int .i64 k ∧ Hid (∀ x ∈ l.take k, eqS x.name s = false) ∧ wr = w) (fun i _ => l.length - (RowKit.intOf i).toNat)
  case atStart => exact ⟨0, Nat.zero_le _, rfl, (by unfold Hid; simp), rfl⟩
  case round =>
    obtain ⟨k, hk, rfl, HQ, hw⟩ := hrel
    have hw := hw.symm
    subst hw
    have k1 : (0 : Int) ≤ (k : Int) := by omega
    by_cases hi : k < l.length
    · have k2 : (k : Int) < (l.length : Int) := by omega
      obtain ⟨b, off, p, rfl, hb, hx, d0, d1, d2⟩ := H.out.sy hi
      have HK := Lib.hid hi
      have HX := Lib.hid hx
      clear hx hi hb d1 d2
      have he2 : (p.name.toList == s.toList) = eqS p.name s := rfl
      cases he : eqS p.name s
      · rw [he] at he2
        have R : Hid (∀ x ∈ l.take (k + 1), eqS x.name s = false) := Lib.hid (by
          intro y hy
          rw [take_snoc HX.out] at hy
          rcases List.mem_append.1 hy with q | q
          · exact HQ.out y q
          · rw [List.mem_singleton] at q; subst q; exact he)
        clear he
        go_wp2_with fail
        go_roundw
        case rel => exact ⟨k + 1, HK.out, by go_num, R, by first | rfl | trivial⟩
        case measure => have := HK.out; simp [RowKit.intOf]; omega
      · rw [he] at he2
        have HI : Hid (inSys l s) := Lib.hid ⟨p, List.mem_of_getElem? HX.out, he⟩
        clear he
        go_wp2_with fail
        go_ret
        exact ⟨⟨_, rfl, .inr ⟨k, rfl, HK.out, HI.out⟩⟩, rfl⟩
    · obtain rfl : k = l.length := by omega
      go_wp2_with fail
      go_ret
      exact ⟨⟨_, rfl, .inl ⟨rfl, by have := HQ.out; rwa [List.take_length] at this⟩⟩, rfl⟩
end Go.Proofs.YtcpfiiapfggmpaaGreat
/- The reference's Name, walked. -/
set_option linter.unusedSimpArgs false
namespace Go.Proofs.YtcpfiiapfggmpaaGreat
open Go.RowKit Go.Lib

theorem okB_of {k c : Nat} {b : Bool} (h : (decide (97 ≤ c ∧ c ≤ 122) || (decide (k ≠ 0) && decide (c = 45 ∨ (48 ≤ c ∧ c ≤ 57)))) = b) : okByte k c = b := by
  rw [← h]; unfold okByte; rw [Bool.eq_iff_iff]; simp
set_option maxRecDepth 100000 in
set_option maxHeartbeats 4000000 in
theorem r1name_any (s : ByteArray) (w : World) :
    Calls Tryz.prog 59 #[.string s] w fun e w' => e = .returned (.bool (nameB s)) ∧ w' = w := by
  generalize hr : nameB s = r
  by_cases h0 : s.size < 1
  · have R := Lib.hid (show r = false by rw [← hr, nameB, show decide (1 ≤ s.size) = false from decide_eq_false (by omega)]; rfl)
    clear hr
    go_enter Tryz.func59, Tryz.ntmps59
    go_wp2
    all_goals (go_ret; rw [R.out]; exact ⟨rfl, rfl⟩)
  · by_cases h12 : 12 < s.size
    · have R := Lib.hid (show r = false by rw [← hr, nameB, show decide (s.size ≤ 12) = false from decide_eq_false (by omega)]; simp)
      clear hr
      go_enter Tryz.func59, Tryz.ntmps59
      go_wp2
      all_goals (go_ret; rw [R.out]; exact ⟨rfl, rfl⟩)
    · have HR := Lib.hid hr
      clear hr
      go_enter Tryz.func59, Tryz.ntmps59
      go_wp2
      go_loopw [3] (fun i wr => ∃ k : Nat, k ≤ s.size ∧ i = .int .i64 k ∧ wr = w ∧ Hid (nameTo s k)) (fun i _ => s.size - (RowKit.intOf i).toNat)
      case atStart => exact ⟨0, Nat.zero_le _, rfl, rfl, fun i _ h => absurd h (Nat.not_lt_zero _)⟩
      case round =>
        obtain ⟨k, hkl, rfl, rfl, HN⟩ := hrel
        by_cases hk : k < s.size
        · obtain ⟨c, hc⟩ : ∃ c : Nat, (s[k]'hk).toNat = c := ⟨_, rfl⟩
          have HY := Lib.hid (fun (q : okByte k c = true) => nameTo_succ HN.out hk (by rw [hc]; exact q))
          have HF := Lib.hid (fun (q : okByte k c = false) => (show r = false by rw [← HR.out, nameB_no hk (by rw [hc]; exact q)]))
          have hz : (c < 45) ∨ (c = 45) ∨ (45 < c ∧ c < 48) ∨ (48 ≤ c ∧ c ≤ 57) ∨ (57 < c ∧ c < 97) ∨ (97 ≤ c ∧ c ≤ 122) ∨ (122 < c) := by omega
          have hkz : ((k : Int) == 0) = true ∨ ((k : Int) == 0) = false := by cases ((k : Int) == 0) <;> simp
          have HKT := Lib.hid (fun (q : ((k : Int) == 0) = true) => (show k = 0 by simpa using q))
          have HKF := Lib.hid (fun (q : ((k : Int) == 0) = false) => (show k ≠ 0 by simpa using q))
          have HKS := Lib.hid hk
          rcases hz with hz | hz | hz | hz | hz | hz | hz
          all_goals
            have z45 : c = c := rfl
            rcases hkz with hkz | hkz
          case inr.inr.inr.inr.inr.inl.inl | inr.inr.inr.inr.inr.inl.inr => (have R := Lib.hid (HY.out (okB_of (by simp; omega)))); clear z45 HY HF; go_wp2; all_goals (first | (exfalso; omega) | (exfalso; rename_i qx; simp at qx; omega) | (go_roundw; (case rel => exact ⟨k + 1, HKS.out, by go_num, by first | rfl | trivial, R⟩); (case measure => have := HKS.out; simp [RowKit.intOf]; omega)))
          case inr.inl.inr | inr.inr.inr.inl.inr => (have R := Lib.hid (HY.out (okB_of (by have := HKF.out hkz; simp; omega)))); clear z45 HY HF; go_wp2; all_goals (first | (exfalso; omega) | (exfalso; rename_i qx; simp at qx; omega) | (go_roundw; (case rel => exact ⟨k + 1, HKS.out, by go_num, by first | rfl | trivial, R⟩); (case measure => have := HKS.out; simp [RowKit.intOf]; omega)))
          all_goals (have R := Lib.hid (HF.out (okB_of (by first | (have := HKT.out hkz; simp; omega) | (simp; omega))))); clear z45 HY HF; go_wp2; all_goals (first | (exfalso; omega) | (go_ret; rw [R.out]; exact ⟨rfl, rfl⟩) | (exfalso; rename_i qx; simp at qx; omega))
        · obtain rfl : k = s.size := by omega
          have R := Lib.hid (show r = true by rw [← HR.out]; exact (nameB_iff s).2 ⟨by omega, by omega, HN.out⟩)
          go_wp2
          go_ret
          rw [R.out]
          exact ⟨rfl, rfl⟩

end Go.Proofs.YtcpfiiapfggmpaaGreat
