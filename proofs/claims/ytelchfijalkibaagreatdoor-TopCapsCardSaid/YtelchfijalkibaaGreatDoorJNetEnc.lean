/- Joined texts: NetEnc, NetName. -/
import Derived.Test.YtelchfijalkibaaGreatDoorBase
import Derived.Test.YtelchfijalkibaaGreatDoorJFirst
import Derived.BigQuiet
import Derived.IntWalk
import Derived.Outline
import Derived.OwnWalk
/- Points, links and systems in memory. -/
set_option linter.unusedSimpArgs false
namespace Go.Proofs.YtelchfijalkibaaGreatDoor
open Go.RowKit Go.Lib

structure Pt where
  name : ByteArray
  kind : Int
  sys : ByteArray
def encPt (p : Pt) : List Value := [.string p.name, .int .i64 p.kind, .string p.sys]
theorem encPt_ok : Enc encPt 3 := ⟨fun _ => rfl, fun x u hu => by simp [encPt] at hu; rcases hu with rfl | rfl | rfl <;> rfl⟩
def PtV (p : Pt) : Value := .agg #[.string p.name, .int .i64 p.kind, .string p.sys]
structure Lk where
  fr : ByteArray
  to : ByteArray
  mn : Int
  mx : Int
def encLk (p : Lk) : List Value := [.string p.fr, .string p.to, .int .i64 p.mn, .int .i64 p.mx]
theorem encLk_ok : Enc encLk 4 := ⟨fun _ => rfl, fun x u hu => by simp [encLk] at hu; rcases hu with rfl | rfl | rfl | rfl <;> rfl⟩
structure Sy where
  name : ByteArray
  cld : Bool
  most : Int
def encSy (p : Sy) : List Value := [.string p.name, .bool p.cld, .int .i64 p.most]
theorem encSy_ok : Enc encSy 3 := ⟨fun _ => rfl, fun x u hu => by simp [encSy] at hu; rcases hu with rfl | rfl | rfl <;> rfl⟩
theorem Rd.pt {w : World} {B : Nat} {A : Option Addr} {l : List Pt} (h : Rd encPt 3 w B A l) {i : Nat} (hi : i < l.length) :
    ∃ b off p, A = some ⟨b, off, none⟩ ∧ b < B ∧ l[i]? = some p ∧ w.cell? ⟨b, off + i * 3, none⟩ = some (.string p.name) ∧ w.cell? ⟨b, off + i * 3 + 1, none⟩ = some (.int .i64 p.kind) ∧ w.cell? ⟨b, off + i * 3 + 2, none⟩ = some (.string p.sys) := by
  obtain ⟨b, off, x, hA, hb, hx, hc⟩ := h.at_ hi
  exact ⟨b, off, x, hA, hb, hx, hc 0 _ rfl, hc 1 _ rfl, hc 2 _ rfl⟩
theorem Rd.lk {w : World} {B : Nat} {A : Option Addr} {l : List Lk} (h : Rd encLk 4 w B A l) {i : Nat} (hi : i < l.length) :
    ∃ b off p, A = some ⟨b, off, none⟩ ∧ b < B ∧ l[i]? = some p ∧ w.cell? ⟨b, off + i * 4, none⟩ = some (.string p.fr) ∧ w.cell? ⟨b, off + i * 4 + 1, none⟩ = some (.string p.to) ∧ w.cell? ⟨b, off + i * 4 + 2, none⟩ = some (.int .i64 p.mn) ∧ w.cell? ⟨b, off + i * 4 + 3, none⟩ = some (.int .i64 p.mx) := by
  obtain ⟨b, off, x, hA, hb, hx, hc⟩ := h.at_ hi
  exact ⟨b, off, x, hA, hb, hx, hc 0 _ rfl, hc 1 _ rfl, hc 2 _ rfl, hc 3 _ rfl⟩
theorem Rd.sy {w : World} {B : Nat} {A : Option Addr} {l : List Sy} (h : Rd encSy 3 w B A l) {i : Nat} (hi : i < l.length) :
    ∃ b off p, A = some ⟨b, off, none⟩ ∧ b < B ∧ l[i]? = some p ∧ w.cell? ⟨b, off + i * 3, none⟩ = some (.string p.name) ∧ w.cell? ⟨b, off + i * 3 + 1, none⟩ = some (.bool p.cld) ∧ w.cell? ⟨b, off + i * 3 + 2, none⟩ = some (.int .i64 p.most) := by
  obtain ⟨b, off, x, hA, hb, hx, hc⟩ := h.at_ hi
  exact ⟨b, off, x, hA, hb, hx, hc 0 _ rfl, hc 1 _ rfl, hc 2 _ rfl⟩
def inSys (sys : List Sy) (s : ByteArray) : Prop := ∃ x ∈ sys, eqS x.name s = true
/-- an int is returned -/
def IntR (e : Ending) : Prop := ∃ n : Int, e = .returned (.int .i64 n)

set_option maxRecDepth 100000 in
set_option maxHeartbeats 4000000 in
theorem place_any {A : Option Addr} (c : Nat) {l : List Pt} (n : Int) (s : ByteArray) {w : World} (h : Rd encPt 3 w w.heap.size A l) (hl : l.length ≤ 9223372036854775807) :
    Calls Tryz.prog 45 #[.slice A l.length c, .int .i64 n, .string s] w fun e w' => (∃ r : Int, e = .returned (.int .i64 r) ∧ (r = -1 ∨ ∃ k : Nat, r = k ∧ k < l.length)) ∧ w' = w := by
  have H := Lib.hid h
  clear h
  go_enter Tryz.func45, Tryz.ntmps45
  go_wp2_with fail
  go_loopw [7] (fun i wr => ∃ k : Nat, k ≤ l.length ∧ i = .int .i64 k ∧ wr = w) (fun i _ => l.length - (RowKit.intOf i).toNat)
  case atStart => exact ⟨0, Nat.zero_le _, rfl, rfl⟩
  case round =>
    obtain ⟨k, hk, rfl, hw⟩ := hrel
    have hw := hw.symm
    subst hw
    have k1 : (0 : Int) ≤ (k : Int) := by omega
    by_cases hn : (k : Int) < n
    · by_cases hi : k < l.length
      · have k2 : (k : Int) < (l.length : Int) := by omega
        obtain ⟨b, off, p, rfl, hb, hx, d0, d1, d2⟩ := H.out.pt hi
        have HK := Lib.hid hi
        clear hx hi hb d1 d2
        cases he : eqS p.name s
        all_goals
          have he2 : (p.name.toList == s.toList) = eqS p.name s := rfl
          rw [he] at he2
          clear he
          go_wp2_with fail
          first
          | (go_ret; exact ⟨⟨_, rfl, .inr ⟨k, rfl, HK.out⟩⟩, rfl⟩)
          | (go_roundw; (case rel => exact ⟨k + 1, HK.out, by go_num, by first | rfl | trivial⟩); (case measure => have := HK.out; simp [RowKit.intOf]; omega))
      · have k2 : ¬ (k : Int) < (l.length : Int) := by omega
        go_wp2_with fail
        go_ret
        exact ⟨⟨_, rfl, .inl rfl⟩, rfl⟩
    · go_wp2_with fail
      go_ret
      exact ⟨⟨_, rfl, .inl rfl⟩, rfl⟩
set_option maxRecDepth 100000 in
set_option maxHeartbeats 4000000 in
theorem tfind_any {A : Option Addr} (c : Nat) {l : List Sy} (s : ByteArray) {w : World} (h : Rd encSy 3 w w.heap.size A l) (hl : l.length ≤ 9223372036854775807) :
    Calls Tryz.prog 39 #[.slice A l.length c, .string s] w fun e w' => (∃ r : Int, e = .returned (.int .i64 r) ∧ ((r = -1 ∧ ∀ x ∈ l, eqS x.name s = false) ∨ ∃ k : Nat, r = k ∧ k < l.length ∧ inSys l s)) ∧ w' = w := by
  have H := Lib.hid h
  clear h
  go_enter Tryz.func39, Tryz.ntmps39
  go_wp2_with fail
  go_loopw [5] (fun i wr => ∃ k : Nat, k ≤ l.length ∧ i = .int .i64 k ∧ Hid (∀ x ∈ l.take k, eqS x.name s = false) ∧ wr = w) (fun i _ => l.length - (RowKit.intOf i).toNat)
  case atStart => exact ⟨0, Nat.zero_le _, rfl, (by unfold Hid; simp), rfl⟩
  case round =>
    obtain ⟨k, hk, rfl, HQ, hw⟩ := hrel
    have hw := hw.symm
    subst hw
    have k1 : (0 : Int) ≤ (k : Int) := by omega
    by_cases hi : k < l.length
    · have k2 : (k : Int) < (l.length : Int) := by omega
      obtain ⟨b, off, p, rfl, hb, hx, d0, d1, d2⟩ := H.out.sy hi
      have HK := Lib.hid hi
      have HX := Lib.hid hx
      clear hx hi hb d1 d2
      have he2 : (p.name.toList == s.toList) = eqS p.name s := rfl
      cases he : eqS p.name s
      · rw [he] at he2
        have R : Hid (∀ x ∈ l.take (k + 1), eqS x.name s = false) := Lib.hid (by
          intro y hy
          rw [take_snoc HX.out] at hy
          rcases List.mem_append.1 hy with q | q
          · exact HQ.out y q
          · rw [List.mem_singleton] at q; subst q; exact he)
        clear he
        go_wp2_with fail
        go_roundw
        case rel => exact ⟨k + 1, HK.out, by go_num, R, by first | rfl | trivial⟩
        case measure => have := HK.out; simp [RowKit.intOf]; omega
      · rw [he] at he2
        have HI : Hid (inSys l s) := Lib.hid ⟨p, List.mem_of_getElem? HX.out, he⟩
        clear he
        go_wp2_with fail
        go_ret
        exact ⟨⟨_, rfl, .inr ⟨k, rfl, HK.out, HI.out⟩⟩, rfl⟩
    · obtain rfl : k = l.length := by omega
      go_wp2_with fail
      go_ret
      exact ⟨⟨_, rfl, .inl ⟨rfl, by have := HQ.out; rwa [List.take_length] at this⟩⟩, rfl⟩
end Go.Proofs.YtelchfijalkibaaGreatDoor
/- The reference's Name, walked. -/
set_option linter.unusedSimpArgs false
namespace Go.Proofs.YtelchfijalkibaaGreatDoor
open Go.RowKit Go.Lib

theorem okB_of {k c : Nat} {b : Bool} (h : (decide (97 ≤ c ∧ c ≤ 122) || (decide (k ≠ 0) && decide (c = 45 ∨ (48 ≤ c ∧ c ≤ 57)))) = b) : okByte k c = b := by
  rw [← h]; unfold okByte; rw [Bool.eq_iff_iff]; simp
set_option maxRecDepth 100000 in
set_option maxHeartbeats 4000000 in
theorem r1name_any (s : ByteArray) (w : World) :
    Calls Tryz.prog 38 #[.string s] w fun e w' => e = .returned (.bool (nameB s)) ∧ w' = w := by
  generalize hr : nameB s = r
  by_cases h0 : s.size < 1
  · have R := Lib.hid (show r = false by rw [← hr, nameB, show decide (1 ≤ s.size) = false from decide_eq_false (by omega)]; rfl)
    clear hr
    go_enter Tryz.func38, Tryz.ntmps38
    go_wp2
    all_goals (go_ret; rw [R.out]; exact ⟨rfl, rfl⟩)
  · by_cases h12 : 12 < s.size
    · have R := Lib.hid (show r = false by rw [← hr, nameB, show decide (s.size ≤ 12) = false from decide_eq_false (by omega)]; simp)
      clear hr
      go_enter Tryz.func38, Tryz.ntmps38
      go_wp2
      all_goals (go_ret; rw [R.out]; exact ⟨rfl, rfl⟩)
    · have HR := Lib.hid hr
      clear hr
      go_enter Tryz.func38, Tryz.ntmps38
      go_wp2
      go_loopw [3] (fun i wr => ∃ k : Nat, k ≤ s.size ∧ i = .int .i64 k ∧ wr = w ∧ Hid (nameTo s k)) (fun i _ => s.size - (RowKit.intOf i).toNat)
      case atStart => exact ⟨0, Nat.zero_le _, rfl, rfl, fun i _ h => absurd h (Nat.not_lt_zero _)⟩
      case round =>
        obtain ⟨k, hkl, rfl, rfl, HN⟩ := hrel
        by_cases hk : k < s.size
        · obtain ⟨c, hc⟩ : ∃ c : Nat, (s[k]'hk).toNat = c := ⟨_, rfl⟩
          have HY := Lib.hid (fun (q : okByte k c = true) => nameTo_succ HN.out hk (by rw [hc]; exact q))
          have HF := Lib.hid (fun (q : okByte k c = false) => (show r = false by rw [← HR.out, nameB_no hk (by rw [hc]; exact q)]))
          have hz : (c < 45) ∨ (c = 45) ∨ (45 < c ∧ c < 48) ∨ (48 ≤ c ∧ c ≤ 57) ∨ (57 < c ∧ c < 97) ∨ (97 ≤ c ∧ c ≤ 122) ∨ (122 < c) := by omega
          have hkz : ((k : Int) == 0) = true ∨ ((k : Int) == 0) = false := by cases ((k : Int) == 0) <;> simp
          have HKT := Lib.hid (fun (q : ((k : Int) == 0) = true) => (show k = 0 by simpa using q))
          have HKF := Lib.hid (fun (q : ((k : Int) == 0) = false) => (show k ≠ 0 by simpa using q))
          have HKS := Lib.hid hk
          rcases hz with hz | hz | hz | hz | hz | hz | hz
          all_goals
            have z45 : c = c := rfl
            rcases hkz with hkz | hkz
          case inr.inr.inr.inr.inr.inl.inl | inr.inr.inr.inr.inr.inl.inr => (have R := Lib.hid (HY.out (okB_of (by simp; omega)))); clear z45 HY HF; go_wp2; all_goals (first | (exfalso; omega) | (exfalso; rename_i qx; simp at qx; omega) | (go_roundw; (case rel => exact ⟨k + 1, HKS.out, by go_num, by first | rfl | trivial, R⟩); (case measure => have := HKS.out; simp [RowKit.intOf]; omega)))
          case inr.inl.inr | inr.inr.inr.inl.inr => (have R := Lib.hid (HY.out (okB_of (by have := HKF.out hkz; simp; omega)))); clear z45 HY HF; go_wp2; all_goals (first | (exfalso; omega) | (exfalso; rename_i qx; simp at qx; omega) | (go_roundw; (case rel => exact ⟨k + 1, HKS.out, by go_num, by first | rfl | trivial, R⟩); (case measure => have := HKS.out; simp [RowKit.intOf]; omega)))
          all_goals (have R := Lib.hid (HF.out (okB_of (by first | (have := HKT.out hkz; simp; omega) | (simp; omega))))); clear z45 HY HF; go_wp2; all_goals (first | (exfalso; omega) | (go_ret; rw [R.out]; exact ⟨rfl, rfl⟩) | (exfalso; rename_i qx; simp at qx; omega))
        · obtain rfl : k = s.size := by omega
          have R := Lib.hid (show r = true by rw [← HR.out]; exact (nameB_iff s).2 ⟨by omega, by omega, HN.out⟩)
          go_wp2
          go_ret
          rw [R.out]
          exact ⟨rfl, rfl⟩

end Go.Proofs.YtelchfijalkibaaGreatDoor
