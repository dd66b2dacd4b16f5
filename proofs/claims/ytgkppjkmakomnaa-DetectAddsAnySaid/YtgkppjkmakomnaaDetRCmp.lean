/- The reference's Before, texts, numbers, first, walked. -/
import Derived.Test.YtgkppjkmakomnaaJDetCmp
import Derived.BigRegion
import Derived.Deep.DrawnRows
namespace Go.Proofs.Ytgkppjkmakomnaa
open Go.RowKit Go.Lib

/-- the first k bytes are the same -/
def SameTo (a b : ByteArray) (k : Nat) : Prop := a.toList.take k = b.toList.take k
theorem toList_at (a : ByteArray) {k : Nat} (h : k < a.size) : a.toList[k]? = some (a[k]'h) := by
  rw [ByteArray.toList_eq]
  have : k < a.data.toList.length := h
  rw [List.getElem?_eq_getElem this]; rfl
theorem toList_len (a : ByteArray) : a.toList.length = a.size := by rw [ByteArray.toList_eq]; rfl
theorem SameTo.snoc {a b : ByteArray} {k : Nat} (h : SameTo a b k) (ha : k < a.size) (hb : k < b.size) (e : (a[k]'ha).toNat = (b[k]'hb).toNat) : SameTo a b (k + 1) := by
  unfold SameTo at *
  rw [take_snoc (toList_at a ha), take_snoc (toList_at b hb), h, UInt8.toNat_inj.1 e]
theorem lt_prefix {l : List UInt8} : ∀ {p : List UInt8} {r : List UInt8}, (p ++ l < p ++ r) ↔ l < r
  | [], _ => Iff.rfl
  | x :: p, r => by
    rw [List.cons_append, List.cons_append, List.cons_lt_cons_iff]
    constructor
    · rintro (h | ⟨_, h⟩)
      · exact absurd h (UInt8.lt_irrefl x)
      · exact lt_prefix.1 h
    · exact fun h => Or.inr ⟨rfl, lt_prefix.2 h⟩
theorem before_at {a b : ByteArray} {k : Nat} (h : SameTo a b k) (ha : k < a.size) (hb : k < b.size) (e : (a[k]'ha).toNat ≠ (b[k]'hb).toNat) : sltB a b = decide ((a[k]'ha).toNat < (b[k]'hb).toNat) := by
  unfold sltB
  have e1 : a.toList = a.toList.take k ++ (a[k]'ha) :: a.toList.drop (k + 1) := by
    have := List.drop_eq_getElem_cons (l := a.toList) (i := k) (by rw [toList_len]; exact ha)
    have e2 : a.toList[k]'(by rw [toList_len]; exact ha) = a[k]'ha := Option.some.inj ((List.getElem?_eq_getElem _).symm.trans (toList_at a ha))
    rw [e2] at this
    rw [← this, List.take_append_drop]
  have e3 : b.toList = a.toList.take k ++ (b[k]'hb) :: b.toList.drop (k + 1) := by
    have := List.drop_eq_getElem_cons (l := b.toList) (i := k) (by rw [toList_len]; exact hb)
    have e2 : b.toList[k]'(by rw [toList_len]; exact hb) = b[k]'hb := Option.some.inj ((List.getElem?_eq_getElem _).symm.trans (toList_at b hb))
    rw [e2] at this
    have h' : a.toList.take k = b.toList.take k := h
    rw [h', ← this, List.take_append_drop]
  rw [Bool.eq_iff_iff, decide_eq_true_eq, decide_eq_true_eq]
  generalize a.toList.take k = p at *
  rw [e1, e3, lt_prefix, List.cons_lt_cons_iff]
  constructor
  · rintro (q | ⟨q, _⟩)
    · exact q
    · exact absurd (congrArg UInt8.toNat q) e
  · exact fun q => Or.inl q
theorem before_end {a b : ByteArray} {k : Nat} (h : SameTo a b k) (hk : k = a.size ∧ k ≤ b.size ∨ k = b.size ∧ k ≤ a.size) : sltB a b = decide (a.size < b.size) := by
  unfold sltB
  rw [Bool.eq_iff_iff, decide_eq_true_eq, decide_eq_true_eq]
  have h' : a.toList.take k = b.toList.take k := h
  rcases hk with ⟨rfl, hb⟩ | ⟨rfl, ha⟩
  · rw [List.take_of_length_le (by rw [toList_len]; omega)] at h'
    rw [h']
    conv => lhs; rhs; rw [← List.take_append_drop a.size b.toList]
    constructor
    · intro q
      by_cases e : a.size < b.size
      · exact e
      · rw [List.drop_eq_nil_of_le (by rw [toList_len]; omega), List.append_nil] at q
        exact absurd q (List.lt_irrefl _)
    · intro q
      have hd : b.toList.drop a.size ≠ [] := by
        intro hn
        have := congrArg List.length hn
        rw [List.length_drop, toList_len] at this
        simp at this; omega
      cases hc : b.toList.drop a.size with
      | nil => exact absurd hc hd
      | cons y r =>
        have := (lt_prefix (p := b.toList.take a.size) (l := []) (r := y :: r)).2 (List.nil_lt_cons y r)
        rwa [List.append_nil] at this
  · rw [List.take_of_length_le (l := b.toList) (by rw [toList_len]; omega)] at h'
    constructor
    · intro q
      exfalso
      rw [← h'] at q
      have q2 : a.toList.take b.size ++ a.toList.drop b.size < a.toList.take b.size ++ [] := by rwa [List.take_append_drop, List.append_nil]
      exact absurd (lt_prefix.1 q2) (by intro h; cases hh : a.toList.drop b.size <;> rw [hh] at h <;> cases h)
    · intro q; omega
theorem gr_drewN (w : World) (n : Nat) : Gr w (w.drewN n) := (Gr.refl w).drewN n

set_option maxRecDepth 100000 in
set_option maxHeartbeats 4000000 in
theorem before_any (a b : ByteArray) (hsz : a.size ≤ 100) (w : World) : Calls Try.prog 68 #[.string a, .string b] w fun e w' => e = .returned (.bool (sltB a b)) ∧ Gr w w' := by
  generalize hr : sltB a b = r
  have HR := Lib.hid hr
  clear hr
  go_enter Try.func68, Try.ntmps68
  go_wp2_with fail
  go_loopw [5] (fun i wr => ∃ k : Nat, k ≤ a.size ∧ k ≤ b.size ∧ i = .int .i64 k ∧ Hid (SameTo a b k) ∧ ∃ n, wr = w.drewN n) (fun i _ => a.size - (intOf i).toNat)
  case atStart => exact ⟨0, Nat.zero_le _, Nat.zero_le _, rfl, by unfold Hid; exact rfl, 0, rfl⟩
  case round =>
    obtain ⟨k, hka, hkb, rfl, HS, n, rfl⟩ := hrel
    by_cases ha : k < a.size
    · by_cases hb : k < b.size
      · obtain ⟨x, hx⟩ : ∃ c : Nat, (a[k]'ha).toNat = c := ⟨_, rfl⟩
        obtain ⟨y, hy⟩ : ∃ c : Nat, (b[k]'hb).toNat = c := ⟨_, rfl⟩
        have i1 : (0 : Int) ≤ (k : Int) := by omega
        have i2 : (k : Int) < (a.size : Int) := by omega
        have i3 : (k : Int) < (b.size : Int) := by omega
        by_cases hxy : x = y
        · have HN := Lib.hid (HS.out.snoc ha hb (by rw [hx, hy]; exact hxy))
          have e1 : ((x : Int) != (y : Int)) = false := by simp [hxy]
          have HL := Lib.hid ha
          have HLb := Lib.hid hb
          clear hxy
          go_wp2_with fail
          go_quiet (fail)
          go_wp2
          go_roundw
          case rel => exact ⟨k + 1, HL.out, HLb.out, by go_num, HN, _, rfl⟩
          case measure => have := HL.out; simp [intOf]; omega
        · have R := Lib.hid (show r = decide (x < y) by rw [← HR.out, before_at HS.out ha hb (by rw [hx, hy]; exact hxy), hx, hy])
          have e1 : ((x : Int) != (y : Int)) = true := by simp; omega
          clear hxy HS
          go_wp2_with fail
          go_quiet (fail)
          go_wp2_with fail
          go_quiet (fail)
          go_wp2
          go_ret
          exact ⟨by rw [R.out]; exact ret_bool (by simp), by first | exact gr_drewN _ _ | exact ((gr_drewN _ _).drewN _).drewN _⟩
      · have R := Lib.hid (show r = decide (a.size < b.size) by rw [← HR.out]; exact before_end HS.out (Or.inr ⟨by omega, hka⟩))
        have i2 : (k : Int) < (a.size : Int) := by omega
        have i3 : ¬ (k : Int) < (b.size : Int) := by omega
        clear HS
        go_wp2
        go_ret
        exact ⟨by rw [R.out]; exact ret_bool (by simp), by first | exact gr_drewN _ _ | exact ((gr_drewN _ _).drewN _).drewN _⟩
    · have R := Lib.hid (show r = decide (a.size < b.size) by rw [← HR.out]; exact before_end HS.out (Or.inl ⟨by omega, hkb⟩))
      have i2 : ¬ (k : Int) < (a.size : Int) := by omega
      clear HS
      go_wp2
      go_ret
      exact ⟨by rw [R.out]; exact ret_bool (by simp), by first | exact gr_drewN _ _ | exact ((gr_drewN _ _).drewN _).drewN _⟩
set_option maxRecDepth 100000 in
theorem texts_any (a b : ByteArray) (hsz : a.size ≤ 100) (w : World) : Calls Try.prog 44 #[.string a, .string b] w fun e w' => e = .returned (.int .i64 (cmpS a b)) ∧ Gr w w' := by
  have CB := Lib.hid (fun (X : World) => before_any a b hsz X)
  rw [cmpS_if]
  cases hq : eqS a b
  · have k3 : (a.toList == b.toList) = false := hq
    cases h1 : sltB a b
    · have h2 : sltB b a = true := by
        cases h2 : sltB b a
        · have e := sltB_total h1 h2
          subst e
          rw [eqS_refl] at hq; cases hq
        · rfl
      rw [h1] at CB
      rw [h2]
      clear h1 h2 hq
      go_enter Try.func44, Try.ntmps44
      go_wp2_with fail
      refine (CB.out _).mono ?_
      rintro e wn ⟨rfl, hg⟩
      go_wp2_with fail
      go_ret
      exact ⟨rfl, hg⟩
    · rw [h1] at CB
      clear h1 hq
      go_enter Try.func44, Try.ntmps44
      go_wp2_with fail
      refine (CB.out _).mono ?_
      rintro e wn ⟨rfl, hg⟩
      go_wp2_with fail
      go_ret
      exact ⟨rfl, hg⟩
  · obtain rfl : a = b := (eqS_iff a b).1 hq
    have k3 : (a.toList == a.toList) = true := hq
    rw [sltB_swo.irrefl]
    clear hq CB
    go_enter Try.func44, Try.ntmps44
    go_wp2_with fail
    go_ret
    exact ⟨rfl, Gr.refl _⟩
set_option maxRecDepth 100000 in
theorem numbers_any (a b : Int) (w : World) : Calls Try.prog 43 #[.int .i64 a, .int .i64 b] w fun e w' => e = .returned (.int .i64 (cmpI a b)) ∧ Gr w w' := by
  unfold cmpI Lib.compareInt
  by_cases h1 : a < b
  · go_enter Try.func43, Try.ntmps43
    go_wp2_with fail
    go_ret
    exact ⟨by first | rfl | (rw [if_pos h1]; rfl) | simp [h1], Gr.refl _⟩
  · by_cases h2 : a > b
    · have h3 : b < a := h2
      go_enter Try.func43, Try.ntmps43
      go_wp2_with fail
      go_ret
      exact ⟨by first | rfl | simp [h1, h2, h3], Gr.refl _⟩
    · have h3 : ¬ b < a := h2
      go_enter Try.func43, Try.ntmps43
      go_wp2_with fail
      go_ret
      exact ⟨by first | rfl | simp [h1, h2, h3], Gr.refl _⟩
set_option maxRecDepth 100000 in
set_option maxHeartbeats 4000000 in
theorem rfirst_any {A : Option Addr} (c : Nat) {l : List Int} {w : World} (h : Rd encI 1 w w.heap.size A l) (hl : l.length ≤ 1000) :
    Calls Try.prog 42 #[.slice A l.length c] w fun e w' => e = .returned (.int .i64 (firstI l)) ∧ w' = w := by
  have HH := Lib.hid h
  clear h
  go_enter Try.func42, Try.ntmps42
  go_wp2_with fail
  go_loopw [3] (fun i wr => ∃ k : Nat, k ≤ l.length ∧ i = .int .i64 k ∧ Hid (firstI (l.drop k) = firstI l) ∧ wr = w) (fun i _ => l.length - (intOf i).toNat)
  case atStart => exact ⟨0, Nat.zero_le _, rfl, rfl, rfl⟩
  case round =>
    obtain ⟨k, hk, rfl, HQ, rfl⟩ := hrel
    by_cases hi : k < l.length
    · obtain ⟨b, off, x, hA, hg, hx, hc⟩ := HH.out.at_ hi
      have d0 := hc 0 _ rfl
      have HD := Lib.hid (firstI_drop hx)
      have HL := Lib.hid hi
      have hi1 : (0 : Int) ≤ (k : Int) := by omega
      have hi2 : (k : Int) < (l.length : Int) := by omega
      subst hA
      simp only [Nat.mul_one, Nat.add_zero] at d0
      clear hc hx
      by_cases hx0 : x = 0
      · have HN := Lib.hid (show firstI (l.drop (k + 1)) = firstI l by rw [← HQ.out, HD.out, if_neg (by simp [hx0])])
        have hx1 : (x != 0) = false := by simp [hx0]
        clear hx0
        go_wp2
        go_roundw
        case rel => exact ⟨k + 1, HL.out, by go_num, HN, trivial⟩
        case measure => have := HL.out; simp [intOf]; omega
      · have HN : Hid (firstI l = x) := Lib.hid (show firstI l = x by rw [← HQ.out, HD.out, if_pos hx0])
        have hx1 : (x != 0) = true := by simp [hx0]
        clear hx0 HQ HD
        go_wp2
        go_ret
        exact ⟨by rw [HN.out]; rfl, rfl⟩
    · obtain rfl : k = l.length := by omega
      have HN : Hid (firstI l = 0) := Lib.hid (by rw [← HQ.out, List.drop_length]; rfl)
      clear HQ hi hk
      go_wp2
      go_ret
      exact ⟨by rw [HN.out]; rfl, rfl⟩
end Go.Proofs.Ytgkppjkmakomnaa
