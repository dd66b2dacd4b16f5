/- The reference's order of charges and its choice of the next one, walked. -/
import Derived.Test.YtlnnbkpcnhlfcaaDoorJCapRMath
import Derived.Test.YtlnnbkpcnhlfcaaDoorJStabList
import Derived.BigQuiet
import Derived.Test.YtlnnbkpcnhlfcaaDoorJBox
set_option linter.unusedSimpArgs false
namespace Go.Proofs.YtlnnbkpcnhlfcaaDoor
open Go.RowKit Go.Lib

def encBo (b : Bool) : List Value := [.bool b]
theorem encBo_ok : Enc encBo 1 := ⟨fun _ => rfl, fun x u hu => by simp [encBo] at hu; subst hu; rfl⟩
theorem Rd.bo {w : World} {B : Nat} {A : Option Addr} {l : List Bool} (h : Rd encBo 1 w B A l) {i : Nat} (hi : i < l.length) :
    ∃ b off x, A = some ⟨b, off, none⟩ ∧ b < B ∧ l[i]? = some x ∧ w.cell? ⟨b, off + i, none⟩ = some (.bool x) := by
  obtain ⟨b, off, c, hA, hb, hx, hc⟩ := h.at_ hi
  have := hc 0 _ rfl
  rw [Nat.mul_one, Nat.add_zero] at this
  exact ⟨b, off, c, hA, hb, hx, this⟩

theorem cmpS_ifB (a b : ByteArray) : cmpS a b = if sltB a b = true then -1 else if sltB b a = true then 1 else 0 := by
  have h1 := cb_lt a.data.toList b.data.toList
  have h2 := cb_gt a.data.toList b.data.toList
  have r := cb_r a.data.toList b.data.toList
  unfold cmpS sltB
  simp only [ByteArray.toList_eq, decide_eq_true_eq, ← h1, ← h2]
  generalize Lib.compareBytes a.data.toList b.data.toList = x at *
  rcases r with rfl | rfl | rfl <;> simp
theorem firstB_def {cs : List CV} {i k : Nat} {xi xk : CV} (hi : chAt cs i = xi) (hk : chAt cs k = xk) :
    firstB cs i k = if xi.tm ≠ xk.tm then decide (xi.tm < xk.tm) else if eqS xi.key xk.key = false then sltB xi.key xk.key else decide (i < k) := by
  unfold firstB ltI ltOf
  rw [hi, hk]
  have e1 : cmpCh xi xk = if cmpI xi.tm xk.tm ≠ 0 then cmpI xi.tm xk.tm else cmpS xi.key xk.key := by unfold cmpCh; simp only [firstI]; split; rfl; split <;> omega
  have e2 : cmpCh xk xi = if cmpI xk.tm xi.tm ≠ 0 then cmpI xk.tm xi.tm else cmpS xk.key xi.key := by unfold cmpCh; simp only [firstI]; split; rfl; split <;> omega
  by_cases ht : xi.tm = xk.tm
  · have a1 : cmpCh xi xk = cmpS xi.key xk.key := by rw [e1, cmpI_zero.2 ht, if_neg (by simp)]
    have a2 : cmpCh xk xi = -cmpS xi.key xk.key := by rw [e2, cmpI_zero.2 ht.symm, if_neg (by simp), cmpS_pre.s xi.key xk.key]
    rw [a1, a2, if_neg (by simp [ht])]
    cases he : eqS xi.key xk.key
    · rw [if_pos rfl, cmpS_ifB]
      cases h1 : sltB xi.key xk.key
      · cases h2 : sltB xk.key xi.key
        · have e := sltB_total h1 h2
          rw [(eqS_iff _ _).2 e] at he; cases he
        · rfl
      · rfl
    · rw [if_neg (by simp), cmpS_zero.2 ((eqS_iff _ _).1 he)]
      rfl
  · have a1 : cmpCh xi xk = cmpI xi.tm xk.tm := by rw [e1, if_pos (mt cmpI_zero.1 ht)]
    have a2 : cmpCh xk xi = -cmpI xi.tm xk.tm := by rw [e2, if_pos (mt cmpI_zero.1 (Ne.symm ht)), cmpI_pre.s xi.tm xk.tm]
    rw [a1, a2, if_pos ht]
    unfold cmpI Lib.compareInt
    by_cases hlt : xi.tm < xk.tm
    · rw [if_pos hlt, decide_eq_true hlt]; rfl
    · rw [if_neg hlt, if_pos (by omega : xk.tm < xi.tm), decide_eq_false hlt]; rfl

set_option maxRecDepth 100000 in
set_option maxHeartbeats 4000000 in
theorem rfirst_any {A : Option Addr} (c : Nat) {l : List Cg} {w : World} (hr : Rd encCg 7 w w.heap.size A l) (i k : Nat) (hi : i < l.length) (hk : k < l.length) :
    Calls Tryd.prog 92 #[.slice A l.length c, .int .i64 i, .int .i64 k] w fun e w' => e = .returned (.bool (firstB (cvs l) i k)) ∧ ∃ n, w' = w.drewN n := by
  obtain ⟨b, off, xi, hA, hbl, hxi, p0, -, -, -, p4, -, -⟩ := hr.cg hi
  obtain ⟨b', off', xk, hA', hbl', hxk, q0, -, -, -, q4, -, -⟩ := hr.cg hk
  rw [hA] at hA'
  injection hA' with hA'
  injection hA' with h1 h2
  subst h1 h2
  subst hA
  have HFB := firstB_def (chAt_of (cvs_at hxi)) (chAt_of (cvs_at hxk))
  rw [HFB]
  clear HFB
  obtain ⟨⟨ki, ve, sy, cl, ti, ln, cn⟩, xiA, xic⟩ := xi
  obtain ⟨⟨kk, ve2, sy2, cl2, tk, ln2, cn2⟩, xkA, xkc⟩ := xk
  simp only at *
  have i1 : (0 : Int) ≤ (i : Int) := by omega
  have i2 : (i : Int) < (l.length : Int) := by omega
  have k1 : (0 : Int) ≤ (k : Int) := by omega
  have k2 : (k : Int) < (l.length : Int) := by omega
  clear hr hxi hxk hbl' hbl
  by_cases ht : ti = tk
  · subst ht
    rw [if_neg (by simp)]
    cases he : eqS ki kk
    · rw [if_pos rfl]
      have e2 : (ki.toList == kk.toList) = false := he
      have e3 := less_slt ki kk
      generalize hs : sltB ki kk = s at *
      clear he hs
      go_enter Tryd.func92, Tryd.ntmps92
      go_wp2_with fail
      go_quiet (fail)
      go_wp2_with fail
      go_quiet (fail)
      go_wp2_with fail
      go_quiet (fail)
      go_wp2_with fail
      go_ret
      exact ⟨rfl, by simp only [World.drewN_drewN]; exact ⟨_, rfl⟩⟩
    · rw [if_neg (by simp)]
      have e2 : (ki.toList == kk.toList) = true := he
      clear he
      go_enter Tryd.func92, Tryd.ntmps92
      go_wp2_with fail
      go_quiet (fail)
      go_wp2_with fail
      go_quiet (fail)
      go_wp2_with fail
      go_ret
      exact ⟨ret_bool (by simp), _, rfl⟩
  · rw [if_pos ht]
    have e2 : (ti != tk) = true := by simp [ht]
    clear ht
    go_enter Tryd.func92, Tryd.ntmps92
    go_wp2_with fail
    go_quiet (fail)
    go_wp2_with fail
    go_quiet (fail)
    go_wp2_with fail
    go_ret
    exact ⟨rfl, by simp only [World.drewN_drewN]; exact ⟨_, rfl⟩⟩

set_option maxRecDepth 100000 in
set_option maxHeartbeats 4000000 in
theorem rnext_any {A D : Option Addr} (c d n : Nat) {l : List Cg} {w : World} (hr : Rd encCg 7 w w.heap.size A l) (hd : Rd encBo 1 w w.heap.size D (doneL (cvs l) n)) (hl : l.length ≤ 1000000) :
    Calls Tryd.prog 74 #[.slice A l.length c, .slice D l.length d] w fun e w' => e = .returned (.int .i64 (bestN (cvs l) (doneB (cvs l) n) l.length)) ∧ ∃ m, w' = w.drewN m := by
  have hdl : (doneL (cvs l) n).length = l.length := by rw [doneL_len, cvs_len]
  have HR := Lib.hid hr
  have HD := Lib.hid hd
  clear hr hd
  go_enter Tryd.func74, Tryd.ntmps74
  go_wp2_with fail
  go_loopw [5, 6] (fun va vi wr => ∃ (k : Nat) (a : Int), k ≤ l.length ∧ va = .int .i64 a ∧ vi = .int .i64 k ∧ Hid (bestN (cvs l) (doneB (cvs l) n) k = a) ∧ ∃ m, wr = w.drewN m) (fun _ vi _ => l.length - (RowKit.intOf vi).toNat)
  case atStart => exact ⟨0, -1, Nat.zero_le _, rfl, rfl, rfl, 0, rfl⟩
  case round =>
    obtain ⟨k, a, hk, rfl, rfl, HB, m, rfl⟩ := hrel
    have hsp := bestN_spec (cvs l) (doneB (cvs l) n) k
    rw [HB.out] at hsp
    by_cases hi : k < l.length
    · obtain ⟨b, off, x, hA1, hb, hx, d0⟩ := HD.out.bo (i := k) (by rw [hdl]; exact hi)
      rw [doneL_at (by rw [cvs_len]; exact hi)] at hx
      obtain rfl : doneB (cvs l) n k = x := by simpa using hx
      have hi1 : (0 : Int) ≤ (k : Int) := by omega
      have hi2 : (k : Int) < (l.length : Int) := by omega
      have HK := Lib.hid hi
      subst hA1
      have HS : Hid (bestN (cvs l) (doneB (cvs l) n) (k + 1) = if doneB (cvs l) n k = false ∧ (a < 0 ∨ firstB (cvs l) k a.toNat = true) then (k : Int) else a) := Lib.hid (by rw [← HB.out]; rfl)
      clear hx
      have CF := Lib.hid (fun (a' : Nat) (h : a' < l.length) => rfirst_any c (w := w.drewN m) (show Rd encCg 7 (w.drewN m) (w.drewN m).heap.size A l from HR.out) k a' HK.out h)
      have d0 : (w.drewN m).cell? ⟨b, off + k, none⟩ = some (.bool (doneB (cvs l) n k)) := d0
      cases hdn : doneB (cvs l) n k
      · rw [hdn] at d0
        by_cases ha : a < 0
        · have R : Hid (bestN (cvs l) (doneB (cvs l) n) (k + 1) = (k : Int)) := Lib.hid (by rw [HS.out, if_pos ⟨hdn, .inl ha⟩])
          clear hsp HS CF hdn HB
          go_wp2_with fail
          go_roundw
          case rel => exact ⟨k + 1, _, HK.out, rfl, by go_num, R, m, rfl⟩
          case measure => have := HK.out; simp [RowKit.intOf]; omega
        · obtain ⟨a', rfl, ha'⟩ : ∃ a' : Nat, a = (a' : Int) ∧ a' < k := by
            rcases hsp with ⟨h1, _⟩ | ⟨a', h1, h2, _⟩
            · omega
            · exact ⟨a', h1, h2⟩
          have CF := Lib.hid (CF.out a' (by omega))
          have ha0 : ¬ ((a' : Int) < 0) := ha
          cases hf : firstB (cvs l) k a'
          · have R : Hid (bestN (cvs l) (doneB (cvs l) n) (k + 1) = (a' : Int)) := Lib.hid (by rw [HS.out, if_neg (fun q => by
              rcases q.2 with q | q
              · omega
              · rw [Int.toNat_natCast, hf] at q; cases q)])
            rw [hf] at CF
            clear hsp HS hdn hf HB
            go_wp2_with fail
            refine CF.out.mono ?_
            rintro e w5 ⟨rfl, m5, rfl⟩
            go_wp2_with fail
            go_roundw
            case rel => exact ⟨k + 1, _, HK.out, rfl, by go_num, R, m + m5, by simp⟩
            case measure => have := HK.out; simp [RowKit.intOf]; omega
          · have R : Hid (bestN (cvs l) (doneB (cvs l) n) (k + 1) = (k : Int)) := Lib.hid (by rw [HS.out, if_pos ⟨hdn, .inr (by rw [Int.toNat_natCast]; exact hf)⟩])
            rw [hf] at CF
            clear hsp HS hdn hf HB
            go_wp2_with fail
            refine CF.out.mono ?_
            rintro e w5 ⟨rfl, m5, rfl⟩
            go_wp2_with fail
            go_roundw
            case rel => exact ⟨k + 1, _, HK.out, rfl, by go_num, R, m + m5, by simp⟩
            case measure => have := HK.out; simp [RowKit.intOf]; omega
      · rw [hdn] at d0
        have R : Hid (bestN (cvs l) (doneB (cvs l) n) (k + 1) = a) := Lib.hid (by rw [HS.out, if_neg (by rw [hdn]; simp)])
        clear hsp HS CF hdn HB
        go_wp2_with fail
        go_roundw
        case rel => exact ⟨k + 1, _, HK.out, rfl, by go_num, R, m, rfl⟩
        case measure => have := HK.out; simp [RowKit.intOf]; omega
    · obtain rfl : k = l.length := by omega
      have R := Lib.hid HB.out
      clear hsp HB
      go_wp2_with fail
      go_ret
      exact ⟨ret_int R.out.symm, m, rfl⟩
end Go.Proofs.YtlnnbkpcnhlfcaaDoor
