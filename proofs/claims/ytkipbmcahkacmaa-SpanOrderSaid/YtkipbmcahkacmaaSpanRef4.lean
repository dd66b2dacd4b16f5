/- The reference's functions of chapter 05, walked: Same, Normal, Union, Meet, Minus, Length, Covers. -/
import Derived.Test.YtkipbmcahkacmaaSpanRef3
import Derived.Test.YtkipbmcahkacmaaSpanOps3
import Derived.Laws.StructEq
namespace Go.Proofs.Ytkipbmcahkacmaa
open Go.RowKit Go.Lib

theorem take_ext {α : Type} {a b : List α} {k : Nat} {x y : α} (h : a.take k = b.take k) (hx : a[k]? = some x) (hy : b[k]? = some y) (e : x = y) : a.take (k + 1) = b.take (k + 1) := by
  rw [take_snoc hx, take_snoc hy, h, e]
theorem ne_of_get {α : Type} {a b : List α} {k : Nat} {x y : α} (hx : a[k]? = some x) (hy : b[k]? = some y) (e : ¬ x = y) : ¬ a = b := by
  rintro rfl
  rw [hx] at hy
  injection hy with hy
  exact e hy

set_option maxHeartbeats 1000000 in
theorem rsame_any {A B : Option Addr} (c d : Nat) {a b : List Iv} {w : World} (ha : Rd encIv 2 w w.heap.size A a) (hb : Rd encIv 2 w w.heap.size B b) (hla : a.length ≤ 100000000000) :
    Calls Try.prog 12 #[.slice A a.length c, .slice B b.length d] w fun e w' => e = .returned (.bool (decide (a = b))) ∧ Below w.heap.size w w' := by
  by_cases hl : a.length = b.length
  · have hq : ((a.length : Int) != (b.length : Int)) = false := by simp; omega
    have HL := Lib.hid hl
    clear hl
    go_enter Try.func12, Try.ntmps12
    go_wp2
    go_loopw [5] (fun i wr => ∃ k : Nat, k ≤ a.length ∧ i = .int .i64 k ∧ Hid (a.take k = b.take k) ∧ Below w.heap.size w wr) (fun i _ => a.length - (intOf i).toNat)
    case atStart => exact ⟨0, Nat.zero_le _, rfl, rfl, Below.refl _ _⟩
    case round =>
      obtain ⟨k, hk, rfl, HO, hbr⟩ := hrel
      by_cases hlt : k < a.length
      · have hlt2 : k < b.length := by rw [← HL.out]; exact hlt
        obtain ⟨g, off, f, u, rfl, hg, hx, hc0, hc1⟩ := (ha.keep hbr).iv hlt
        obtain ⟨g', off', f', u', rfl, hg', hy, hc2, hc3⟩ := (hb.keep hbr).iv hlt2
        clear ha hb
        have hk1 : (0 : Int) ≤ (k : Int) := by omega
        have hk2 : (k : Int) < (a.length : Int) := by omega
        have hk3 : (k : Int) < (b.length : Int) := by omega
        by_cases e1 : f = f'
        · by_cases e2 : u = u'
          · have R := Lib.hid (take_ext HO.out hx hy (by rw [e1, e2]))
            have t1 : ((f : Int) == f') = true := by simpa using e1
            have t2 : ((u : Int) == u') = true := by simpa using e2
            have E1 := Lib.hid e1
            have E2 := Lib.hid e2
            clear hx hy e1 e2
            go_wp2_with fail
            go_quiet (fail)
            go_wp2
            go_roundw
            case rel => exact ⟨k + 1, by omega, by go_num, R, below_drewN hbr nq⟩
            case measure => simp [intOf]; omega
          · have R := Lib.hid (show decide (a = b) = false from decide_eq_false (ne_of_get hx hy fun e => e2 (by injection e)))
            have t1 : ((f : Int) == f') = true := by simpa using e1
            have t2 : ((u : Int) == u') = false := by simpa using e2
            have E1 := Lib.hid e1
            clear hx hy e1
            go_wp2_with fail
            go_quiet (fail)
            go_wp2
            go_ret
            exact ⟨ret_bool R.out.symm, below_drewN hbr nq⟩
        · have R := Lib.hid (show decide (a = b) = false from decide_eq_false (ne_of_get hx hy fun e => e1 (by injection e)))
          have t1 : ((f : Int) == f') = false := by simpa using e1
          clear hx hy
          go_wp2_with fail
          go_quiet (fail)
          go_wp2
          go_ret
          exact ⟨ret_bool R.out.symm, below_drewN hbr nq⟩
      · obtain rfl : k = a.length := by omega
        have R := Lib.hid (show decide (a = b) = true from decide_eq_true (by have := HO.out; rw [List.take_length, HL.out, List.take_length] at this; exact this))
        go_wp2
        go_ret
        exact ⟨ret_bool R.out.symm, hbr⟩
  · have hq : ((a.length : Int) != (b.length : Int)) = true := by simp; omega
    have R := Lib.hid (show decide (a = b) = false from decide_eq_false fun e => hl (by rw [e]))
    clear ha hb
    go_enter Try.func12, Try.ntmps12
    go_wp2
    go_ret
    exact ⟨ret_bool R.out.symm, Below.refl _ _⟩

/-- the combination, handed back -/
theorem comb_nfr {a b : List Iv} {way : Int} {S : Int → Prop} (hS : ∀ t, In a b way t ↔ S t) {w w' : World} {e : Ending} (h : ∃ A' c', e = .returned (.slice A' (combL a b way).length c') ∧ Own 25 encIv 2 w' w.heap.size A' c' (combL a b way) ∧ Below w.heap.size w w') : NFr S w w' e := by
  obtain ⟨A, c, he, ho, hb⟩ := h
  have hc := combL_holds a b way
  exact ⟨A, c, _, he, hc.1, fun t => (hc.2 t).trans (hS t), ho, hb⟩
theorem rnormal_any {A : Option Addr} (c : Nat) {l : List Iv} {w : World} (h : Rd encIv 2 w w.heap.size A l) (hl : l.length ≤ 10000000000) :
    Calls Try.prog 14 #[.slice A l.length c] w fun e w' => NFr (Mem l) w w' e := by
  have C := Lib.hid ((rcombine_any A c l none 0 [] 1 w h Rd.nil hl (by simp)).mono fun e w' hh => comb_nfr (S := Mem l) (fun t => by simp [In, Mem.nil]) hh)
  clear h
  go_enter Try.func14, Try.ntmps14
  go_wp2_with fail
  refine C.out.mono ?_
  rintro e w' ⟨A', c', n, rfl, h1, h2, h3, h4⟩
  have H2 := Lib.hid h2
  clear h2
  go_wp2_with fail
  go_ret
  exact ⟨A', c', n, rfl, h1, H2.out, h3, h4⟩
theorem runion_any {A B : Option Addr} (c d : Nat) {a b : List Iv} {w : World} (ha : Rd encIv 2 w w.heap.size A a) (hb : Rd encIv 2 w w.heap.size B b) (hla : a.length ≤ 10000000000) (hlb : b.length ≤ 10000000000) :
    Calls Try.prog 17 #[.slice A a.length c, .slice B b.length d] w fun e w' => NFr (fun t => Mem a t ∨ Mem b t) w w' e := by
  have C := Lib.hid ((rcombine_any A c a B d b 1 w ha hb hla hlb).mono fun e w' hh => comb_nfr (S := fun t => Mem a t ∨ Mem b t) (fun t => by simp [In]) hh)
  clear ha hb
  go_enter Try.func17, Try.ntmps17
  go_wp2_with fail
  refine C.out.mono ?_
  rintro e w' ⟨A', c', n, rfl, h1, h2, h3, h4⟩
  have H2 := Lib.hid h2
  clear h2
  go_wp2_with fail
  go_ret
  exact ⟨A', c', n, rfl, h1, H2.out, h3, h4⟩
theorem rmeet_any {A B : Option Addr} (c d : Nat) {a b : List Iv} {w : World} (ha : Rd encIv 2 w w.heap.size A a) (hb : Rd encIv 2 w w.heap.size B b) (hla : a.length ≤ 10000000000) (hlb : b.length ≤ 10000000000) :
    Calls Try.prog 19 #[.slice A a.length c, .slice B b.length d] w fun e w' => NFr (fun t => Mem a t ∧ Mem b t) w w' e := by
  have C := Lib.hid ((rcombine_any A c a B d b 2 w ha hb hla hlb).mono fun e w' hh => comb_nfr (S := fun t => Mem a t ∧ Mem b t) (fun t => by simp [In]) hh)
  clear ha hb
  go_enter Try.func19, Try.ntmps19
  go_wp2_with fail
  refine C.out.mono ?_
  rintro e w' ⟨A', c', n, rfl, h1, h2, h3, h4⟩
  have H2 := Lib.hid h2
  clear h2
  go_wp2_with fail
  go_ret
  exact ⟨A', c', n, rfl, h1, H2.out, h3, h4⟩
theorem rminus_any {A B : Option Addr} (c d : Nat) {a b : List Iv} {w : World} (ha : Rd encIv 2 w w.heap.size A a) (hb : Rd encIv 2 w w.heap.size B b) (hla : a.length ≤ 10000000000) (hlb : b.length ≤ 10000000000) :
    Calls Try.prog 21 #[.slice A a.length c, .slice B b.length d] w fun e w' => NFr (fun t => Mem a t ∧ ¬ Mem b t) w w' e := by
  have C := Lib.hid ((rcombine_any A c a B d b 3 w ha hb hla hlb).mono fun e w' hh => comb_nfr (S := fun t => Mem a t ∧ ¬ Mem b t) (fun t => by simp [In]) hh)
  clear ha hb
  go_enter Try.func21, Try.ntmps21
  go_wp2_with fail
  refine C.out.mono ?_
  rintro e w' ⟨A', c', n, rfl, h1, h2, h3, h4⟩
  have H2 := Lib.hid h2
  clear h2
  go_wp2_with fail
  go_ret
  exact ⟨A', c', n, rfl, h1, H2.out, h3, h4⟩

set_option maxHeartbeats 1000000 in
theorem rlength_any {A : Option Addr} (c : Nat) {l : List Iv} {w : World} (h : Rd encIv 2 w w.heap.size A l) (hl : l.length ≤ 10000000000) :
    Calls Try.prog 23 #[.slice A l.length c] w fun e w' => ∃ n, e = .returned (.int .i64 (len n)) ∧ NF n ∧ (∀ t, Mem n t ↔ Mem l t) ∧ Below w.heap.size w w' := by
  have C1 := Lib.hid (rnormal_any c h hl)
  clear h
  go_enter Try.func23, Try.ntmps23
  go_wp2_with fail
  refine C1.out.mono ?_
  rintro e w2 ⟨A2, c2, n, rfl, hn, hm, hon, hb2⟩
  have HM := Lib.hid hm
  have hrd := Lib.hid (hon.rd encIv_ok)
  have hln := hn.length_max
  have HN := Lib.hid hn
  clear C1 hm hon hn
  go_wp2_with fail
  go_loopw [3, 5] (fun v i wr => ∃ (k : Nat) (q : Int), k ≤ n.length ∧ i = .int .i64 k ∧ Hid (len (n.take k) = q) ∧ v = .int .i64 q ∧ Below w2.heap.size w2 wr) (fun _ i _ => n.length - (intOf i).toNat)
  case atStart => exact ⟨0, 0, Nat.zero_le _, rfl, rfl, rfl, Below.refl _ _⟩
  case round =>
    obtain ⟨k, q, hk, rfl, HO, rfl, hbr⟩ := hrel
    have hq := len_bounds (HN.out.take k)
    rw [HO.out] at hq
    obtain ⟨hq1, hq2⟩ := hq
    by_cases hlt : k < n.length
    · obtain ⟨g, off, f, u, rfl, hg, hx, hc0, hc1⟩ := (hrd.out.keep hbr).iv hlt
      have hv := HN.out.1 _ (List.mem_of_getElem? hx)
      unfold vld at hv
      simp only at hv
      obtain ⟨hv1, hv2, hv3⟩ := hv
      have R := Lib.hid (show len (n.take (k + 1)) = q + u - f by rw [take_snoc hx, len_snoc, HO.out]; simp only; omega)
      have hk1 : (0 : Int) ≤ (k : Int) := by omega
      have hk2 : (k : Int) < (n.length : Int) := by omega
      have hw1 : IntKind.i64.wrap (q + u) = q + u := IntWalk.i64_in _ (by omega)
      have hw2 : IntKind.i64.wrap (q + u - f) = q + u - f := IntWalk.i64_in _ (by omega)
      clear hx HO
      go_wp2_with fail
      go_quiet (fail)
      clear hw1 hw2
      go_wp2
      go_roundw
      case rel => exact ⟨k + 1, _, by omega, by go_num, R, rfl, below_drewN hbr nq⟩
      case measure => simp [intOf]; omega
    · obtain rfl : k = n.length := by omega
      have R := Lib.hid (show len n = q by have := HO.out; rwa [List.take_length] at this)
      clear HO
      go_wp2
      go_ret
      exact ⟨n, ret_int R.out.symm, HN.out, HM.out, hb2.trans (hbr.mono hb2.size)⟩

set_option maxHeartbeats 1000000 in
theorem rcovers_any {A : Option Addr} (c : Nat) {l : List Iv} (i : Iv) {w : World} (h : Rd encIv 2 w w.heap.size A l) (hl : l.length ≤ 10000000000) :
    Calls Try.prog 27 #[.slice A l.length c, .agg #[.int .i64 i.1, .int .i64 i.2]] w fun e w' => ∃ b : Bool, e = .returned (.bool b) ∧ (b = true ↔ vld i ∧ ∀ t, i.1 ≤ t → t < i.2 → Mem l t) ∧ Below w.heap.size w w' := by
  obtain ⟨f, u⟩ := i
  have hb0 := ((Below.refl w.heap.size w).al (.cells #[.int .i64 f, .int .i64 u] 25)).al (.cells #[.int .i64 f, .int .i64 u] 25)
  have hb1 := hb0.al (.cells #[.int .i64 f, .int .i64 u] 25)
  have hz0 : ((w.alloc (.cells #[.int .i64 f, .int .i64 u] 25)).alloc (.cells #[.int .i64 f, .int .i64 u] 25)).heap.size = w.heap.size + 2 := by simp
  cases hv : validB f u
  · have hvl : ¬ vld (f, u) := fun k => by rw [(validB_iff f u).2 k] at hv; cases hv
    go_enter Try.func27, Try.ntmps27
    go_wp2_with (go_at_call 11; refine (rvalid_any _ _ _).mono ?_; rintro e w' ⟨rfl, rfl⟩)
    go_ret
    exact ⟨false, rfl, by simp [hvl], hb0⟩
  · have hvl : vld (f, u) := (validB_iff f u).1 hv
    have HV := Lib.hid hvl
    have hone : Rd encIv 2 (((w.alloc (.cells #[.int .i64 f, .int .i64 u] 25)).alloc (.cells #[.int .i64 f, .int .i64 u] 25)).alloc (.cells #[.int .i64 f, .int .i64 u] 25)) (((w.alloc (.cells #[.int .i64 f, .int .i64 u] 25)).alloc (.cells #[.int .i64 f, .int .i64 u] 25)).alloc (.cells #[.int .i64 f, .int .i64 u] 25)).heap.size (some ⟨w.heap.size + 2, 0, none⟩) [((f, u) : Iv)] := by
      exact (Own.lit (e := 25) _ 0 [((f, u) : Iv)] encIv_ok rfl hz0 (Nat.zero_le _) (by simp)).rd encIv_ok
    have C := Lib.hid (rminus_any 1 c hone ((h.keep hb1).more hb1.size) (by simp) hl)
    have hres : ∀ n : List Iv, NF n → (∀ t, Mem n t ↔ (Mem [((f, u) : Iv)] t ∧ ¬ Mem l t)) → (n = [] ↔ vld (f, u) ∧ ∀ t, f ≤ t → t < u → Mem l t) := by
      intro n hn hm
      rw [hn.empty_iff]
      constructor
      · intro h1
        refine ⟨HV.out, fun t a b => ?_⟩
        rcases Classical.em (Mem l t) with k | k
        · exact k
        · exact absurd ((hm t).2 ⟨(Mem.cons _ _ _).2 (.inl ⟨HV.out, a, b⟩), k⟩) (h1 t)
      · rintro ⟨_, h2⟩ t h3
        have := (hm t).1 h3
        rw [Mem.cons] at this
        rcases this.1 with ⟨_, a, b⟩ | k
        · exact this.2 (h2 t a b)
        · exact Mem.nil t k
    have HR := Lib.hid hres
    clear h hvl hone hres
    go_enter Try.func27, Try.ntmps27
    go_wp2_with (go_at_call 11; refine (rvalid_any _ _ _).mono ?_; rintro e w' ⟨rfl, rfl⟩)
    refine C.out.mono ?_
    rintro e w2 ⟨A2, c2, n, rfl, hn, hm, hon, hb2⟩
    have HM := Lib.hid (HR.out n hn hm)
    clear hm C
    go_wp2_with fail
    go_ret
    refine ⟨decide (n = []), ret_bool ?_, by rw [decide_eq_true_eq]; exact HM.out, hb1.trans (hb2.mono hb1.size)⟩
    rw [Bool.eq_iff_iff]
    cases n with
    | nil => simp
    | cons x n => simp; omega
end Go.Proofs.Ytkipbmcahkacmaa
