/- The reference's functions of chapter 05, walked: Valid, Has, in, put, ends. -/
import Derived.Test.YtkipbmcahkacmaaProg
import Derived.Test.YtkipbmcahkacmaaBase
import Derived.Test.YtkipbmcahkacmaaSpanMath
import Derived.Outline
namespace Go.Proofs.Ytkipbmcahkacmaa
open Go.RowKit Go.Lib

def encIv (x : Iv) : List Value := [.int .i64 x.1, .int .i64 x.2]
theorem encIv_ok : Enc encIv 2 := ⟨fun _ => rfl, fun x u hu => by simp [encIv] at hu; rcases hu with rfl | rfl <;> rfl⟩
def encI (x : Int) : List Value := [.int .i64 x]
theorem encI_ok : Enc encI 1 := ⟨fun _ => rfl, fun x u hu => by simp [encI] at hu; subst hu; rfl⟩
theorem tyIv : TyS Try.prog 22 25 2 16 := TyS.mk' (z := .agg #[.int .i64 0, .int .i64 0]) Try.underlying22 (by kernel_rfl) rfl (by omega)
theorem tyI : TyS Try.prog 47 3 1 8 := TyS.mk' (z := .int .i64 0) Try.underlying47 (by kernel_rfl) rfl (by omega)
theorem Rd.iv {w : World} {B : Nat} {A : Option Addr} {l : List Iv} (h : Rd encIv 2 w B A l) {i : Nat} (hi : i < l.length) :
    ∃ b off f t, A = some ⟨b, off, none⟩ ∧ b < B ∧ l[i]? = some (f, t) ∧ w.cell? ⟨b, off + i * 2, none⟩ = some (.int .i64 f) ∧ w.cell? ⟨b, off + i * 2 + 1, none⟩ = some (.int .i64 t) := by
  obtain ⟨b, off, ⟨f, t⟩, hA, hb, hx, hc⟩ := h.at_ hi
  exact ⟨b, off, f, t, hA, hb, hx, hc 0 _ rfl, hc 1 _ rfl⟩
theorem Rd.i {w : World} {B : Nat} {A : Option Addr} {l : List Int} (h : Rd encI 1 w B A l) {i : Nat} (hi : i < l.length) :
    ∃ b off x, A = some ⟨b, off, none⟩ ∧ b < B ∧ l[i]? = some x ∧ w.cell? ⟨b, off + i, none⟩ = some (.int .i64 x) := by
  obtain ⟨b, off, x, hA, hb, hx, hc⟩ := h.at_ hi
  exact ⟨b, off, x, hA, hb, hx, by simpa using hc 0 _ rfl⟩
theorem take_snoc {α : Type} {l : List α} {k : Nat} {x : α} (h : l[k]? = some x) : l.take (k + 1) = l.take k ++ [x] := by
  rw [List.take_add_one, h]; rfl

theorem rvalid_any (f t : Int) (w : World) :
    Calls Try.prog 11 #[.agg #[.int .i64 f, .int .i64 t]] w fun e w' => e = .returned (.bool (validB f t)) ∧ w.alloc (.cells #[.int .i64 f, .int .i64 t] 25) = w' := by
  unfold validB
  go_enter Try.func11, Try.ntmps11
  go_wp2
  all_goals (go_ret; exact ⟨ret_bool (by rw [Bool.eq_iff_iff]; simp; omega), rfl⟩)

set_option maxHeartbeats 800000 in
theorem rhas_any (A : Option Addr) (c : Nat) (l : List Iv) (t : Int) (w : World) (h : Rd encIv 2 w w.heap.size A l) (hl : l.length ≤ 1000000000000) :
    Calls Try.prog 25 #[.slice A l.length c, .int .i64 t] w fun e w' => e = .returned (.bool (hasB l t)) ∧ Below w.heap.size w w' := by
  go_enter Try.func25, Try.ntmps25
  go_wp2
  go_loopw [5] (fun i wr => ∃ k : Nat, k ≤ l.length ∧ i = .int .i64 k ∧ hasB (l.take k) t = false ∧ Below w.heap.size w wr) (fun i _ => l.length - (intOf i).toNat)
  case atStart => exact ⟨0, Nat.zero_le _, rfl, rfl, Below.refl _ _⟩
  case round =>
    obtain ⟨k, hk, rfl, hno, hbel⟩ := hrel
    by_cases hlt : k < l.length
    · obtain ⟨b, off, f, u, rfl, hb, hx, hc0, hc1⟩ := (h.keep hbel).iv hlt
      clear h
      have hb' : b < wr.heap.size := Nat.lt_of_lt_of_le hb hbel.size
      have hbal : Below w.heap.size w (wr.alloc (.cells #[.int .i64 f, .int .i64 u] 25)) := hbel.alloc hbel.size _
      have hsn : hasB (l.take (k + 1)) t = (validB f u && decide (f ≤ t) && decide (t < u)) := by
        rw [take_snoc hx]; unfold hasB at *; rw [List.any_append, hno]; simp
      have hall : hasB (l.take (k + 1)) t = true → hasB l t = true := fun hh => by
        unfold hasB at *
        rw [List.any_eq_true] at *
        obtain ⟨x, hx, hp⟩ := hh
        exact ⟨x, List.mem_of_mem_take hx, hp⟩
      have Hno := Lib.hid hno; clear hno
      have Hx := Lib.hid hx; clear hx
      have Hs := Lib.hid hsn; clear hsn
      have Ha := Lib.hid hall; clear hall
      cases hv : validB f u
      · go_wp2_with (go_at_call 11; refine (rvalid_any _ _ _).mono ?_; rintro e w' ⟨rfl, rfl⟩)
        go_roundw
        case rel => exact ⟨k + 1, by omega, by go_num, by rw [Hs.out, hv]; rfl, hbal⟩
        case measure => simp [intOf]; omega
      · by_cases h1 : f ≤ t
        · by_cases h2 : t < u
          · go_wp2_with (go_at_call 11; refine (rvalid_any _ _ _).mono ?_; rintro e w' ⟨rfl, rfl⟩)
            go_ret
            exact ⟨ret_bool (Ha.out (by rw [Hs.out, hv, decide_eq_true h1, decide_eq_true h2]; rfl)).symm, hbal⟩
          · go_wp2_with (go_at_call 11; refine (rvalid_any _ _ _).mono ?_; rintro e w' ⟨rfl, rfl⟩)
            go_roundw
            case rel => exact ⟨k + 1, by omega, by go_num, by rw [Hs.out, decide_eq_false (show ¬ t < u by omega), Bool.and_false], hbal⟩
            case measure => simp [intOf]; omega
        · go_wp2_with (go_at_call 11; refine (rvalid_any _ _ _).mono ?_; rintro e w' ⟨rfl, rfl⟩)
          go_roundw
          case rel => exact ⟨k + 1, by omega, by go_num, by rw [Hs.out, decide_eq_false (show ¬ f ≤ t by omega), Bool.and_false, Bool.false_and], hbal⟩
          case measure => simp [intOf]; omega
    · obtain rfl : k = l.length := by omega
      have Hno := Lib.hid hno; clear hno
      go_wp2
      go_ret
      exact ⟨ret_bool (by have := Hno.out; rw [List.take_length] at this; exact this.symm), hbel⟩

theorem rin_any (A B : Option Addr) (c d : Nat) (a b : List Iv) (t way : Int) (w : World) (ha : Rd encIv 2 w w.heap.size A a) (hb : Rd encIv 2 w w.heap.size B b) (hla : a.length ≤ 1000000000000) (hlb : b.length ≤ 1000000000000) :
    Calls Try.prog 40 #[.slice A a.length c, .slice B b.length d, .int .i64 t, .int .i64 way] w fun e w' => e = .returned (.bool (inB a b way t)) ∧ Below w.heap.size w w' := by
  have h1 : way = 1 ∨ way = 2 ∨ (way ≠ 1 ∧ way ≠ 2) := by omega
  have key : ∀ p q : Bool, hasB a t = p → hasB b t = q → Calls Try.prog 40 #[.slice A a.length c, .slice B b.length d, .int .i64 t, .int .i64 way] w fun e w' => e = .returned (.bool (inB a b way t)) ∧ Below w.heap.size w w' := by
    intro p q hp hq
    have hfin : inB a b way t = if way = 1 then p || q else if way = 2 then p && q else p && !q := by unfold inB; rw [hp, hq]
    have Hp := Lib.hid hp
    have Hq := Lib.hid hq
    have Hf := Lib.hid hfin
    clear hp hq hfin
    have c1 := rhas_any A c a t w ha hla
    have c2 : ∀ w1, Below w.heap.size w w1 → Calls Try.prog 25 #[.slice B b.length d, .int .i64 t] w1 fun e w' => e = .returned (.bool q) ∧ Below w1.heap.size w1 w' := fun w1 hb1 => by
      have := rhas_any B d b t w1 ((hb.keep hb1).more hb1.size) hlb
      rwa [Hq.out] at this
    rw [Hp.out] at c1
    have C1 := Lib.hid c1
    have C2 := Lib.hid c2
    clear c1 c2 ha hb
    have t1 : way = 1 → ((way : Int) == 1) = true := fun h => by simp [h]
    have t2 : way ≠ 1 → ((way : Int) == 1) = false := fun h => by simpa using h
    have t3 : way = 2 → ((way : Int) == 2) = true := fun h => by simp [h]
    have t4 : way ≠ 2 → ((way : Int) == 2) = false := fun h => by simpa using h
    rcases h1 with h1 | h1 | h1
    all_goals
      have H1 := Lib.hid h1
      first | (have q1 := t1 H1.out) | (have q1 := t2 (by have := H1.out; omega); have q2 := t3 H1.out) | (have q1 := t2 H1.out.1; have q2 := t4 H1.out.2)
      clear h1 t1 t2 t3 t4
      cases p <;> cases q
      all_goals
        go_enter Try.func40, Try.ntmps40
        go_wp2_with fail
        refine C1.out.mono ?_
        rintro e w1 ⟨rfl, hb1⟩
        go_wp2_with fail
        refine (C2.out w1 hb1).mono ?_
        rintro e w2 ⟨rfl, hb2⟩
        go_wp2_with fail
        go_ret
        refine ⟨ret_bool ?_, hb1.trans (hb2.mono hb1.size)⟩
        rw [Hf.out]
        have := H1.out
        simp [this]
  exact key _ _ rfl rfl
end Go.Proofs.Ytkipbmcahkacmaa
