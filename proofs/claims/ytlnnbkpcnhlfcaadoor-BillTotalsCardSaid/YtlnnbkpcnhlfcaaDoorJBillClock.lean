/- Joined texts: BillClock, BillConf, BillFew. -/
import Derived.Test.YtlnnbkpcnhlfcaaDoorJRelMath
import Derived.Test.YtlnnbkpcnhlfcaaDoorProg
import Derived.Test.YtlnnbkpcnhlfcaaDoorJCapMath
import Derived.Test.YtlnnbkpcnhlfcaaDoorJInts
import Derived.IntWalk
import Derived.BigRegion
import Derived.BigQuiet
import Derived.Test.YtlnnbkpcnhlfcaaDoorJBox
import Derived.Test.YtlnnbkpcnhlfcaaDoorJName
/- Days, years and months, walked: the clock's and the reference's. -/
set_option linter.unusedSimpArgs false
namespace Go.Proofs.YtlnnbkpcnhlfcaaDoor
open Go.RowKit Go.Lib

/-- the table of the months, as it was laid -/
def monL : List Int := [31, 28, 31, 30, 31, 30, 31, 31, 30, 31, 30, 31]
def Mon (w : World) : Prop := 0 < w.heap.size ∧ ∀ k : Nat, ∀ v : Int, monL[k]? = some v → w.cell? ⟨0, k, none⟩ = some (.int .i64 v)
theorem Mon.st {w w' : World} (h : Mon w) {B : Nat} (hb : Below B w w') (hB : 0 < B) : Mon w' := ⟨Nat.lt_of_lt_of_le h.1 hb.size, fun k v hv => (World.cell?_of_block (hb.block 0 hB)).trans (h.2 k v hv)⟩
theorem Mon.at {w : World} (h : Mon w) (y m : Int) (h1 : 1 ≤ m) (h2 : m ≤ 12) (hn : ¬ (m = 2 ∧ leapB y = true)) : w.cell? ⟨0, (m - 1).toNat, none⟩ = some (.int .i64 (lenM y m)) := by
  rcases (by omega : m = 1 ∨ m = 2 ∨ m = 3 ∨ m = 4 ∨ m = 5 ∨ m = 6 ∨ m = 7 ∨ m = 8 ∨ m = 9 ∨ m = 10 ∨ m = 11 ∨ m = 12) with rfl | rfl | rfl | rfl | rfl | rfl | rfl | rfl | rfl | rfl | rfl | rfl
  case inr.inl =>
    have e : leapB y = false := by cases q : leapB y; rfl; exact absurd ⟨rfl, q⟩ hn
    have : lenM y 2 = 28 := by unfold lenM; rw [e]; rfl
    rw [this]; exact h.2 1 28 rfl
  all_goals (first | exact h.2 0 _ rfl | exact h.2 2 _ rfl | exact h.2 3 _ rfl | exact h.2 4 _ rfl | exact h.2 5 _ rfl | exact h.2 6 _ rfl | exact h.2 7 _ rfl | exact h.2 8 _ rfl | exact h.2 9 _ rfl | exact h.2 10 _ rfl | exact h.2 11 _ rfl)

theorem ret_b {a b : Bool} (h : a = b) : (Ending.returned (.bool a)) = .returned (.bool b) := by rw [h]
theorem cisTime_any (t : Int) (w : World) : Calls Tryd.prog 55 #[.int .i64 t] w fun e w' => e = .returned (.bool (decide (0 ≤ t ∧ t < 68719476736))) ∧ w' = w := by
  go_enter Tryd.func55, Tryd.ntmps55
  go_wp2
  all_goals (go_ret; exact ⟨ret_b (by rw [Bool.eq_iff_iff]; simp <;> omega), rfl⟩)
theorem cisDay_any (d : Int) (w : World) : Calls Tryd.prog 56 #[.int .i64 d] w fun e w' => e = .returned (.bool (decide (0 ≤ d ∧ d < 795364))) ∧ w' = w := by
  go_enter Tryd.func56, Tryd.ntmps56
  go_wp2
  all_goals (go_ret; exact ⟨ret_b (by rw [Bool.eq_iff_iff]; simp <;> omega), rfl⟩)
theorem risTime_any (t : Int) (w : World) : Calls Tryd.prog 62 #[.int .i64 t] w fun e w' => e = .returned (.bool (decide (0 ≤ t ∧ t < 68719476736))) ∧ w' = w := by
  go_enter Tryd.func62, Tryd.ntmps62
  go_wp2
  all_goals (go_ret; exact ⟨ret_b (by rw [Bool.eq_iff_iff]; simp <;> omega), rfl⟩)
theorem risDay_any (d : Int) (w : World) : Calls Tryd.prog 59 #[.int .i64 d] w fun e w' => e = .returned (.bool (decide (0 ≤ d ∧ d < 795364))) ∧ w' = w := by
  go_enter Tryd.func59, Tryd.ntmps59
  go_wp2
  all_goals (go_ret; exact ⟨ret_b (by rw [Bool.eq_iff_iff]; simp <;> omega), rfl⟩)
theorem cday_any (t : Int) (w : World) : Calls Tryd.prog 33 #[.int .i64 t] w fun e w' => e = .returned (.int .i64 (dayN t)) ∧ w' = w := by
  unfold dayN
  by_cases h : 0 ≤ t ∧ t < 68719476736
  · rw [if_pos h]
    have e : t.tdiv 86400 = t / 86400 := Int.tdiv_eq_ediv_of_nonneg h.1
    go_enter Tryd.func33, Tryd.ntmps33
    go_wp2_with (go_at_call 55; refine (cisTime_any _ _).mono ?_; rw [decide_eq_true h]; rintro e w' ⟨rfl, rfl⟩)
    go_ret
    exact ⟨rfl, rfl⟩
  · rw [if_neg h]
    go_enter Tryd.func33, Tryd.ntmps33
    go_wp2_with (go_at_call 55; refine (cisTime_any _ _).mono ?_; rw [decide_eq_false h]; rintro e w' ⟨rfl, rfl⟩)
    go_ret
    exact ⟨rfl, rfl⟩
theorem rday_any (t : Int) (w : World) : Calls Tryd.prog 36 #[.int .i64 t] w fun e w' => e = .returned (.int .i64 (dayN t)) ∧ w' = w := by
  unfold dayN
  by_cases h : 0 ≤ t ∧ t < 68719476736
  · rw [if_pos h]
    have e : t.tdiv 86400 = t / 86400 := Int.tdiv_eq_ediv_of_nonneg h.1
    go_enter Tryd.func36, Tryd.ntmps36
    go_wp2_with (go_at_call 62; refine (risTime_any _ _).mono ?_; rw [decide_eq_true h]; rintro e w' ⟨rfl, rfl⟩)
    go_ret
    exact ⟨rfl, rfl⟩
  · rw [if_neg h]
    go_enter Tryd.func36, Tryd.ntmps36
    go_wp2_with (go_at_call 62; refine (risTime_any _ _).mono ?_; rw [decide_eq_false h]; rintro e w' ⟨rfl, rfl⟩)
    go_ret
    exact ⟨rfl, rfl⟩
theorem cleap_any (y : Int) (hy : 0 ≤ y) (w : World) : Calls Tryd.prog 57 #[.int .i64 y] w fun e w' => e = .returned (.bool (leapB y)) ∧ w' = w := by
  have e1 : y.tmod 4 = y % 4 := Int.tmod_eq_emod_of_nonneg hy
  have e2 : y.tmod 100 = y % 100 := Int.tmod_eq_emod_of_nonneg hy
  have e3 : y.tmod 400 = y % 400 := Int.tmod_eq_emod_of_nonneg hy
  unfold leapB
  go_enter Tryd.func57, Tryd.ntmps57
  go_wp2
  all_goals (go_ret; exact ⟨ret_b (by rw [Bool.eq_iff_iff]; simp <;> omega), rfl⟩)
theorem rleap_any (y : Int) (hy : 0 ≤ y) (w : World) : Calls Tryd.prog 85 #[.int .i64 y] w fun e w' => e = .returned (.bool (leapB y)) ∧ w' = w := by
  have e1 : y.tmod 4 = y % 4 := Int.tmod_eq_emod_of_nonneg hy
  have e2 : y.tmod 100 = y % 100 := Int.tmod_eq_emod_of_nonneg hy
  have e3 : y.tmod 400 = y % 400 := Int.tmod_eq_emod_of_nonneg hy
  unfold leapB
  go_enter Tryd.func85, Tryd.ntmps85
  go_wp2
  all_goals (go_ret; exact ⟨ret_b (by rw [Bool.eq_iff_iff]; simp <;> omega), rfl⟩)
theorem ryear_any (y : Int) (hy : 0 ≤ y) (w : World) : Calls Tryd.prog 60 #[.int .i64 y] w fun e w' => e = .returned (.int .i64 (yearN y)) ∧ w' = w := by
  unfold yearN
  have CL := Lib.hid (rleap_any y hy w)
  cases h : leapB y
  all_goals
    rw [h] at CL
    clear h
    go_enter Tryd.func60, Tryd.ntmps60
    go_wp2_with fail
    refine CL.out.mono ?_
    rintro e w' ⟨rfl, rfl⟩
    go_wp2_with fail
    go_ret
    exact ⟨rfl, rfl⟩
theorem rlen_any (y m : Int) (hy : 0 ≤ y) (w : World) : Calls Tryd.prog 61 #[.int .i64 y, .int .i64 m] w fun e w' => e = .returned (.int .i64 (lenM y m)) ∧ w' = w := by
  unfold lenM
  have CL := Lib.hid (rleap_any y hy w)
  by_cases hm : m = 2
  · subst hm
    rw [if_pos rfl]
    cases h : leapB y
    all_goals
      rw [h] at CL
      clear h
      go_enter Tryd.func61, Tryd.ntmps61
      go_wp2_with fail
      refine CL.out.mono ?_
      rintro e w' ⟨rfl, rfl⟩
      go_wp2_with fail
      go_ret
      exact ⟨rfl, rfl⟩
  · rw [if_neg hm]
    by_cases h4 : m = 4 ∨ m = 6 ∨ m = 9 ∨ m = 11
    · rw [if_pos h4]
      rcases h4 with rfl | rfl | rfl | rfl
      all_goals
        go_enter Tryd.func61, Tryd.ntmps61
        go_wp2_with fail
        go_ret
        exact ⟨rfl, rfl⟩
    · rw [if_neg h4]
      have k2 : (m == 2) = false := by simp; omega
      have k4 : (m == 4) = false := by simp; omega
      have k6 : (m == 6) = false := by simp; omega
      have k9 : (m == 9) = false := by simp; omega
      have k11 : (m == 11) = false := by simp; omega
      go_enter Tryd.func61, Tryd.ntmps61
      go_wp2_with fail
      go_ret
      exact ⟨rfl, rfl⟩
theorem clen_any (y m : Int) (hy : 0 ≤ y) (h1 : 1 ≤ m) (h2 : m ≤ 12) (w : World) (hw : Mon w) : Calls Tryd.prog 58 #[.int .i64 y, .int .i64 m] w fun e w' => e = .returned (.int .i64 (lenM y m)) ∧ w' = w := by
  have CL := Lib.hid (cleap_any y hy w)
  by_cases hm : m = 2
  · subst hm
    cases h : leapB y
    · have R : Hid (lenM y 2 = 28) := Lib.hid (by unfold lenM; rw [h]; rfl)
      have c : w.cell? ⟨0, 1, none⟩ = some (.int .i64 28) := hw.2 1 28 rfl
      rw [h] at CL
      clear h
      go_enter Tryd.func58, Tryd.ntmps58
      go_wp2_with fail
      refine CL.out.mono ?_
      rintro e w' ⟨rfl, rfl⟩
      go_wp2_with fail
      go_ret
      rw [R.out]; exact ⟨rfl, rfl⟩
    · have R : Hid (lenM y 2 = 29) := Lib.hid (by unfold lenM; rw [h]; rfl)
      rw [h] at CL
      clear h
      go_enter Tryd.func58, Tryd.ntmps58
      go_wp2_with fail
      refine CL.out.mono ?_
      rintro e w' ⟨rfl, rfl⟩
      go_wp2_with fail
      go_ret
      rw [R.out]; exact ⟨rfl, rfl⟩
  · have c := hw.at y m h1 h2 (fun q => hm q.1)
    have k2 : (m == 2) = false := by simp; omega
    have hwr : IntKind.i64.wrap (m - 1) = m - 1 := IntWalk.i64_in _ (by omega)
    generalize lenM y m = r at *
    obtain ⟨j, hj⟩ : ∃ j : Nat, m = (j : Int) + 1 := ⟨(m - 1).toNat, by omega⟩
    subst hj
    rw [show ((j : Int) + 1 - 1).toNat = j by omega] at c
    have hj0 : (j : Int) + 1 - 1 = (j : Int) := by omega
    have hj1 : (j : Int) < 12 := by omega
    rw [hj0] at hwr
    go_enter Tryd.func58, Tryd.ntmps58
    go_wp2_with fail
    go_ret
    exact ⟨rfl, rfl⟩
end Go.Proofs.YtlnnbkpcnhlfcaaDoor
/- The law's conf, walked; what lies in memory when bills are made. -/
set_option linter.unusedSimpArgs false
namespace Go.Proofs.YtlnnbkpcnhlfcaaDoor
open Go.RowKit Go.Lib

/-- accounts, caps, charges, the months, in memory -/
structure BLO (w : World) (aA : Option Addr) (ac : Nat) (acs : List Ac) (cA : Option Addr) (caps : List Cp) (A : Option Addr) (l : List Cg) : Prop where
  al : AL w aA ac acs
  sm : smL acs
  cp : Rd encCp 4 w w.heap.size cA caps
  cl : Rd encCg 7 w w.heap.size A l
  rs : CgRs w l
  mon : Mon w
  cpl : caps.length ≤ 1000
  cll : l.length ≤ 1000
  nms : ∀ a ∈ acs, a.v.name.size ≤ 1000
theorem BLO.st {w w' : World} {aA : Option Addr} {ac : Nat} {acs : List Ac} {cA : Option Addr} {caps : List Cp} {A : Option Addr} {l : List Cg} (h : BLO w aA ac acs cA caps A l) (hb : Below w.heap.size w w') : BLO w' aA ac acs cA caps A l :=
  ⟨h.al.st hb, h.sm, h.cp.st hb, h.cl.st hb, h.rs.st hb, h.mon.st hb h.mon.1, h.cpl, h.cll, h.nms⟩

set_option maxRecDepth 100000 in
set_option maxHeartbeats 4000000 in
theorem conf_any {aA cA A : Option Addr} {acs : List Ac} {caps : List Cp} {l : List Cg} (ac cc c : Nat) (w : World) :
    Calls Tryd.prog 19 #[.agg #[.slice aA acs.length ac, .slice cA caps.length cc, .slice A l.length c]] w fun e w' => e = .returned (.agg #[.slice none 0 0, .slice none 0 0, .slice none 0 0, .slice none 0 0, .slice none 0 0, .slice none 0 0, .int .i64 0, .int .i64 0, .slice none 0 0, .int .i64 0, .slice none 0 0, .slice none 0 0, .slice none 0 0, .slice none 0 0, .slice cA caps.length cc, .slice none 0 0, .slice none 0 0, .slice aA acs.length ac, .slice none 0 0, .slice none 0 0, .slice none 0 0, .slice none 0 0, .int .i64 0, .slice none 0 0, .string ⟨#[]⟩]) ∧ Below w.heap.size w w' := by
  obtain ⟨Y1, hY1⟩ : ∃ Y, w.alloc (.cells #[.slice aA acs.length ac, .slice cA caps.length cc, .slice A l.length c] 35) = Y := ⟨_, rfl⟩
  obtain ⟨Y2, hY2⟩ : ∃ Y, Y1.alloc (.cells #[.slice none 0 0, .slice none 0 0, .slice none 0 0, .slice none 0 0, .slice none 0 0, .slice none 0 0, .int .i64 0, .int .i64 0, .slice none 0 0, .int .i64 0, .slice none 0 0, .slice none 0 0, .slice none 0 0, .slice none 0 0, .slice none 0 0, .slice none 0 0, .slice none 0 0, .slice none 0 0, .slice none 0 0, .slice none 0 0, .slice none 0 0, .slice none 0 0, .int .i64 0, .slice none 0 0, .string ⟨#[]⟩] 62) = Y := ⟨_, rfl⟩
  have s1 : Y1.heap.size = w.heap.size + 1 := by rw [← hY1]; simp
  have bW : Below w.heap.size w Y2 := by rw [← hY2, ← hY1]; exact ((Below.refl _ w).al _).al _
  have BA : Blk Y2 w.heap.size #[.slice aA acs.length ac, .slice cA caps.length cc, .slice A l.length c] 35 := by rw [← hY2, ← hY1]; exact (Blk.new w _ _).alloc _
  have BZ : Blk Y2 (w.heap.size + 1) #[.slice none 0 0, .slice none 0 0, .slice none 0 0, .slice none 0 0, .slice none 0 0, .slice none 0 0, .int .i64 0, .int .i64 0, .slice none 0 0, .int .i64 0, .slice none 0 0, .slice none 0 0, .slice none 0 0, .slice none 0 0, .slice none 0 0, .slice none 0 0, .slice none 0 0, .slice none 0 0, .slice none 0 0, .slice none 0 0, .slice none 0 0, .slice none 0 0, .int .i64 0, .slice none 0 0, .string ⟨#[]⟩] 62 := by rw [← hY2, ← s1]; exact Blk.new Y1 _ _
  have a0 := BA.cell 0 (v := .slice aA acs.length ac) rfl
  have a1 := BA.cell 1 (v := .slice cA caps.length cc) rfl
  go_enter Tryd.func19, Tryd.ntmps19
  go_wp2_with (first | (refine wpList_boxBuild rfl (cells := #[.slice none 0 0, .slice none 0 0, .slice none 0 0, .slice none 0 0, .slice none 0 0, .slice none 0 0, .int .i64 0, .int .i64 0, .slice none 0 0, .int .i64 0, .slice none 0 0, .slice none 0 0, .slice none 0 0, .slice none 0 0, .slice cA caps.length cc, .slice none 0 0, .slice none 0 0, .slice aA acs.length ac, .slice none 0 0, .slice none 0 0, .slice none 0 0, .slice none 0 0, .int .i64 0, .slice none 0 0, .string ⟨#[]⟩]) rfl (by kernel_rfl) ?_) | (refine wpList_boxStore rfl (ty := 62) (x := .tmp 2) (y := .tmp 7) (cells := #[.slice none 0 0, .slice none 0 0, .slice none 0 0, .slice none 0 0, .slice none 0 0, .slice none 0 0, .int .i64 0, .int .i64 0, .slice none 0 0, .int .i64 0, .slice none 0 0, .slice none 0 0, .slice none 0 0, .slice none 0 0, .slice cA caps.length cc, .slice none 0 0, .slice none 0 0, .slice aA acs.length ac, .slice none 0 0, .slice none 0 0, .slice none 0 0, .slice none 0 0, .int .i64 0, .slice none 0 0, .string ⟨#[]⟩]) rfl BZ rfl rfl (by kernel_rfl) rfl (by kernel_rfl) ?_; intro w6 BZ6 hoz6 hbz6))
  refine bodyPost_ret (v := .agg #[.slice none 0 0, .slice none 0 0, .slice none 0 0, .slice none 0 0, .slice none 0 0, .slice none 0 0, .int .i64 0, .int .i64 0, .slice none 0 0, .int .i64 0, .slice none 0 0, .slice none 0 0, .slice none 0 0, .slice none 0 0, .slice cA caps.length cc, .slice none 0 0, .slice none 0 0, .slice aA acs.length ac, .slice none 0 0, .slice none 0 0, .slice none 0 0, .slice none 0 0, .int .i64 0, .slice none 0 0, .string ⟨#[]⟩]) ?_ rfl ⟨rfl, hbz6 _ _ (by omega) bW⟩
  exact results_box Tryd.results19 _ rfl BZ6 ⟨_, Tryd.underlying62, by kernel_rfl⟩
end Go.Proofs.YtlnnbkpcnhlfcaaDoor
/- few, walked. -/
set_option linter.unusedSimpArgs false
namespace Go.Proofs.YtlnnbkpcnhlfcaaDoor
open Go.RowKit Go.Lib

/-- what lies in the law's argument -/
structure BRaw (w : World) (aA : Option Addr) (ac : Nat) (acs : List Ac) (cA : Option Addr) (caps : List Cp) (A : Option Addr) (l : List Cg) : Prop where
  al : AL w aA ac acs
  cp : Rd encCp 4 w w.heap.size cA caps
  cl : CL w A l
  cpl : caps.length ≤ 9223372036854775807
  cll : l.length ≤ 9223372036854775807
theorem BRaw.st {w w' : World} {aA : Option Addr} {ac : Nat} {acs : List Ac} {cA : Option Addr} {caps : List Cp} {A : Option Addr} {l : List Cg} (h : BRaw w aA ac acs cA caps A l) (hb : Below w.heap.size w w') : BRaw w' aA ac acs cA caps A l :=
  ⟨h.al.st hb, h.cp.st hb, h.cl.st hb, h.cpl, h.cll⟩
def FwA (a : Ac) : Prop := a.v.os.length ≤ 8 ∧ (∀ o ∈ a.v.os, smO o) ∧ a.v.name.size ≤ 40
def Fw (acs : List Ac) (caps : List Cp) (l : List Cg) : Prop := acs.length ≤ 8 ∧ (∀ a ∈ acs, FwA a) ∧ caps.length ≤ 14 ∧ l.length ≤ 30 ∧ ∀ x ∈ l, x.c.lns.length ≤ 8
theorem Fw.small {acs : List Ac} {caps : List Cp} {l : List Cg} (h : Fw acs caps l) : smL acs := ⟨by have := h.1; omega, fun a ha => ⟨by have := (h.2.1 a ha).1; omega, (h.2.1 a ha).2.1⟩⟩
theorem BRaw.ok {w : World} {aA : Option Addr} {ac : Nat} {acs : List Ac} {cA : Option Addr} {caps : List Cp} {A : Option Addr} {l : List Cg} (h : BRaw w aA ac acs cA caps A l) (f : Fw acs caps l) (hm : Mon w) : BLO w aA ac acs cA caps A l :=
  ⟨h.al, f.small, h.cp, h.cl.1, fun x hx => ⟨(h.cl.2 x hx).1, by have := f.2.2.2.2 x hx; omega⟩, hm, by have := f.2.2.1; omega, by have := f.2.2.2.1; omega, fun a ha => by have := (f.2.1 a ha).2.2; omega⟩
def YesR (p : Prop) (e : Ending) : Prop := ∃ b, e = .returned (.bool b) ∧ (b = true → p)
theorem tk_all {α : Type} {p : α → Prop} {l : List α} {k : Nat} {x : α} (h : ∀ y ∈ l.take k, p y) (hx : l[k]? = some x) (hp : p x) : ∀ y ∈ l.take (k + 1), p y := by
  intro y hy
  rw [take_snoc hx] at hy
  rcases List.mem_append.1 hy with q | q
  · exact h y q
  · rw [List.mem_singleton] at q; subst q; exact hp

set_option maxRecDepth 100000 in
set_option maxHeartbeats 2000000 in
theorem few_any {aA cA A : Option Addr} {acs : List Ac} {caps : List Cp} {l : List Cg} (ac cc c : Nat) {w : World} (h : BRaw w aA ac acs cA caps A l) :
    Calls Tryd.prog 17 #[.agg #[.slice aA acs.length ac, .slice cA caps.length cc, .slice A l.length c]] w fun e w' => YesR (Fw acs caps l) e ∧ Below w.heap.size w w' := by
  obtain ⟨Y, hY⟩ : ∃ Y, w.alloc (.cells #[.slice aA acs.length ac, .slice cA caps.length cc, .slice A l.length c] 35) = Y := ⟨_, rfl⟩
  have bW : Below w.heap.size w Y := by rw [← hY]; exact (Below.refl _ w).al _
  have BA : Blk Y w.heap.size #[.slice aA acs.length ac, .slice cA caps.length cc, .slice A l.length c] 35 := by rw [← hY]; exact Blk.new w _ _
  have a0 := BA.cell 0 (v := .slice aA acs.length ac) rfl
  have a1 := BA.cell 1 (v := .slice cA caps.length cc) rfl
  have a2 := BA.cell 2 (v := .slice A l.length c) rfl
  have H := Lib.hid (h.st bW)
  have hal1 := h.al.2.2.1
  have hal2 := h.al.2.2.2
  have hcp := h.cpl
  have hcl := h.cll
  clear h BA
  go_enter Tryd.func17, Tryd.ntmps17
  go_wp2_with fail
  clear hY
  go_loopw [3] (fun i wr => ∃ k : Nat, k ≤ acs.length ∧ i = .int .i64 k ∧ Hid (∀ a ∈ acs.take k, FwA a) ∧ wr = Y) (fun i _ => acs.length - (RowKit.intOf i).toNat)
  case atStart => exact ⟨0, Nat.zero_le _, rfl, (by unfold Hid; simp), rfl⟩
  case round =>
    obtain ⟨k, hk, rfl, HQ, hw⟩ := hrel
    have hw := hw.symm
    subst hw
    have k1 : (0 : Int) ≤ (k : Int) := by omega
    by_cases hi : k < acs.length
    · have k2 : (k : Int) < (acs.length : Int) := by omega
      obtain ⟨b, off, a, hA1, hb, hx, d0, d1, d2, d3, d4, d5, d6, d7, d8⟩ := H.out.al.1.ac hi
      subst hA1
      have HK := Lib.hid hi
      have HX := Lib.hid hx
      have HA := Lib.hid (H.out.al.2.1 a (List.mem_of_getElem? hx))
      clear hx hi hb
      by_cases q1 : 40 < (a.v.name.size : Int)
      · go_wp2_with fail; go_ret; exact ⟨⟨false, rfl, fun h => by cases h⟩, bW⟩
      · by_cases q2 : 8 < (a.v.os.length : Int)
        · go_wp2_with fail; go_ret; exact ⟨⟨false, rfl, fun h => by cases h⟩, bW⟩
        · have hol : a.v.os.length ≤ 8 := by omega
          go_wp2_with fail
          go_loopw [4] (fun i wi => ∃ m : Nat, m ≤ a.v.os.length ∧ i = .int .i64 m ∧ Hid (∀ o ∈ a.v.os.take m, smO o) ∧ wi = Y) (fun i _ => a.v.os.length - (RowKit.intOf i).toNat)
          case atStart => exact ⟨0, Nat.zero_le _, rfl, (by unfold Hid; simp), rfl⟩
          case round =>
            obtain ⟨m, hm, rfl, HM, hw⟩ := hrel
            have hw := hw.symm
            subst hw
            have m1 : (0 : Int) ≤ (m : Int) := by omega
            by_cases hmi : m < a.v.os.length
            · have m2 : (m : Int) < (a.v.os.length : Int) := by omega
              obtain ⟨b3, off3, o, hA3, hb3, ho, e0, e1, e2, e3⟩ := HA.out.1.ow hmi
              have HMI := Lib.hid hmi
              have HO := Lib.hid ho
              rw [hA3] at d3
              have HA3 := Lib.hid hA3
              clear hmi ho hb3 hA3
              by_cases q3 : 40 < (o.tag.size : Int)
              · go_wp2_with fail; go_ret; exact ⟨⟨false, rfl, fun h => by cases h⟩, bW⟩
              · by_cases q4 : 40 < (o.pl.size : Int)
                · go_wp2_with fail; go_ret; exact ⟨⟨false, rfl, fun h => by cases h⟩, bW⟩
                · have R := Lib.hid (tk_all HM.out HO.out (show smO o from ⟨by omega, by omega⟩))
                  go_wp2_with fail
                  go_roundw
                  case rel => exact ⟨m + 1, HMI.out, by go_num, R, trivial⟩
                  case measure => have := HMI.out; simp [RowKit.intOf]; omega
            · obtain rfl : m = a.v.os.length := by omega
              have R := Lib.hid (tk_all HQ.out HX.out (show FwA a from ⟨hol, by have := HM.out; rwa [List.take_length] at this, by omega⟩))
              have m3 : ¬ (a.v.os.length : Int) < (a.v.os.length : Int) := by omega
              go_wp2_with fail
              go_roundw
              case rel => exact ⟨k + 1, HK.out, by go_num, R, by first | rfl | trivial⟩
              case measure => have := HK.out; simp [RowKit.intOf]; omega
    · obtain rfl : k = acs.length := by omega
      have RA : Hid (∀ a ∈ acs, FwA a) := Lib.hid (by have := HQ.out; rwa [List.take_length] at this)
      clear HQ
      go_wp2_with fail
      go_loopw [5] (fun i wi => ∃ m : Nat, m ≤ caps.length ∧ i = .int .i64 m ∧ wi = Y) (fun i _ => caps.length - (RowKit.intOf i).toNat)
      case atStart => exact ⟨0, Nat.zero_le _, rfl, by first | rfl | trivial⟩
      case round =>
        obtain ⟨m, hm, rfl, hw⟩ := hrel
        have hw := hw.symm
        subst hw
        have m1 : (0 : Int) ≤ (m : Int) := by omega
        by_cases hmi : m < caps.length
        · have m2 : (m : Int) < (caps.length : Int) := by omega
          obtain ⟨b, off, x, hA1, hb, hx, d0, d1, d2, d3⟩ := H.out.cp.cp hmi
          subst hA1
          have HMI := Lib.hid hmi
          clear hmi hx hb
          by_cases q1 : 40 < (x.name.size : Int)
          · go_wp2_with fail; go_ret; exact ⟨⟨false, rfl, fun h => by cases h⟩, bW⟩
          · by_cases q2 : 40 < (x.sys.size : Int)
            · go_wp2_with fail; go_ret; exact ⟨⟨false, rfl, fun h => by cases h⟩, bW⟩
            · go_wp2_with fail
              go_roundw
              case rel => exact ⟨m + 1, HMI.out, by go_num, by first | rfl | trivial⟩
              case measure => have := HMI.out; simp [RowKit.intOf]; omega
        · obtain rfl : m = caps.length := by omega
          go_wp2_with fail
          go_loopw [6] (fun i wi => ∃ m : Nat, m ≤ l.length ∧ i = .int .i64 m ∧ Hid (∀ x ∈ l.take m, x.c.lns.length ≤ 8) ∧ wi = Y) (fun i _ => l.length - (RowKit.intOf i).toNat)
          case atStart => exact ⟨0, Nat.zero_le _, rfl, (by unfold Hid; simp), by first | rfl | trivial⟩
          case round =>
            obtain ⟨m, hm, rfl, HM, hw⟩ := hrel
            have hw := hw.symm
            subst hw
            have m1 : (0 : Int) ≤ (m : Int) := by omega
            by_cases hmi : m < l.length
            · have m2 : (m : Int) < (l.length : Int) := by omega
              obtain ⟨b, off, x, hA1, hb, hx, d0, d1, d2, d3, d4, d5, d6⟩ := H.out.cl.1.cg hmi
              subst hA1
              have HMI := Lib.hid hmi
              have HX := Lib.hid hx
              clear hmi hx hb
              by_cases q1 : 80 < (x.c.key.size : Int)
              · go_wp2_with fail; go_ret; exact ⟨⟨false, rfl, fun h => by cases h⟩, bW⟩
              · by_cases q2 : 40 < (x.c.veh.size : Int)
                · go_wp2_with fail; go_ret; exact ⟨⟨false, rfl, fun h => by cases h⟩, bW⟩
                · by_cases q3 : 40 < (x.c.sys.size : Int)
                  · go_wp2_with fail; go_ret; exact ⟨⟨false, rfl, fun h => by cases h⟩, bW⟩
                  · by_cases q4 : 8 < (x.c.lns.length : Int)
                    · go_wp2_with fail; go_ret; exact ⟨⟨false, rfl, fun h => by cases h⟩, bW⟩
                    · have R := Lib.hid (tk_all HM.out HX.out (show x.c.lns.length ≤ 8 by omega))
                      go_wp2_with fail
                      go_roundw
                      case rel => exact ⟨m + 1, HMI.out, by go_num, R, by first | rfl | trivial⟩
                      case measure => have := HMI.out; simp [RowKit.intOf]; omega
            · obtain rfl : m = l.length := by omega
              have RL : Hid (∀ x ∈ l, x.c.lns.length ≤ 8) := Lib.hid (by have := HM.out; rwa [List.take_length] at this)
              clear HM
              by_cases q1 : (acs.length : Int) ≤ 8
              · by_cases q2 : (caps.length : Int) ≤ 14
                · by_cases q3 : (l.length : Int) ≤ 30
                  · have R := Lib.hid (show Fw acs caps l from ⟨by omega, RA.out, by omega, by omega, RL.out⟩)
                    go_wp2_with fail
                    go_ret
                    exact ⟨⟨true, rfl, fun _ => R.out⟩, bW⟩
                  · go_wp2_with fail; go_ret; exact ⟨⟨false, rfl, fun h => by cases h⟩, bW⟩
                · go_wp2_with fail; go_ret; exact ⟨⟨false, rfl, fun h => by cases h⟩, bW⟩
              · go_wp2_with fail; go_ret; exact ⟨⟨false, rfl, fun h => by cases h⟩, bW⟩
end Go.Proofs.YtlnnbkpcnhlfcaaDoor
