/- Words for zones: the value, the box, the errors case by case. -/
import Derived.Test.YtcpfiiapfggmpaaJZoneRefName
namespace Go.Proofs.Ytcpfiiapfggmpaa
open Go.RowKit Go.Lib

/-- the value that a zone is handed over as -/
abbrev ZV (z : Zn) : Value := .agg #[.string z.name, .slice z.hA z.hs.length z.hc, .slice z.sA z.ss.length z.sc, .int .i64 z.grace, .int .i64 z.free, .int .i64 z.dayMax, .int .i64 z.maxStay]
/-- what a zone says, wherever its slices lie -/
def zc (z : Zn) : ByteArray × List Wn × List Wn × Int × Int × Int × Int := (z.name, z.hs, z.ss, z.grace, z.free, z.dayMax, z.maxStay)
def small (z : Zn) : Prop := z.hs.length ≤ 60 ∧ z.ss.length ≤ 40

theorem checkE_name {z : Zn} (h : nameB z.name = false) : checkE z = 6 := by unfold checkE; rw [if_pos h]
theorem checkE_hours {z : Zn} (h : nameB z.name = true) (h2 : 32 < z.hs.length) : checkE z = 3 := by
  unfold checkE; rw [if_neg (by rw [h]; simp), if_pos h2]
theorem checkE_win {z : Zn} (h : nameB z.name = true) (h2 : ¬ 32 < z.hs.length) (h3 : z.hs.all vw = false) : checkE z = 12 := by
  unfold checkE; rw [if_neg (by rw [h]; simp), if_neg h2, if_pos h3]
theorem checkE_step {z : Zn} (h : nameB z.name = true) (h2 : ¬ 32 < z.hs.length) (h3 : z.hs.all vw = true) (h4 : stepsE z.ss ≠ 0) : checkE z = stepsE z.ss := by
  unfold checkE; rw [if_neg (by rw [h]; simp), if_neg h2, if_neg (by rw [h3]; simp), if_pos h4]
theorem checkE_tail {z : Zn} (h : nameB z.name = true) (h2 : ¬ 32 < z.hs.length) (h3 : z.hs.all vw = true) (h4 : stepsE z.ss = 0) : checkE z = tailE z := by
  unfold checkE; rw [if_neg (by rw [h]; simp), if_neg h2, if_neg (by rw [h3]; simp), if_neg (by rw [h4]; simp)]
def okT (gr fr ms : Int) : Prop := (0 ≤ gr ∧ gr ≤ 68719476736) ∧ (0 ≤ fr ∧ fr ≤ 68719476736) ∧ (0 ≤ ms ∧ ms ≤ 68719476736)
theorem tailE_12 {z : Zn} (h : ¬ ((0 ≤ z.grace ∧ z.grace ≤ 68719476736) ∧ (0 ≤ z.free ∧ z.free ≤ 68719476736) ∧ (0 ≤ z.maxStay ∧ z.maxStay ≤ 68719476736))) : tailE z = 12 := by
  unfold tailE rangeZ; rw [if_pos (by omega)]
theorem tailE_13 {z : Zn} (h : (0 ≤ z.grace ∧ z.grace ≤ 68719476736) ∧ (0 ≤ z.free ∧ z.free ≤ 68719476736) ∧ (0 ≤ z.maxStay ∧ z.maxStay ≤ 68719476736)) (h2 : ¬ (0 ≤ z.dayMax ∧ z.dayMax ≤ 1125899906842624)) : tailE z = 13 := by
  unfold tailE rangeZ; rw [if_neg (by omega), if_pos (by omega)]
theorem tailE_0 {z : Zn} (h : (0 ≤ z.grace ∧ z.grace ≤ 68719476736) ∧ (0 ≤ z.free ∧ z.free ≤ 68719476736) ∧ (0 ≤ z.maxStay ∧ z.maxStay ≤ 68719476736)) (h2 : 0 ≤ z.dayMax ∧ z.dayMax ≤ 1125899906842624) : tailE z = 0 := by
  unfold tailE rangeZ; rw [if_neg (by omega), if_neg (by omega)]
/-- the cells of a box, in a later world -/
theorem box_cell {w w' : World} {cs : Array Value} {t : Nat} {B : Nat} (h : Below B (w.alloc (.cells cs t)) w') (hB : w.heap.size < B) (j : Nat) (v : Value) (hv : cs[j]? = some v) : w'.cell? ⟨w.heap.size, j, none⟩ = some v := by
  refine (h.cell (p := ⟨w.heap.size, j, none⟩) hB).trans ?_
  rw [cell_of_row _ _ _ cs t (0, 0) (heap_alloc_new w _)]
  exact hv
end Go.Proofs.Ytcpfiiapfggmpaa
