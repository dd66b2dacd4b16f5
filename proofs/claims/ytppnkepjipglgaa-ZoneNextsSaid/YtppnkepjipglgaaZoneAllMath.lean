/- The error of a list of zones, in plain words. -/
import Derived.Test.YtppnkepjipglgaaZoneFind
namespace Go.Proofs.Ytppnkepjipglgaa
def allE (l : List Zn) (i : Nat) : Int := ((l[i]?).map fun z => if checkE z ≠ 0 then checkE z else if (findZ (l.take i) z.name).isSome then 9 else 0).getD 0
def checkAllE (l : List Zn) : Int := if 1024 < l.length then 3 else firstE (allE l) l.length
theorem allE_bad {l : List Zn} {i : Nat} {z : Zn} (h : l[i]? = some z) (hb : checkE z ≠ 0) : allE l i = checkE z := by
  unfold allE; rw [h]; simp [hb]
theorem allE_two {l : List Zn} {i : Nat} {z : Zn} (h : l[i]? = some z) (hb : checkE z = 0) (hf : (findZ (l.take i) z.name).isSome = true) : allE l i = 9 := by
  unfold allE; rw [h]; simp [hb, hf]
theorem allE_ok {l : List Zn} {i : Nat} {z : Zn} (h : l[i]? = some z) (hb : checkE z = 0) (hf : (findZ (l.take i) z.name).isSome = false) : allE l i = 0 := by
  unfold allE; rw [h]; simp [hb, hf]
theorem checkAllE_big {l : List Zn} (h : 1024 < l.length) : checkAllE l = 3 := by unfold checkAllE; rw [if_pos h]
theorem checkAllE_at {l : List Zn} {k : Nat} (h : ¬ 1024 < l.length) (hz : ∀ j, j < k → allE l j = 0) (hk : k < l.length) (hne : allE l k ≠ 0) : checkAllE l = allE l k := by
  unfold checkAllE; rw [if_neg h, firstE_some hz hk hne]
theorem checkAllE_none {l : List Zn} (h : ¬ 1024 < l.length) (hz : ∀ j, j < l.length → allE l j = 0) : checkAllE l = 0 := by
  unfold checkAllE; rw [if_neg h, firstE_none hz]
theorem take_get {α : Type} {l : List α} {i k : Nat} {x : α} (h : l[k]? = some x) (hk : k < i) : (l.take i)[k]? = some x := by
  rw [List.getElem?_take_of_lt hk]; exact h
end Go.Proofs.Ytppnkepjipglgaa
