/- What the chapter's examples are in plain words. -/
import Derived.Test.YtflihhikofkheaaDevCheck
import Derived.Test.YtflihhikofkheaaDevOut
import Derived.Test.YtflihhikofkheaaDevClock
namespace Go.Proofs.Ytflihhikofkheaa
open Go.RowKit Go.Lib Go.Sort Go.Shelf

abbrev sC1 : ByteArray := ⟨#[99, 49]⟩
abbrev sC2 : ByteArray := ⟨#[99, 50]⟩
abbrev sA : ByteArray := ⟨#[97]⟩
def exD (oA dA : Option Addr) : Dv := ⟨sC1, sA, 2, 0, oA, 2, [(100, 5), (200, -5)], dA, 1, [(10, 30)]⟩
def exE (oA dA : Option Addr) : Dv := ⟨sC2, sA, 2, 0, oA, 1, [(0, -10)], dA, 1, [(20, 40)]⟩
theorem exClock1 (a b : Option Addr) : clockN (exD a b) 199 = 204 ∧ clockB (exD a b) 199 = true := by simp [clockN, clockB, delta, tB, exD]
theorem exClock2 (a b : Option Addr) : clockN (exD a b) 200 = 195 ∧ clockB (exD a b) 200 = true := by simp [clockN, clockB, delta, tB, exD]
theorem exClock3 (a b : Option Addr) : clockB (exE a b) 9 = false := by simp [clockB, delta, tB, exE]
theorem exW1 (a b : Option Addr) : worksB (exD a b) 9 = true := by simp [worksB, tB, hasB, exD]
theorem exW2 (a b : Option Addr) : worksB (exD a b) 10 = false := by simp [worksB, tB, hasB, exD, validB]
theorem eqSA : eqS sA sA = true := by simp [eqS]
theorem eqS12 : eqS sC2 sC1 = false := by decide +kernel
theorem NoneAt.of {pt : ByteArray} {kd : Int} {l r : List Dv} (h : AtOf pt kd l r) (t : Int) : NoneAt r t ↔ NoneAt (l.filter (selB pt kd)) t := by
  have hp := h.perm
  have e : ∀ d2 ∈ r, ∃ d ∈ l.filter (selB pt kd), d.ds = d2.ds := by
    intro d2 hd2
    have := hp.subset (List.mem_map_of_mem (f := vD) hd2)
    obtain ⟨d, hd, e⟩ := List.mem_map.1 this
    exact ⟨d, hd, congrArg (fun v : Val => v.2.2.2.2.2) e⟩
  have e2 : ∀ d ∈ l.filter (selB pt kd), ∃ d2 ∈ r, d2.ds = d.ds := by
    intro d hd
    have := hp.symm.subset (List.mem_map_of_mem (f := vD) hd)
    obtain ⟨d2, hd2, e⟩ := List.mem_map.1 this
    exact ⟨d2, hd2, congrArg (fun v : Val => v.2.2.2.2.2) e⟩
  unfold NoneAt
  refine and_congr_right fun _ => ⟨fun k d hd => ?_, fun k d hd => ?_⟩
  · obtain ⟨d2, hd2, q⟩ := e2 d hd
    rw [← q]; exact k d2 hd2
  · obtain ⟨d2, hd2, q⟩ := e d hd
    rw [← q]; exact k d2 hd2
theorem selA (a b : Option Addr) (k : Int) (hk : k = 2 ∨ k = 0) : selB sA k (exD a b) = true ∧ selB sA k (exE a b) = true := by
  unfold selB
  constructor <;> (simp only [exD, exE]; rw [eqSA]; rcases hk with rfl | rfl <;> rfl)
theorem selA1 (a b : Option Addr) : selB sA 1 (exD a b) = false ∧ selB sA 1 (exE a b) = false := by
  unfold selB
  constructor <;> (simp only [exD, exE]; rw [eqSA]; rfl)
theorem exOut {a b c d : Option Addr} {r : List Dv} {n : List Iv} (h : AtOf sA 2 [exE a b, exD c d] r) (hn : NF n) (hm : ∀ t, Mem n t ↔ NoneAt r t) : n = [(20, 30)] := by
  refine hn.unique ⟨by simp [vld], by simp⟩ fun t => ?_
  rw [hm, NoneAt.of h]
  rw [show [exE a b, exD c d].filter (selB sA 2) = [exE a b, exD c d] by simp [selA _ _ 2 (.inl rfl)]]
  unfold NoneAt
  simp only [List.mem_cons, List.not_mem_nil, or_false, forall_eq_or_imp, forall_eq, exD, exE, Mem.cons, Mem.nil, vld]
  omega
theorem exAll {a b c d : Option Addr} {r : List Dv} {n : List Iv} (h : AtOf sA 1 [exE a b, exD c d] r) (hn : NF n) (hm : ∀ t, Mem n t ↔ NoneAt r t) : n = [(0, 68719476736)] := by
  refine hn.unique ⟨by simp [vld], by simp⟩ fun t => ?_
  rw [hm, NoneAt.of h]
  rw [show [exE a b, exD c d].filter (selB sA 1) = [] by simp [selA1]]
  exact (allday.2 t).symm
theorem slt21 : sltB sC1 sC2 = true := by decide +kernel
theorem exAt {a b c d : Option Addr} {r : List Dv} (h : AtOf sA 0 [exE a b, exD c d] r) : r.length = 2 ∧ ∃ x, r[0]? = some x ∧ x.name = sC1 := by
  unfold AtOf at h
  rw [show [exE a b, exD c d].filter (selB sA 0) = [exE a b, exD c d] by simp [selA _ _ 0 (.inr rfl)]] at h
  have k : StabOf ltW ([exE a b, exD c d].map vD) ([exD c d, exE a b].map vD) := by
    have h1 := (StabOf.nil (lt := ltW)).snoc swoW (vD (exE a b))
    have h2 := h1.snoc swoW (vD (exD c d))
    have e : insS ltW (vD (exD c d)) (insS ltW (vD (exE a b)) []) = [vD (exD c d), vD (exE a b)] := by
      show (if ltW (vD (exD c d)) (vD (exE a b)) = true then _ else _) = _
      rw [if_pos (show ltW (vD (exD c d)) (vD (exE a b)) = true from slt21)]
    rw [e] at h2
    exact h2
  have e := h.unique k
  have hl := congrArg List.length e
  simp only [List.length_map, List.length_cons, List.length_nil] at hl
  match r, hl with
  | [x, y], _ =>
    refine ⟨rfl, x, rfl, ?_⟩
    simp only [List.map_cons] at e
    injection e with e _
    exact congrArg (fun v : Val => v.1) e
theorem exName1 : nameB sC1 = true := by decide +kernel
theorem exName2 : nameB sC2 = true := by decide +kernel
theorem exOne (ps : List Pt) (h : hasPt ps sA = true) (a b : Option Addr) : oneE ps (exD a b) = 0 ∧ oneE ps (exE a b) = 0 := by
  constructor
  · rw [oneE_down h rfl (by simp [exD, offsE, firstE, offE, offX, prev1, tB, List.range_succ])]
    simp [exD, downsE, firstE, downE, downX, validB, List.range_succ]
  · rw [oneE_down h rfl (by simp [exE, offsE, firstE, offE, offX, prev1, tB, List.range_succ])]
    simp [exE, downsE, firstE, downE, downX, validB, List.range_succ]
theorem exCheck (ps : List Pt) (h : hasPt ps sA = true) (a b c d : Option Addr) : devsE ps [exE a b, exD c d] = 0 := by
  unfold devsE
  rw [if_neg (by simp)]
  refine firstE_none fun j hj => ?_
  match j, hj with
  | 0, _ =>
    rw [devE_at (d := exE a b) rfl]
    rw [show ([exE a b, exD c d].take 0).any (fun y => eqS y.name (exE a b).name) = false from rfl, devX_one exName2]
    exact (exOne ps h a b).2
  | 1, _ =>
    rw [devE_at (d := exD c d) rfl]
    rw [show ([exE a b, exD c d].take 1).any (fun y => eqS y.name (exD c d).name) = false by show (eqS sC2 sC1 || false) = false; rw [eqS12]; rfl, devX_one exName1]
    exact (exOne ps h c d).1
/-- a row that was just laid -/
theorem Rd.lit {α : Type} {enc : α → List Value} {k e : Nat} (w : World) {cs : Array Value} (l : List α) (hE : Enc enc k) (hcs : cs.toList = l.flatMap enc) (hl : l.length ≤ 1000) :
    Rd enc k (w.alloc (.cells cs e)) (w.alloc (.cells cs e)).heap.size (some ⟨w.heap.size, 0, none⟩) l :=
  (Own.lit (e := e) w 0 l hE hcs rfl (Nat.zero_le _) (by omega)).rd hE
end Go.Proofs.Ytflihhikofkheaa
