/- Stores of whole elements into a slice of detections, clear, struct equality; what Compact leaves. -/
import Derived.Test.YtgkppjkmakomnaaJDevEnc
import Derived.Test.YtgkppjkmakomnaaSort
import Derived.Lib.SliceRun
import Derived.Lib.SlicesCompact
import Derived.Laws.StructEq
import Derived.Laws.Tables
import Derived.LoopTactic
namespace Go.Proofs.Ytgkppjkmakomnaa
open Go.RowKit Go.Lib

instance : DecidableEq Dt := fun a b => if h : cmpDt a b = 0 then .isTrue (cmpDt_zero.1 h) else .isFalse fun e => h (cmpDt_zero.2 e)
/-- the slice's elements lie in block g, and may be stored -/
def HoldD (W : World) (g : Nat) (dk : Array Dt) : Prop := ∀ i, i < dk.size → ∀ j u, (encDt dk[i]!)[j]? = some u → W.cell? ⟨g, i * 7 + j, none⟩ = some u ∧ W.frozen? ⟨g, i * 7 + j, none⟩ = false
theorem encDt_len (d : Dt) : (encDt d).length = 7 := rfl
theorem HoldD.set {W : World} {g : Nat} {dk : Array Dt} (h : HoldD W g dk) {i : Nat} (hi : i < dk.size) (y : Dt) : HoldD (W.setCells g (i * 7) (encDt y)) g (dk.setIfInBounds i y) := by
  intro i' hi' j u hu
  simp only [Array.size_setIfInBounds] at hi'
  have hj : j < 7 := by have := (List.getElem?_eq_some_iff.1 hu).1; rwa [encDt_len] at this
  rw [World.frozen?_setCells]
  by_cases e : i' = i
  · subst e
    have hu2 : (encDt y)[j]? = some u := by rwa [Go.Sort.getElem!_set_same dk i' y hi] at hu
    have hin := World.cell?_setCells_in g (encDt y) (i' * 7) W (fun j' hj' => by
      have : j' < (encDt dk[i']!).length := by rw [encDt_len] at *; exact hj'
      rw [(h i' hi j' _ (List.getElem?_eq_getElem this)).1]; rfl) j (by rw [encDt_len]; exact hj)
    refine ⟨hin.trans ?_, (h i' hi j _ (List.getElem?_eq_getElem (by rw [encDt_len]; exact hj))).2⟩
    rw [← hu2, List.getElem?_eq_getElem]
  · rw [Go.Sort.getElem!_set_other dk i i' y e] at hu
    obtain ⟨h1, h2⟩ := h i' hi' j u hu
    refine ⟨?_, h2⟩
    rw [World.cell?_setCells_out g _ _ _ _ (fun _ _ => by simp only [encDt_len]; omega)]
    exact h1
theorem Below_setCells {B g : Nat} {w W : World} (h : Below B w W) (hg : B ≤ g) (o : Nat) (vs : List Value) : Below B w (W.setCells g o vs) := by
  induction vs generalizing o W with
  | nil => exact h
  | cons v vs ih => exact ih (h.setCell (p := ⟨g, o, none⟩) hg v) _
theorem HoldD.drew {W : World} {g : Nat} {dk : Array Dt} (h : HoldD W g dk) : HoldD W.drew g dk := h
theorem HoldD.drewN {W : World} {g : Nat} {dk : Array Dt} (h : HoldD W g dk) (n : Nat) : HoldD (W.drewN n) g dk := h
theorem HoldD.store {P : Program} {W : World} {g : Nat} {dk : Array Dt} (h : HoldD W g dk) {i : Nat} (hi : i < dk.size) (y : Dt) :
    (storeCells ⟨g, i * 7, none⟩ (encDt y) 0).run P W = .ok () (W.setCells g (i * 7) (encDt y)) := by
  have hc : ∀ j, j < (encDt y).length → (W.cell? ⟨g, i * 7 + 0 + j, none⟩).isSome = true ∧ W.frozen? ⟨g, i * 7 + 0 + j, none⟩ = false := fun j hj => by
    have hj2 : j < (encDt dk[i]!).length := by rw [encDt_len] at *; exact hj
    obtain ⟨h1, h2⟩ := h i hi j _ (List.getElem?_eq_getElem hj2)
    rw [Nat.add_zero, h1]; exact ⟨rfl, h2⟩
  have := run_storeCells_cells (P := P) g (i * 7) (encDt y) 0 W (fun j hj => (hc j hj).1) (fun j hj => (hc j hj).2) (fun v hv => by simp [encDt] at hv; rcases hv with rfl | rfl | rfl | rfl | rfl | rfl | rfl <;> rfl)
  rwa [Nat.add_zero] at this
/-- a store of a whole element -/
theorem wpList_elemStore {P : Program} {ops : Array Oper} {rest : List Oper} {o : Oper} {a : Act} {w w2 : World} {Q : Exit → Act → World → Prop} (hgd : o.guard = none) {ty : TypeId} {x y : Operand} (ho : o.op = .store ty x y)
    {p : Addr} {cells : Array Value} (hx : a.eval x = .pointer (some p)) (hy : a.eval y = .agg cells) (hi : (P.info? ty).map (·.size) = some cells.size)
    (hst : (storeCells p cells.toList 0).run P w = .ok () w2) (h : wpList P ops Q rest (a.put o.dst undef) w2) : wpList P ops Q (o :: rest) a w := by
  refine wpList_plain hgd fun K hK => ?_
  unfold Oper.wp execOp
  have hsv : (storeVar ty p (.agg cells)).run P w = .ok () w2 := by
    cases hq : P.info? ty with
    | none => simp [hq] at hi
    | some i =>
      have hs : cells.size = i.size := by simp [hq] at hi; omega
      simp [storeVar, sizeOf, typeInfo, hq, Value.cells, hs, hst]
  simp only [ho, hx, hy, Instr.storeAt, Instr.sureAddr, Sem.run_bind, Sem.run_pure, Result.andThen_ok, hsv]
  exact hK _ _ h
/-- clear of a slice of structs -/
theorem run_clear_many {P : Program} (w : World) (t e ty : TypeId) (z : Value) (ht : P.underlying t = some (.slice e)) (hv : ∀ w, (zeroValue e).run P w = .ok z w) (b o n c : Nat) (hn : 0 < n) (h1 : ∀ v ∈ (Builtin.zeroCells z.cells n).toList, v.oneCell' = true)
    (hc : ∀ j, j < (Builtin.zeroCells z.cells n).toList.length → (w.cell? ⟨b, o + j, none⟩).isSome = true) (hf : ∀ j, j < (Builtin.zeroCells z.cells n).toList.length → w.frozen? ⟨b, o + j, none⟩ = false) :
    (Builtin.clear_ #[t] ty #[.slice (some ⟨b, o, none⟩) n c]).run P w = .ok (.tuple #[]) (w.setCells b o (Builtin.zeroCells z.cells n).toList) := by
  have hst := run_storeCells_cells (P := P) b o (Builtin.zeroCells z.cells n).toList 0 w (by simpa using hc) (by simpa using hf) h1
  simp only [Nat.add_zero] at hst
  obtain ⟨m, rfl⟩ : ∃ m, n = m + 1 := ⟨n - 1, by omega⟩
  simp [Builtin.clear_, run_underlying ht, hv, hst]
def eqDt (x y : Dt) : Bool := eqS x.dev y.dev && (x.seq == y.seq && (x.time == y.time && (eqS x.tag y.tag && (eqS x.pl y.pl && (x.ax == y.ax && x.sc == y.sc)))))
theorem eqDt_iff (x y : Dt) : eqDt x y = true ↔ x = y := by
  unfold eqDt
  simp only [Bool.and_eq_true, eqS_iff, beq_iff_eq]
  constructor
  · rintro ⟨h1, h2, h3, h4, h5, h6, h7⟩
    cases x; cases y; simp_all
  · rintro rfl; simp
set_option maxRecDepth 100000 in
theorem eqDt_run (x1 y1 x4 y4 x5 y5 : ByteArray) (x2 x3 x6 x7 y2 y3 y6 y7 : Int) (w : World) : (binOp .eql 24 (.agg #[.string x1, .int .i64 x2, .int .i64 x3, .string x4, .string x5, .int .i64 x6, .int .i64 x7]) (.agg #[.string y1, .int .i64 y2, .int .i64 y3, .string y4, .string y5, .int .i64 y6, .int .i64 y7])).run Try.prog w = .ok (.bool (eqDt ⟨x1, x2, x3, x4, x5, x6, x7⟩ ⟨y1, y2, y3, y4, y5, y6, y7⟩)) w := by
  unfold eqDt eqS
  go_simp
  repeat' split
  all_goals simp_all
set_option maxRecDepth 100000 in
theorem neDt_run (x1 y1 x4 y4 x5 y5 : ByteArray) (x2 x3 x6 x7 y2 y3 y6 y7 : Int) (w : World) : (binOp .neq 24 (.agg #[.string x1, .int .i64 x2, .int .i64 x3, .string x4, .string x5, .int .i64 x6, .int .i64 x7]) (.agg #[.string y1, .int .i64 y2, .int .i64 y3, .string y4, .string y5, .int .i64 y6, .int .i64 y7])).run Try.prog w = .ok (.bool (!eqDt ⟨x1, x2, x3, x4, x5, x6, x7⟩ ⟨y1, y2, y3, y4, y5, y6, y7⟩)) w := by
  unfold eqDt eqS
  go_simp
  repeat' split
  all_goals simp_all

/-- what Compact leaves of a list whose equals are neighbours: ascending, with the same members -/
theorem compact_mem (d : Array Dt) (m : Nat) (hm : m ≤ d.size) (z : Dt) : z ∈ compactUpTo d m ↔ ∃ j, j < m ∧ d[j]! = z := by
  induction m with
  | zero => simp [compactUpTo]
  | succ m ih =>
    rw [compactUpTo_succ, List.mem_append, ih (by omega)]
    constructor
    · rintro (⟨j, hj, e⟩ | h)
      · exact ⟨j, by omega, e⟩
      · split at h
        · exact ⟨m, by omega, (List.mem_singleton.1 h).symm⟩
        · simp at h
    · rintro ⟨j, hj, e⟩
      by_cases q : j = m
      · subst q
        by_cases hk : keeps d j = true
        · right; rw [if_pos hk, ← e]; simp
        · left
          have hj0 : j ≠ 0 := fun h0 => hk (by simp [keeps, h0])
          have e2 : d[j]! = d[j - 1]! := by
            rcases Classical.em (d[j]! = d[j - 1]!) with q | q
            · exact q
            · exact absurd (by simp [keeps, q]) hk
          exact ⟨j - 1, by omega, by rw [← e2, e]⟩
      · exact Or.inl ⟨j, by omega, e⟩
theorem compact_asc (d : Array Dt) (hs : ∀ i j, i < j → j < d.size → cmpDt d[i]! d[j]! ≤ 0) : ∀ (m : Nat), m ≤ d.size → AscC cmpDt (compactUpTo d m)
  | 0, _ => by simp [compactUpTo, AscC]
  | m + 1, hm => by
    rw [compactUpTo_succ]
    refine List.pairwise_append.2 ⟨compact_asc d hs m (by omega), by split <;> simp, fun x hx y hy => ?_⟩
    split at hy
    · rename_i hk
      rw [List.mem_singleton] at hy
      subst hy
      obtain ⟨j, hj, rfl⟩ := (compact_mem d m (by omega) x).1 hx
      have hm0 : m ≠ 0 := by omega
      have hne : d[m]! ≠ d[m - 1]! := by
        intro e
        simp [keeps, hm0, e] at hk
      have h1 : cmpDt d[m - 1]! d[m]! ≤ 0 := hs _ _ (by omega) (by omega)
      have h2 : cmpDt d[m - 1]! d[m]! < 0 := by
        have : cmpDt d[m - 1]! d[m]! ≠ 0 := fun e => hne (cmpDt_zero.1 e).symm
        omega
      by_cases e : j = m - 1
      · subst e; exact h2
      · have h3 : cmpDt d[j]! d[m - 1]! ≤ 0 := hs _ _ (by omega) (by omega)
        rcases (by omega : cmpDt d[j]! d[m - 1]! < 0 ∨ cmpDt d[j]! d[m - 1]! = 0) with h4 | h4
        · exact cmpDt_pre.t _ _ _ h4 h2
        · rw [cmpDt_zero.1 h4]; exact h2
    · simp at hy
end Go.Proofs.Ytgkppjkmakomnaa
