/- Joined texts: BillDayIx, BillCmp, MSortIns. -/
import Derived.Test.YtlnnbkpcnhlfcaaDoorJBillTot
import Derived.Test.YtlnnbkpcnhlfcaaDoorJCapRMath
import Derived.Test.YtlnnbkpcnhlfcaaDoorCapCmp
import Derived.Test.YtlnnbkpcnhlfcaaDoorJStrEq
import Derived.BigQuiet
import Derived.Test.YtlnnbkpcnhlfcaaDoorJOStabOwn
import Derived.Shelf.SlSortCmp.Kit1
import Derived.Sort.WalkA
import Derived.Sort.LotA
import Derived.Deep.LoopGhost
import Derived.Lib.Hide
import Derived.Outline
/- The order in which days are counted, in plain words. No program in sight. -/
namespace Go.Proofs.YtlnnbkpcnhlfcaaDoor

def dIdx (cs : List CV) (k : Nat) : List Nat := (List.range k).filter fun i => dayB (chAt cs i)
def itI (cs : List CV) (l : List Nat) : List DI := l.map fun i => (dayN (chAt cs i).tm, (chAt cs i).ct)
theorem dIdx_succ (cs : List CV) (k : Nat) : dIdx cs (k + 1) = dIdx cs k ++ if dayB (chAt cs k) = true then [k] else [] := by
  unfold dIdx
  rw [List.range_succ, List.filter_append]
  cases h : dayB (chAt cs k) <;> simp [List.filter_cons, h]
theorem dIdx_lt {cs : List CV} {k i : Nat} (h : i ∈ dIdx cs k) : i < k ∧ dayB (chAt cs i) = true := by
  unfold dIdx at h
  rw [List.mem_filter, List.mem_range] at h
  exact h
theorem dIdx_len (cs : List CV) (k : Nat) : (dIdx cs k).length ≤ k := by
  unfold dIdx
  have := List.length_filter_le (fun i => dayB (chAt cs i)) (List.range k)
  simpa using this
theorem itI_dIdx (cs : List CV) : ∀ k, k ≤ cs.length → itI cs (dIdx cs k) = itemL (cs.take k)
  | 0, _ => by simp [itI, dIdx, itemL]
  | k + 1, h => by
    have ih := itI_dIdx cs k (by omega)
    have hx : cs[k]? = some (chAt cs k) := by unfold chAt; rw [List.getElem?_eq_getElem (by omega)]; rfl
    rw [dIdx_succ, take_snoc hx, itemL_snoc, ← ih]
    unfold itI
    rw [List.map_append]
    cases h : dayB (chAt cs k) <;> simp
theorem itI_all (cs : List CV) : itI cs (dIdx cs cs.length) = itemL cs := by rw [itI_dIdx cs _ (Nat.le_refl _), List.take_length]
theorem itI_perm {cs : List CV} {a b : List Nat} (h : a.Perm b) : (itI cs a).Perm (itI cs b) := h.map _
theorem itI_snoc {cs : List CV} {l : List Nat} {k i : Nat} (h : l[k]? = some i) : itI cs (l.take (k + 1)) = itI cs (l.take k) ++ [(dayN (chAt cs i).tm, (chAt cs i).ct)] := by
  rw [take_snoc h]; simp [itI]
/-- days ascend along the order -/
def AscD (cs : List CV) (l : List Nat) : Prop := l.Pairwise fun x y => dayN (chAt cs x).tm ≤ dayN (chAt cs y).tm
theorem AscD.le {cs : List CV} {l : List Nat} (h : AscD cs l) {k i : Nat} (hi : l[k]? = some i) {ds ss : List Int} (hd : DaysR (itI cs (l.take k)) ds ss) : ∀ x ∈ ds, x ≤ dayN (chAt cs i).tm := by
  intro x hx
  obtain ⟨c, hc⟩ := (hd.mem x).1 hx
  unfold itI at hc
  obtain ⟨j, hj, he⟩ := List.mem_map.1 hc
  injection he with he _
  rw [← he]
  obtain ⟨m, hm⟩ := List.mem_iff_getElem?.1 hj
  rw [List.getElem?_take] at hm
  split at hm
  · rename_i hlt
    obtain ⟨h1, e1⟩ := List.getElem?_eq_some_iff.1 hm
    obtain ⟨h2, e2⟩ := List.getElem?_eq_some_iff.1 hi
    have := (List.pairwise_iff_getElem.1 h) m k h1 h2 hlt
    rw [e1, e2] at this
    exact this
  · cases hm
theorem asc_last {ds : List Int} (h : ds.Pairwise (· < ·)) {m : Nat} (hm : m + 1 = ds.length) {x : Int} (hx : ds[m]? = some x) : ∀ y ∈ ds, y ≤ x := by
  intro y hy
  obtain ⟨j, hj⟩ := List.mem_iff_getElem?.1 hy
  obtain ⟨h1, e1⟩ := List.getElem?_eq_some_iff.1 hj
  obtain ⟨h2, e2⟩ := List.getElem?_eq_some_iff.1 hx
  by_cases q : j = m
  · subst q; rw [hj] at hx; rw [Option.some.inj hx]; exact Int.le_refl _
  · have := (List.pairwise_iff_getElem.1 h) j m h1 h2 (by omega)
    rw [e1, e2] at this; omega
/-- the next of the order: of the last day -/
theorem days_same {cs : List CV} {l : List Nat} {k i m : Nat} (hi : l[k]? = some i) {ds ss : List Int} (hd : DaysR (itI cs (l.take k)) ds ss) {s : Int} (hx : ds[m]? = some (dayN (chAt cs i).tm)) (hs : ss[m]? = some s) :
    DaysR (itI cs (l.take (k + 1))) ds (ss.set m (s + (chAt cs i).ct)) := by
  rw [itI_snoc hi]; exact hd.add hx hs _
/-- the next of the order: of a new day -/
theorem days_new {cs : List CV} {l : List Nat} (ha : AscD cs l) {k i : Nat} (hi : l[k]? = some i) {ds ss : List Int} (hd : DaysR (itI cs (l.take k)) ds ss) (hx : ∀ m, m + 1 = ds.length → ds[m]? ≠ some (dayN (chAt cs i).tm)) :
    DaysR (itI cs (l.take (k + 1))) (ds ++ [dayN (chAt cs i).tm]) (ss ++ [(chAt cs i).ct]) := by
  rw [itI_snoc hi]
  refine hd.snoc (fun y hy => ?_) _
  have h1 := ha.le hi hd y hy
  by_cases q : y = dayN (chAt cs i).tm
  · exfalso
    have hne : ds.length ≠ 0 := fun e => by rw [List.eq_nil_of_length_eq_zero e] at hy; cases hy
    obtain ⟨m, hm⟩ : ∃ m, m + 1 = ds.length := ⟨ds.length - 1, by omega⟩
    obtain ⟨x, hxm⟩ : ∃ x, ds[m]? = some x := ⟨_, List.getElem?_eq_getElem (by omega)⟩
    have h2 := asc_last hd.asc hm hxm y hy
    have h3 := ha.le hi hd x (List.mem_of_getElem? hxm)
    have : x = dayN (chAt cs i).tm := by omega
    exact hx m hm (by rw [hxm, this])
  · omega
theorem days_bnd {cs : List CV} {l : List Nat} {k : Nat} (hl : ∀ i ∈ l, dayB (chAt cs i) = true) (hlen : l.length ≤ 1000) {ds ss : List Int} (hd : DaysR (itI cs (l.take k)) ds ss) {m : Nat} {s : Int} (hs : ss[m]? = some s) : -1125899906842624000 ≤ s ∧ s ≤ 1125899906842624000 := by
  have hml : m < ds.length := by rw [hd.len]; exact (List.getElem?_eq_some_iff.1 hs).1
  have h1 := hd.sum m _ s (List.getElem?_eq_getElem hml) hs
  have h2 := totD_bnd (it := itI cs (l.take k)) (fun p hp => by
    unfold itI at hp
    obtain ⟨i, hi, rfl⟩ := List.mem_map.1 hp
    have := hl i (List.mem_of_mem_take hi)
    unfold dayB fitsB at this
    simp only [Bool.and_eq_true, decide_eq_true_eq] at this
    exact this.2) ds[m]
  have h3 : (itI cs (l.take k)).length ≤ 1000 := by unfold itI; rw [List.length_map, List.length_take]; omega
  rw [← h1] at h2
  omega
theorem dayB_ct {x : CV} (h : dayB x = true) : (-1125899906842624 ≤ x.ct ∧ x.ct ≤ 1125899906842624) ∧ 0 ≤ dayN x.tm := by
  unfold dayB fitsB at h
  simp only [Bool.and_eq_true, decide_eq_true_eq] at h
  exact ⟨h.2, h.1⟩
end Go.Proofs.YtlnnbkpcnhlfcaaDoor
/- (bill.calendar).compare, walked. -/
set_option linter.unusedSimpArgs false
namespace Go.Proofs.YtlnnbkpcnhlfcaaDoor
open Go.RowKit Go.Lib Go.Sort

def cmpD (cs : List CV) (i k : Nat) : Int := dayN (chAt cs i).tm - dayN (chAt cs k).tm
theorem cmpD_swo (cs : List CV) : SWO (ltOf (cmpD cs)) := by
  unfold ltOf cmpD
  exact ⟨fun x => by simp, fun x y z h1 h2 => by simp only [decide_eq_true_eq] at *; omega, fun x y z h1 h2 => by simp only [decide_eq_false_iff_not] at *; omega⟩
theorem dayN_bnd (t : Int) : -1 ≤ dayN t ∧ dayN t ≤ 795364 := by unfold dayN; split <;> omega
set_option maxRecDepth 100000 in
set_option maxHeartbeats 2000000 in
theorem dcmp_any {A : Option Addr} (c : Nat) {l : List Cg} {w : World} (hr : Rd encCg 7 w w.heap.size A l) (i k : Nat) (hi : i < l.length) (hk : k < l.length) :
    Calls Tryd.prog 51 #[.agg #[.slice A l.length c], .int .i64 i, .int .i64 k] w fun e w' => e = .returned (.int .i64 (cmpD (cvs l) i k)) ∧ Gr w w' := by
  obtain ⟨b, off, xi, hA, hbl, hxi, -, -, -, -, p4, -, -⟩ := hr.cg hi
  obtain ⟨b', off', xk, hA', hbl', hxk, -, -, -, -, q4, -, -⟩ := hr.cg hk
  rw [hA] at hA'
  injection hA' with hA'
  injection hA' with h1 h2
  subst h1 h2
  subst hA
  unfold cmpD
  rw [chAt_of (cvs_at hxi), chAt_of (cvs_at hxk)]
  obtain ⟨⟨ki, ve, sy, cl, ti, ln, cn⟩, xiA, xic⟩ := xi
  obtain ⟨⟨kk, ve2, sy2, cl2, tk, ln2, cn2⟩, xkA, xkc⟩ := xk
  simp only at *
  have i1 : (0 : Int) ≤ (i : Int) := by omega
  have i2 : (i : Int) < (l.length : Int) := by omega
  have k1 : (0 : Int) ≤ (k : Int) := by omega
  have k2 : (k : Int) < (l.length : Int) := by omega
  have C1 := Lib.hid (fun (W : World) => (cday_any ti W).mono fun e w' h => show e = _ ∧ ∃ n, w' = W.drewN n from ⟨h.1, 0, h.2⟩)
  have C2 := Lib.hid (fun (W : World) => (cday_any tk W).mono fun e w' h => show e = _ ∧ ∃ n, w' = W.drewN n from ⟨h.1, 0, h.2⟩)
  have hb1 := dayN_bnd ti
  have hb2 := dayN_bnd tk
  generalize dayN ti = di at *
  generalize dayN tk = dk at *
  have hw : IntKind.i64.wrap (di - dk) = di - dk := IntWalk.i64_in _ (by omega)
  obtain ⟨Y, hY⟩ : ∃ Y, w.alloc (.cells #[.slice (some ⟨b, off, none⟩) l.length c] 118) = Y := ⟨_, rfl⟩
  have gY : Gr w Y := by rw [← hY]; exact Gr.alloc _ _
  have bY : Below w.heap.size w Y := by rw [← hY]; exact (Below.refl _ w).al _
  have P4 := (bY.cell (p := ⟨b, off + i * 7 + 4, none⟩) hbl).trans p4
  have Q4 := (bY.cell (p := ⟨b, off + k * 7 + 4, none⟩) hbl).trans q4
  have B0 : Y.cell? ⟨w.heap.size, 0, none⟩ = some (.slice (some ⟨b, off, none⟩) l.length c) := by rw [← hY]; exact (Blk.new w _ _).cell 0 rfl
  clear hr hxi hxk hbl' hbl p4 q4 hb1 hb2 bY
  go_enter Tryd.func51, Tryd.ntmps51
  go_wp2_with fail
  go_quiet ((first | (go_at_call 33; with_reducible refine Calls.quiet_of (C1.out _)) | (go_at_call 33; with_reducible refine Calls.quiet_of (C2.out _))))
  go_wp2_with fail
  go_ret
  exact ⟨rfl, gY.drewN _⟩
end Go.Proofs.YtlnnbkpcnhlfcaaDoor
/- slices.SortFunc's family on ints where the comparison is a method value: what is asked of it; insertion, walked. -/

namespace Go.Proofs.YtlnnbkpcnhlfcaaDoor
open Go.RowKit Go.Lib Go.Sort Go.Shelf

section
variable {β : Type} [Inhabited β] {enc : β → Value} {w0 W : World} {blk off : Nat} {d0 d : Array β}
/-- the comparison, called with its receiver ahead of the two -/
def CmpM (P : Program) (g : Nat) (rv : Value) (enc : β → Value) (cf : β → β → Int) (blk off size : Nat) (w : World) : Prop :=
  ∀ (m : Nat) (os : Array Obj) (dk : Array β), dk.size = size → ∀ x y : β,
    Calls P g #[rv, enc x, enc y] (sortWorld enc w blk off m dk os) fun e w' => e = .returned (.int .i64 (cf x y)) ∧ ∃ q os', w' = grow ((sortWorld enc w blk off m dk os).drewN q) os'
theorem _root_.Go.Proofs.SW.cmpM {P : Program} {g : Nat} {rv : Value} {cf : β → β → Int} {size : Nat} {dk : Array β} (h : SW enc w0 blk off dk W) (hC : CmpM P g rv enc cf blk off size w0) (hs : dk.size = size) (x y : β) (n : Nat) (os : Array Obj) :
    Calls P g #[rv, enc x, enc y] (grow (W.drewN n) os) fun e w' => e = .returned (.int .i64 (cf x y)) ∧ ∃ q os', w' = grow ((grow (W.drewN n) os).drewN q) os' := by
  obtain ⟨m, os0, hw⟩ := h.grown n os
  rw [hw]
  exact hC m os0 dk hs x y

set_option maxHeartbeats 4000000 in
set_option maxRecDepth 1000000 in
theorem insM_any (R : Row1 enc w0 blk off d0) (cf : β → β → Int) (g : Nat) (rv : Value) (eg : ∀ args w, (callFunc g args).run Tryd.prog w = .ok (.enter g args) w) (hC : CmpM Tryd.prog g rv enc cf blk off d0.size w0)
    (hs : d.size = d0.size) (hsz : d0.size < 4611686018427387904) (cap a b : Nat) (hab : a ≤ b) (hb : b ≤ d0.size) (hW : SW enc w0 blk off d W) :
    Calls Tryd.prog 95 #[.slice (some ⟨blk, off, none⟩) d0.size cap, .int .i64 a, .int .i64 b, (.func (.func g) #[rv] #[])] W fun e w' =>
      e = .returned (.tuple #[]) ∧ SW enc w0 blk off (Sort.insertionSort (ltOf cf) d a b) w' := by
  have S := stF
  have mixed := S.mixed; have t0 := S.t0; have a0 := S.a0; have z0 := S.z0; have v0 := S.v0; have t3 := S.t3; have a3 := S.a3; have z3 := S.z3; have v3 := S.v3; have t4 := S.t4; have a4 := S.a4; have z4 := S.z4; have v4 := S.v4; have t22 := S.t22; have a22 := S.a22; have z22 := S.z22; have v22 := S.v22; have t78 := S.t78; have a78 := S.a78; have z78 := S.z78; have v78 := S.v78; have t96 := S.t96; have a96 := S.a96; have z96 := S.z96; have v96 := S.v96; have aE := S.aE; have zE := S.zE; have u22 := run_underlying S.t22; have hst := R.hO.store Tryd.prog; have hcl0 := R.hO.cells; simp only [Value.cells] at hcl0
  have HW := Lib.hid hW
  have HR := Lib.hid R
  have HC := Lib.hid hC
  have HS := Lib.hid hs
  clear hW R hC hs S
  go_enter Tryd.func95, Tryd.ntmps95
  go_wp2_with fail
  go_loopg [8] (b - a) (fun g1 vi wr => ∃ (i : Nat) (dk : Array β), vi = .int .i64 i ∧ a < i ∧ i ≤ b + 1 ∧ b + 1 - i ≤ g1 + 1 ∧ Hid (dk.size = d0.size) ∧ Hid (SW enc w0 blk off dk wr) ∧ Hid (insOuter (ltOf cf) a b i dk = insOuter (ltOf cf) a b (a + 1) d))
  case atStart => exact ⟨a + 1, d, by go_num, by omega, by omega, by omega, HS, HW, rfl⟩
  case round =>
    clear HW
    obtain ⟨i, dq, rfl, hai, hib, hg1, HSK, HK0, HO⟩ := hrel
    by_cases hlt : i < b
    · have hltz : (i : Int) < (b : Int) := by omega
      go_wp2_with fail
      go_loopg [9] i (fun g2 vj wr2 => ∃ (J : Int) (dk : Array β), vj = .int .i64 J ∧ (a : Int) ≤ J ∧ J ≤ i ∧ J ≤ g2 ∧ Hid (dk.size = d0.size) ∧ Hid (SW enc w0 blk off dk wr2) ∧ Hid (insInner (ltOf cf) a J.toNat dk = insInner (ltOf cf) a i dq))
      case atStart => exact ⟨i, dq, rfl, by omega, Int.le_refl _, Int.le_refl _, HSK, HK0, rfl⟩
      case round =>
        clear HK0
        obtain ⟨J, dk, rfl, haj, hji, hg2, HSD, HK, HI⟩ := hrel
        have HOUT := Lib.hid (fun (h : J.toNat ≤ a ∨ (ltOf cf) dk[J.toNat]! dk[J.toNat - 1]! = false) => show insOuter (ltOf cf) a b (i + 1) dk = insOuter (ltOf cf) a b (a + 1) d by
          rw [← HO.out, insOuter_go _ _ _ _ _ hlt, ← HI.out, insInner_stop _ _ _ _ h])
        have hsd : dk.size = d0.size := HSD.out
        by_cases hja : (a : Int) < J
        · obtain ⟨P, hP⟩ : ∃ P, J - 1 = P := ⟨_, rfl⟩
          have hd : decide (J > (a : Int)) = true := decide_eq_true hja
          have j0 : 0 ≤ J := by omega
          have j1 : J < (d0.size : Int) := by omega
          have p0 : 0 ≤ P := by omega
          have p1 : P < (d0.size : Int) := by omega
          have e3 : J.toNat - 1 = P.toNat := by omega
          rw [e3] at HOUT
          have HG1 := Lib.hid (show (a : Int) ≤ P ∧ P ≤ i ∧ P ≤ ((P.toNat : Nat) : Int) ∧ P + 1 = J ∧ 0 ≤ P by omega)
          have HIG := Lib.hid (fun (h : (ltOf cf) dk[J.toNat]! dk[P.toNat]! = true) => insInner_go (ltOf cf) a J.toNat dk (by omega) (by rw [e3]; exact h))
          rw [e3] at HIG
          have hX : J.toNat < dk.size := by omega
          have hY : P.toNat < dk.size := by omega
          have lx := HK.out.cl HR.out hsd J.toNat hX; have ly := HK.out.cl HR.out hsd P.toNat hY; have GR := Lib.hid (fun n' os' => HK.out.grown n' os'); have hcg := fun n' os' => HK.out.cmpM HC.out hsd dk[J.toNat]! dk[P.toNat]! n' os'; obtain ⟨xh, hxh⟩ : ∃ x, dk[J.toNat]! = x := ⟨_, rfl⟩; obtain ⟨xa, hxa⟩ : ∃ x, dk[P.toNat]! = x := ⟨_, rfl⟩; rw [hxh] at lx hcg; rw [hxa] at ly hcg; have HXH := Lib.hid hxh; have HXA := Lib.hid hxa; clear hxh hxa
          have hw1 : IntKind.i64.wrap (J - 1) = P := by rw [IntKind.wrap_i64]; omega
          have HZ := Lib.hid (And.intro hX hY)
          clear hX hY e3 hP
          by_cases hlv : cf xh xa < 0
          · have hd2 : decide (cf xh xa < 0) = true := decide_eq_true hlv
            have HI2 : Hid (insInner (ltOf cf) a P.toNat (swp dk J.toNat P.toNat) = insInner (ltOf cf) a i dq) := Lib.hid (by
              rw [← HI.out, HIG.out (by unfold ltOf; rw [HXH.out, HXA.out]; exact hd2)])
            generalize cf xh xa = cv at *
            clear HOUT HI HIG
            go_wp2_with fail
            go_quiet_grown (first | (go_at_fn g; refine Calls.grown_of (hcg _ _)))
            have HK := Lib.hid (GR.out nq osq)
            clear GR hcg lx ly HXH HXA
            generalize grow (wr.drewN nq) osq = w2 at HK ⊢
            have hsk := hsd
            have hX := HZ.out.1
            have hY := HZ.out.2
            have l1 := HK.out.c1 HR.out hsk (J.toNat) (by omega); have l2 := HK.out.c1 HR.out hsk (P.toNat) (by omega); have fz1 := HK.out.f1 HR.out hsk (J.toNat) (by omega); have fz2 := HK.out.f1 HR.out hsk (P.toNat) (by omega); obtain ⟨u3, l3⟩ := HK.out.c2 HR.out hsk (J.toNat) (P.toNat) (by omega) (by omega) (enc dk[P.toNat]!); have X := Lib.hid (HK.out.swapped HR.out (J.toNat) (P.toNat) (by omega) (by omega)); obtain ⟨cI, hI⟩ : ∃ c, c = dk[J.toNat]! := ⟨_, rfl⟩; obtain ⟨cJ, hJ⟩ : ∃ c, c = dk[P.toNat]! := ⟨_, rfl⟩; rw [← hI] at l1 X; rw [← hJ] at l2 l3 X; clear hI hJ
            have HS2 : Hid ((swp dk J.toNat P.toNat).size = d0.size) := Lib.hid (by rw [size_swp]; exact HSD.out)
            clear HK HSD hsk hsd hX hY
            go_wp2_with fail
            go_big_region_o
            all_goals go_wp2
            go_roundg P.toNat
            case measure => have := HG1.out; omega
            case rel => exact ⟨P, _, rfl, HG1.out.1, HG1.out.2.1, HG1.out.2.2.1, HS2, X, HI2⟩
          · have hd2 : decide (cf xh xa < 0) = false := decide_eq_false hlv
            have R2 := Lib.hid (HOUT.out (.inr (by unfold ltOf; rw [HXH.out, HXA.out]; exact hd2)))
            generalize cf xh xa = cv at *
            clear HOUT HI HIG
            go_wp2_with fail
            go_quiet_grown (first | (go_at_fn g; refine Calls.grown_of (hcg _ _)))
            go_wp2
            go_roundg (b - (i + 1))
            case measure => omega
            case rel => exact ⟨i + 1, dk, by go_num, by omega, by omega, by omega, HSD, GR.out _ _, R2⟩
        · have hd : decide (J > (a : Int)) = false := decide_eq_false (by omega)
          have hd3 : ¬ (a : Int) < J := by omega
          have R2 := Lib.hid (HOUT.out (.inl (by omega)))
          have HKD := Lib.hid HK.out.drew
          clear HOUT HI
          go_wp2_with fail
          go_big_region_o
          go_wp2
          go_roundg (b - (i + 1))
          case measure => omega
          case rel => exact ⟨i + 1, dk, by go_num, by omega, by omega, by omega, HSD, HKD.out, R2⟩
    · have HF := Lib.hid (show Sort.insertionSort (ltOf cf) d a b = dq by unfold Sort.insertionSort; rw [← HO.out, insOuter_stop _ _ _ _ _ hlt])
      clear HO
      go_wp2
      go_end0
      rw [HF.out]
      exact ⟨rfl, HK0.out⟩
end
end Go.Proofs.YtlnnbkpcnhlfcaaDoor
