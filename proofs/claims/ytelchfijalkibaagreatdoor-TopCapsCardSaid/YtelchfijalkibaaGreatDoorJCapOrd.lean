/- Joined texts: CapOrd, CapMap2, FirstI, Elem, Make. -/
import Derived.Test.YtelchfijalkibaaGreatDoorCapCmp
import Derived.Test.YtelchfijalkibaaGreatDoorOStabOwn
import Derived.Test.YtelchfijalkibaaGreatDoorCapMath
import Derived.Test.YtelchfijalkibaaGreatDoorJMap
import Derived.Test.YtelchfijalkibaaGreatDoorJRelMath
import Derived.Test.YtelchfijalkibaaGreatDoorJFirst
import Derived.Lib.SliceRun
import Derived.Laws.Tables
import Derived.Laws.IdiomCopy
import Derived.Laws.OwnMore
import Derived.OwnWalk
/- The stable sort of the charges' places, walked. -/
set_option linter.unusedSimpArgs false
namespace Go.Proofs.YtelchfijalkibaaGreatDoor
open Go.RowKit Go.Lib Go.Sort Go.Shelf

def castL (l : List Nat) : List Int := l.map fun i : Nat => (i : Int)
def encF {n : Nat} (i : Fin n) : Value := .int .i64 (i.1 : Int)
theorem encF1 {n : Nat} : OneCell (encF (n := n)) := fun _ => rfl
theorem encFE {n : Nat} : Enc (fun x : Fin n => [encF x]) 1 := ⟨fun _ => rfl, fun x u hu => by simp [encF] at hu; subst hu; rfl⟩
theorem own_fin {n e : Nat} {w : World} {base : Nat} {A : Option Addr} {c : Nat} (l : List (Fin n)) : Own e encI 1 w base A c (castL (l.map Fin.val)) ↔ Own e (fun x : Fin n => [encF x]) 1 w base A c l := by
  unfold Own castL
  have : ((l.map Fin.val).map fun i : Nat => (i : Int)).flatMap encI = l.flatMap (fun x => [encF x]) := by
    induction l with
    | nil => rfl
    | cons x t ih => simp only [List.map_cons, List.flatMap_cons]; rw [ih]; rfl
  rw [this, List.length_map, List.length_map]
set_option maxHeartbeats 1000000 in
theorem ordSort {A : Option Addr} (b3 c : Nat) {l : List Cg} {w : World} {base mk : Nat} (hb : w.cell? ⟨b3, 0, none⟩ = some (.slice A l.length c)) (hr : Rd encCg 7 w base A l) (hb3 : b3 < base) (hbase : base ≤ w.heap.size) (hll : l.length ≤ 1000000)
    (hown : Own 3 encI 1 w base (some ⟨mk, 0, none⟩) l.length (castL (List.range l.length))) :
    Calls Tryz.prog 29 #[.slice (some ⟨mk, 0, none⟩) l.length l.length, .func (.func 30) #[] #[.pointer (some ⟨b3, 0, none⟩)]] w fun e w' => e = .returned (.tuple #[]) ∧ Own 3 encI 1 w' base (some ⟨mk, 0, none⟩) l.length (castL (ordN (cvs l))) ∧ Below base w w' := by
  have hcv : (cvs l).length = l.length := by unfold cvs; simp
  by_cases hn : l.length = 0
  · have h0 : ordN (cvs l) = [] := List.eq_nil_of_length_eq_zero (by rw [ordN_len, hcv, hn])
    rw [h0]
    rw [hn] at hown ⊢
    refine (osrt_none _ _ _ w).mono ?_
    rintro e w' ⟨rfl, rfl⟩
    exact ⟨rfl, hown, Below.refl _ _⟩
  · haveI : Inhabited (Fin l.length) := ⟨⟨0, by omega⟩⟩
    have hfr : (List.finRange l.length).map Fin.val = List.range l.length := List.ext_getElem (by simp) (fun i h1 h2 => by simp)
    rw [← hfr] at hown
    have hown2 := (own_fin _).1 hown
    have hmk : base ≤ mk := by
      rcases hown2.form with ⟨h1, _⟩ | ⟨g, h1, h2, _⟩
      · cases h1
      · injection h1 with h1; injection h1 with h1; omega
    have eg : ∀ args w, (callFunc 30 args).run Tryz.prog w = .ok (.enter 30 args) w := enters_of Tryz.func30 (by kernel_rfl) rfl
    have hsrt := ostab_own (c := l.length) encF1 encFE (fun i k : Fin l.length => cmpCh (chAt (cvs l) i.1) (chAt (cvs l) k.1)) ⟨fun x => cmpCh_pre.swo.irrefl _, fun x y z => cmpCh_pre.swo.trans _ _ _, fun x y z => cmpCh_pre.swo.ntrans _ _ _⟩ 30 #[.pointer (some ⟨b3, 0, none⟩)] eg (fun W hW x y => by
      have e1 : W.heap[b3]? = w.heap[b3]? := hW.2 b3 (by omega) (fun g q => by injection q with q; injection q with q; omega)
      have hr2 : Rd encCg 7 W W.heap.size A l := fun hne => by
        obtain ⟨b, off, hA, hbl, hc⟩ := hr hne
        refine ⟨b, off, hA, by have := hW.1; omega, fun i x hi j u hu => ?_⟩
        have e2 : W.heap[b]? = w.heap[b]? := hW.2 b (by omega) (fun g q => by injection q with q; injection q with q; omega)
        exact (World.cell?_of_block e2).trans (hc i x hi j u hu)
      exact apCmp_any b3 c ((World.cell?_of_block e1).trans hb) hr2 x.1 y.1 x.2 y.2) hown2 hbase (by simp; omega)
    have hfl : (List.finRange l.length).length = l.length := by simp
    rw [hfl] at hsrt
    refine hsrt.mono ?_
    rintro e w' ⟨rfl, l', hst, ho, hbl, -⟩
    have hm := stab_map (lt' := ltI (cvs l)) Fin.val (fun x y => rfl) hst
    rw [hfr] at hm
    have : l'.map Fin.val = ordN (cvs l) := by
      have h2 := ordN_stab (cvs l)
      rw [hcv] at h2
      exact hm.unique h2
    rw [← this]
    exact ⟨rfl, (own_fin _).2 ho, hbl⟩
end Go.Proofs.YtelchfijalkibaaGreatDoor
/- What the map of cap.Apply says: plain. -/
namespace Go.Proofs.YtelchfijalkibaaGreatDoor

def gOf (caps : List Cp) (h : Hs) (s : Int × Int) : Int := if 0 ≤ s.1 then ((caps[s.1.toNat]?).map fun c => sumP c s.2 h).getD 0 else 0
def gMid (caps : List Cp) (h h' : Hs) (j : Nat) (s : Int × Int) : Int := if 0 ≤ s.1 ∧ s.1 < j then gOf caps h' s else gOf caps h s
theorem gOf_nil (caps : List Cp) : gOf caps [] = fun _ => 0 := by
  funext s
  unfold gOf
  split
  · cases caps[s.1.toNat]? <;> simp [sumP_nil]
  · rfl
theorem gMid_0 (caps : List Cp) (h h' : Hs) : gMid caps h h' 0 = gOf caps h := by
  funext s; unfold gMid; rw [if_neg (by omega)]
theorem gMid_n (caps : List Cp) (h h' : Hs) : gMid caps h h' caps.length = gOf caps h' := by
  funext s
  unfold gMid
  split
  · rfl
  · rename_i q
    unfold gOf
    split
    · rw [List.getElem?_eq_none (by omega)]; rfl
    · rfl
theorem gOf_at {caps : List Cp} {h : Hs} {j : Nat} {c : Cp} (hc : caps[j]? = some c) (p : Int) : gOf caps h ((j : Int), p) = sumP c p h := by
  unfold gOf; simp [hc]
theorem gMid_at {caps : List Cp} {h h' : Hs} {j : Nat} {c : Cp} (hc : caps[j]? = some c) (p : Int) : gMid caps h h' j ((j : Int), p) = sumP c p h := by
  unfold gMid; rw [if_neg (by simp), gOf_at hc]
theorem gMid_new {caps : List Cp} {h : Hs} {x : CV} {n : Int} {j : Nat} {c : Cp} (hc : caps[j]? = some c) (hm : matB c x = true) :
    gMid caps h (h ++ [(x, n)]) (j + 1) ((j : Int), perN c.days x.tm) = gMid caps h (h ++ [(x, n)]) j ((j : Int), perN c.days x.tm) + n := by
  rw [gMid_at hc]
  unfold gMid
  rw [if_pos (by simp; omega), gOf_at hc, sumP_snoc, if_pos (by unfold inP; simp [hm])]
theorem gMid_oth {caps : List Cp} {h : Hs} {x : CV} {n : Int} {j : Nat} {c : Cp} (hc : caps[j]? = some c) (s : Int × Int) (hs : s ≠ ((j : Int), perN c.days x.tm)) :
    gMid caps h (h ++ [(x, n)]) (j + 1) s = gMid caps h (h ++ [(x, n)]) j s := by
  obtain ⟨s1, s2⟩ := s
  by_cases e : s1 = (j : Int)
  · subst e
    rw [gMid_at hc]
    unfold gMid
    rw [if_pos (by simp; omega), gOf_at hc, sumP_snoc, if_neg]
    · omega
    · intro q
      unfold inP at q
      simp only [Bool.and_eq_true, decide_eq_true_eq] at q
      exact hs (by rw [q.2])
  · unfold gMid
    by_cases q : 0 ≤ s1 ∧ s1 < (j : Int)
    · rw [if_pos q, if_pos (by simp only; omega)]
    · rw [if_neg q, if_neg (by simp only; omega)]
theorem gMid_skip {caps : List Cp} {h : Hs} {x : CV} {n : Int} {j : Nat} {c : Cp} (hc : caps[j]? = some c) (hm : matB c x = false) :
    gMid caps h (h ++ [(x, n)]) (j + 1) = gMid caps h (h ++ [(x, n)]) j := by
  funext s
  by_cases q : s = ((j : Int), perN c.days x.tm)
  · subst q
    rw [gMid_at hc]
    unfold gMid
    rw [if_pos (by simp; omega), gOf_at hc, sumP_snoc, if_neg (by unfold inP; simp [hm])]
    omega
  · exact gMid_oth hc s q
theorem gMid_bnd {caps : List Cp} {h : Hs} (hi : HInv caps h) {j : Nat} {c : Cp} (hc : caps[j]? = some c) (h' : Hs) (p : Int) : 0 ≤ gMid caps h h' j ((j : Int), p) ∧ gMid caps h h' j ((j : Int), p) ≤ c.ct := by
  rw [gMid_at hc]
  exact ⟨sumP_nonneg hi.1 c p, hi.2 c (List.mem_of_getElem? hc) p⟩
def payK (caps : List Cp) (h : Hs) (x : CV) (j : Nat) : Int := (caps.take j).foldl (payS h x) x.ct
theorem payK_n (caps : List Cp) (h : Hs) (x : CV) : payK caps h x caps.length = payN caps h x := by unfold payK; rw [List.take_length]; rfl
theorem payK_succ {caps : List Cp} {h : Hs} {x : CV} {j : Nat} {c : Cp} (hc : caps[j]? = some c) : payK caps h x (j + 1) = payS h x (payK caps h x j) c := by
  unfold payK; rw [take_snoc hc, List.foldl_append]; rfl
theorem payK_bnd {caps : List Cp} {h : Hs} {x : CV} (hi : HInv caps h) (hx : 0 ≤ x.ct) (j : Nat) : 0 ≤ payK caps h x j ∧ payK caps h x j ≤ x.ct := by
  have hi2 : HInv (caps.take j) h := ⟨hi.1, fun c hc p => hi.2 c (List.mem_of_mem_take hc) p⟩
  have := payN_bounds hi2 hx
  exact ⟨this.1, this.2.1⟩
theorem perN_bnd (days t : Int) : -1 ≤ perN days t ∧ perN days t ≤ 1000000 := by
  have hd : -1 ≤ dayN t ∧ dayN t ≤ 795364 := by unfold dayN; split <;> omega
  unfold perN
  split
  · omega
  · split
    · unfold monN monD
      split
      · rename_i q
        have h := month_rng q.1 q.2
        omega
      · omega
    · omega
end Go.Proofs.YtelchfijalkibaaGreatDoor
/- What the walks of both Applies share. -/
set_option linter.unusedSimpArgs false
namespace Go.Proofs.YtelchfijalkibaaGreatDoor
open Go.RowKit Go.Lib

theorem firstI_yes {l : List Int} {k : Nat} {x : Int} (h : ∀ y ∈ l.take k, y = 0) (hx : l[k]? = some x) (h0 : x ≠ 0) : firstI l = x := by
  induction l generalizing k with
  | nil => simp at hx
  | cons y l ih =>
    cases k with
    | zero => simp at hx; subst hx; unfold firstI; rw [if_pos h0]
    | succ k =>
      have hy : y = 0 := h y (by simp)
      unfold firstI
      rw [if_neg (by simp [hy])]
      exact ih (fun z hz => h z (by rw [List.take_succ_cons]; exact List.mem_cons_of_mem _ hz)) (by simpa using hx)
theorem zero_succ {α : Type} {f : α → Int} {l : List α} {k : Nat} {x : α} (hx : l[k]? = some x) (h : ∀ y ∈ (l.map f).take k, y = 0) (h0 : f x = 0) : ∀ y ∈ (l.map f).take (k + 1), y = 0 := by
  intro y hy
  rw [take_snoc (x := f x) (by rw [List.getElem?_map, hx]; rfl)] at hy
  rcases List.mem_append.1 hy with hy | hy
  · exact h y hy
  · rw [List.mem_singleton] at hy; rw [hy, h0]
theorem zero_all {l : List Int} (h : ∀ y ∈ l.take l.length, y = 0) : firstI l = 0 := by rw [List.take_length] at h; exact firstI_zero.2 h
theorem capE_ok {c : Cp} (h : capE c = 0) : 0 ≤ c.ct ∧ c.ct ≤ 1125899906842624 := by
  unfold capE at h
  split at h
  · exact absurd h (by decide)
  · split at h
    · exact absurd h (by decide)
    · split at h
      · exact absurd h (by decide)
      · rename_i q; unfold cmB at q; simpa using q
theorem chE_ok {x : CV} (h : chE x = 0) : (0 ≤ x.ct ∧ x.ct ≤ 1125899906842624) ∧ btmB x.tm = true := by
  unfold chE at h
  split at h
  · exact absurd h (by decide)
  · split at h
    · exact absurd h (by decide)
    · rename_i q q2; unfold cmB at q; exact ⟨by simpa using q, by simpa using q2⟩
/-- all but block mb lies as it lay -/
structure KeepM (mb : Nat) (W W' : World) : Prop where
  bel : Below mb W W'
  oth : ∀ b, b < W.heap.size → b ≠ mb → W'.heap[b]? = W.heap[b]?
theorem KeepM.refl (mb : Nat) (W : World) : KeepM mb W W := ⟨Below.refl _ _, fun _ _ _ => rfl⟩
theorem KeepM.st {mb : Nat} {W W' W2 : World} (h : KeepM mb W W') (hb : Below W'.heap.size W' W2) (hm : mb ≤ W'.heap.size) : KeepM mb W W2 :=
  ⟨h.bel.trans (hb.mono hm), fun b hb1 hne => (hb.block b (Nat.lt_of_lt_of_le hb1 h.bel.size)).trans (h.oth b hb1 hne)⟩
theorem KeepM.add {mb : Nat} {W W' W2 : World} (h : KeepM mb W W') (hb : Below mb W' W2) (ho : ∀ b, b < W'.heap.size → b ≠ mb → W2.heap[b]? = W'.heap[b]?) : KeepM mb W W2 :=
  ⟨h.bel.trans hb, fun b hb1 hne => (ho b (Nat.lt_of_lt_of_le hb1 h.bel.size) hne).trans (h.oth b hb1 hne)⟩
theorem KeepM.blk {mb : Nat} {W W' : World} (h : KeepM mb W W') {b : Nat} {cs : Array Value} {t : TypeId} (B : Blk W b cs t) (hne : b ≠ mb) : Blk W' b cs t := (h.oth b B.lt hne).trans B
/-- what Apply hands back -/
def PaidR (caps : List Cp) (cs : List CV) (w w' : World) (e : Ending) : Prop :=
  ∃ A c r, e = .returned (.tuple #[.slice A r.length c, .int .i64 (applyE caps cs)]) ∧ (applyE caps cs = 0 → r = paidL caps cs) ∧ (applyE caps cs ≠ 0 → r = []) ∧ Own 3 encI 1 w' w.heap.size A c r ∧ Below w.heap.size w w'

theorem applyE_ok {caps : List Cp} {cs : List CV} (h : applyE caps cs = 0) : caps.length ≤ 12 ∧ cs.length ≤ 1024 ∧ (∀ c ∈ caps, capE c = 0) ∧ ∀ x ∈ cs, chE x = 0 := by
  unfold applyE at h
  split at h
  · exact absurd h (by decide)
  · rename_i q
    split at h
    · rename_i q2; exact absurd h q2
    · rename_i q2
      have q3 : firstI (caps.map capE) = 0 := by omega
      exact ⟨by omega, by omega, fun c hc => firstI_zero.1 q3 _ (List.mem_map.2 ⟨c, hc, rfl⟩), fun x hx => firstI_zero.1 h _ (List.mem_map.2 ⟨x, hx, rfl⟩)⟩
end Go.Proofs.YtelchfijalkibaaGreatDoor
/- A whole element stored into a slice of the call's own. -/
namespace Go.Proofs.YtelchfijalkibaaGreatDoor
open Go.RowKit Go.Lib
section
variable {α : Type} {e : Nat} {enc : α → List Value} {k : Nat} {w : World} {base : Nat} {A : Option Addr} {c : Nat} {l : List α}
end
end Go.Proofs.YtelchfijalkibaaGreatDoor
/- make([]T, n) and copy of a whole slice into a slice of the call's own, elements of whatever size. -/
namespace Go.Proofs.YtelchfijalkibaaGreatDoor
open Go.RowKit Go.Lib
section
variable {α : Type} {e : Nat} {enc : α → List Value} {k : Nat} {w : World} {base : Nat} {A : Option Addr} {c : Nat} {l : List α} {P : Program} {t bytes : Nat}
/-- what make hands back is an own slice of zero elements -/
theorem own_made (hE : Enc enc k) (k0 : 0 < k) {z : α} {Z : Value} (hz : Z.cells.toList = enc z) {g n : Nat} (h : w.ownsRow base e k (.slice (some ⟨g, 0, none⟩) n n) n (madeCells Z.cells (n * k)).toList) :
    Own e enc k w base (some ⟨g, 0, none⟩) n (List.replicate n z) := by
  have hzs : Z.cells.size = k := by rw [← Array.length_toList, hz, hE.1]
  have he : (madeCells Z.cells (n * k)).toList = (List.replicate n z).flatMap enc := by
    apply List.ext_getElem?
    intro j
    by_cases hj : j < n * k
    · have e1 : j / k * k + j % k = j := by rw [Nat.mul_comm]; exact Nat.div_add_mod j k
      have hfl := flat_get hE (List.replicate n z) (j / k) (j % k) (Nat.mod_lt _ k0)
      rw [e1] at hfl
      have hjn : j / k < n := by rw [Nat.div_lt_iff_lt_mul k0]; exact hj
      have hjm : j % k < Z.cells.size := by rw [hzs]; exact Nat.mod_lt _ k0
      rw [hfl, List.getElem?_replicate, if_pos hjn, Option.bind_some, ← hz]
      simp [madeCells, hj, hzs, Array.getElem?_eq_getElem hjm, getElem!_pos Z.cells (j % k) hjm]
    · rw [List.getElem?_eq_none (by rw [Array.length_toList, size_madeCells]; omega), List.getElem?_eq_none (by rw [flat_length hE, List.length_replicate]; omega)]
  unfold Own
  rw [List.length_replicate, ← he]
  exact h
/-- make at elements whose zero is no struct -/
theorem wpList_makeZ {ops : Array Oper} {rest : List Oper} {o : Oper} {a : Act} {Q : Exit → Act → World → Prop} (hg : o.guard = none) (x y : Operand) (T : TyS P t e k bytes) (hE : Enc enc k)
    (hop : o.op = Op.makeSlice t x y) (base : Nat) (z : α) (Z0 : Value) (hz : (P.info? e).bind (·.zero) = some Z0) (hZ0 : Z0.cells.toList = enc z)
    (kl kc : IntKind) (n : Nat) (hl : a.eval x = .int kl (n : Int)) (hc : a.eval y = .int kc (n : Int)) (b2 : bytes * n ≤ 281474976710656) (b3 : n ≤ 100000000000) (b4 : base ≤ w.heap.size)
    (h : ∀ w', Own e enc k w' base (some ⟨w.heap.size, 0, none⟩) n (List.replicate n z) → Below w.heap.size w w' → w.heap.size < w'.heap.size → wpList P ops Q rest (a.put o.dst (.slice (some ⟨w.heap.size, 0, none⟩) n n)) w') :
    wpList P ops Q (o :: rest) a w := by
  obtain ⟨i, Z, hi, hz0, hsz, hby, hzs⟩ := T.info
  rw [hi, Option.bind_some, hz0] at hz
  injection hz with hz
  refine wpList_make_full w hg x y t hop base e i Z k T.under hi hz0 hsz kl kc n n n hl hc rfl rfl (by rw [hby]; exact b2) (by unfold maxLen; omega) b4 fun w' h1 h2 => ?_
  refine h w' (own_made hE T.pos (by rw [hz]; exact hZ0) h1) ?_ ?_
  · exact (Below.refl _ w).grown h2 (Nat.le_refl _) fun g hg => by cases hg
  · have := World.ownsRow.lt h1 w.heap.size (by simp [Value.ownBlock])
    exact this.2
end
end Go.Proofs.YtelchfijalkibaaGreatDoor
