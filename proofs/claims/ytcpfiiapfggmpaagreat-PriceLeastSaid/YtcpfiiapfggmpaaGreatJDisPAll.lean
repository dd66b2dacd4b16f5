/- Joined texts: DisPAll, AppAt, SliceOp, StabMath, StabList, Str. -/
import Derived.Test.YtcpfiiapfggmpaaGreatJTarBase
import Derived.Test.YtcpfiiapfggmpaaGreatJDisAll
import Derived.Test.YtcpfiiapfggmpaaGreatJRelMath
import Derived.Deep.RegionHeld3
import Derived.Deep.DrawnRows
import Derived.Test.YtcpfiiapfggmpaaGreatJSpanMath
import Derived.Maps.AppendAt
import Derived.Laws.Slices
import Derived.Sort.LotA
import Derived.Sort.Lot0
import Derived.Shelf.SlSortCmp.Insertion
import Derived.Sort.Walk0
import Derived.Lib.Bytealg
import Derived.Laws.Strings
/- Lists of discounts that are valid: the program's CheckAll accepts them; walked. -/
set_option linter.unusedSimpArgs false
namespace Go.Proofs.YtcpfiiapfggmpaaGreat
open Go.RowKit Go.Lib Go.Shelf

instance : Inhabited Dc := ⟨⟨⟨#[]⟩, 0, 0, ⟨#[]⟩, ⟨#[]⟩, 0, 0, 0, 0, 0⟩⟩
theorem containsD_any (p : Dc → Bool) (g : Nat) (lb : Array Value) (eg : ∀ args w, (callFunc g args).run Tryz.prog w = .ok (.enter g args) w) {A : Option Addr} (c : Nat) {l : List Dc} {w : World}
    (hp : ∀ (W : World) (x : Dc), Below w.heap.size w W → Calls Tryz.prog g (#[.agg (encDc x).toArray] ++ lb) W fun e w' => e = .returned (.bool (p x)) ∧ Below w.heap.size w w')
    (h : Rd encDc 10 w w.heap.size A l) (hl : l.length ≤ 100000000000) :
    Calls Tryz.prog 162 #[.slice A l.length c, .func (.func g) #[] lb] w fun e w' => e = .returned (.bool (l.any p)) ∧ Below w.heap.size w w' := by
  by_cases hne : l = []
  · subst hne
    clear h hp eg
    go_enter Tryz.func162, Tryz.ntmps162
    go_wp2_with go_in
    refine wp_loop_rounds 1 ?_
    rw [rounds_succ]
    go_wp2
    go_ret
    exact ⟨rfl, Below.refl _ _⟩
  · obtain ⟨b, off, rfl, hb, hc⟩ := h hne
    have hcon := AnyQ.slices_ContainsFunc Tryz.lay_containsf_f162 10 Tryz.isAgg93 Tryz.sizeOf93 encDc encDc_ok.1 p g lb eg b off l.length c l w (fun W x hW => hp W x hW) (Nat.le_refl _) (by omega) hb
      (fun j hj i v hi => hc j l[j]! (by rw [getElem!_pos l j hj]; exact List.getElem?_eq_getElem hj) i v hi)
    rw [List.take_length] at hcon
    exact hcon

set_option maxRecDepth 100000 in
set_option maxHeartbeats 4000000 in
theorem sameClosure_any (x : Dc) (nm : ByteArray) (b : Nat) (W : World) (hb : b < W.heap.size) (hc : W.cell? ⟨b, 0, none⟩ = some (.string nm)) :
    Calls Tryz.prog 163 #[.agg (encDc x).toArray, .pointer (some ⟨b, 0, none⟩)] W fun e w' => e = .returned (.bool (eqS x.nm nm)) ∧ Below W.heap.size W w' := by
  have hbel := (Below.refl W.heap.size W).al (.cells #[.string x.nm, .int .i64 x.kd, .int .i64 x.am, .string x.gr, .string x.sy, .int .i64 x.cl, .int .i64 x.wd, .int .i64 x.wf, .int .i64 x.wt, .int .i64 x.le] 93)
  have hb3 : b ≠ W.heap.size := by omega
  show Calls Tryz.prog 163 #[.agg #[.string x.nm, .int .i64 x.kd, .int .i64 x.am, .string x.gr, .string x.sy, .int .i64 x.cl, .int .i64 x.wd, .int .i64 x.wf, .int .i64 x.wt, .int .i64 x.le], .pointer (some ⟨b, 0, none⟩)] W fun e w' => e = .returned (.bool (eqS x.nm nm)) ∧ Below W.heap.size W w'
  have t0 : (x.nm.toList == nm.toList) = eqS x.nm nm := rfl
  generalize eqS x.nm nm = r at *
  cases r
  all_goals
    go_enter Tryz.func163, Tryz.ntmps163
    go_wp2
    go_ret
    exact ⟨rfl, hbel⟩
set_option maxRecDepth 100000 in
set_option maxHeartbeats 16000000 in
theorem pall_any {A : Option Addr} (c : Nat) {l : List Dc} {w : World} (hok : LOk l) (hlc : l.length ≤ c) (hr : Rd encDc 10 w w.heap.size A l) :
    Calls Tryz.prog 133 #[.slice A l.length c] w fun e w' => e = .returned (.int .i64 0) ∧ Below w.heap.size w w' := by
  have HR := Lib.hid hr
  have HO := Lib.hid hok
  have HC := Lib.hid hlc
  clear hlc
  have eg := Lib.hid (enters_of Tryz.func163 (by kernel_rfl) rfl)
  have q2 : ¬ (12 : Int) < (l.length : Int) := by have := hok.few; omega
  clear hr hok
  go_enter Tryz.func133, Tryz.ntmps133
  go_wp2_with fail
  go_loopw [11] (fun j wr => ∃ k : Nat, k ≤ l.length ∧ j = .int .i64 k ∧ Below w.heap.size w wr) (fun j _ => l.length - (RowKit.intOf j).toNat)
  case atStart => exact ⟨0, Nat.zero_le _, rfl, Below.refl _ _⟩
  case round =>
    obtain ⟨k, hk, rfl, bW⟩ := hrel
    have k1 : (0 : Int) ≤ (k : Int) := by omega
    by_cases hi : k < l.length
    · have k2 : (k : Int) < (l.length : Int) := by omega
      obtain ⟨b, off, x, rfl, hb, hx, hc⟩ := (HR.out.st bW).at_ hi
      have HX := Lib.hid hx
      have d0 := hc 0 _ rfl
      have d1 := hc 1 _ rfl
      have d2 := hc 2 _ rfl
      have d3 := hc 3 _ rfl
      have d4 := hc 4 _ rfl
      have d5 := hc 5 _ rfl
      have d6 := hc 6 _ rfl
      have d7 := hc 7 _ rfl
      have d8 := hc 8 _ rfl
      have d9 := hc 9 _ rfl
      simp only [Nat.add_zero] at d0
      have CX := Lib.hid (fun (X : World) => pcheck_any (HO.out.all.ok k x hi hx) X)
      have HI := Lib.hid hi
      clear hx hi hc hb
      obtain ⟨Y, hY⟩ : ∃ Y, wr.alloc (.cells #[.string x.nm, .int .i64 x.kd, .int .i64 x.am, .string x.gr, .string x.sy, .int .i64 x.cl, .int .i64 x.wd, .int .i64 x.wf, .int .i64 x.wt, .int .i64 x.le] 93) = Y := ⟨_, rfl⟩
      have bY : Below wr.heap.size wr Y := by rw [← hY]; exact (Below.refl _ wr).al _
      have B1 : Blk Y wr.heap.size #[.string x.nm, .int .i64 x.kd, .int .i64 x.am, .string x.gr, .string x.sy, .int .i64 x.cl, .int .i64 x.wd, .int .i64 x.wf, .int .i64 x.wt, .int .i64 x.le] 93 := by rw [← hY]; exact Blk.new wr _ _
      have z0 := B1.cell 0 (v := .string x.nm) rfl
      have z1 := B1.cell 1 (v := .int .i64 x.kd) rfl
      have z2 := B1.cell 2 (v := .int .i64 x.am) rfl
      have z3 := B1.cell 3 (v := .string x.gr) rfl
      have z4 := B1.cell 4 (v := .string x.sy) rfl
      have z5 := B1.cell 5 (v := .int .i64 x.cl) rfl
      have z6 := B1.cell 6 (v := .int .i64 x.wd) rfl
      have z7 := B1.cell 7 (v := .int .i64 x.wf) rfl
      have z8 := B1.cell 8 (v := .int .i64 x.wt) rfl
      have z9 := B1.cell 9 (v := .int .i64 x.le) rfl
      go_wp2_with fail
      refine (CX.out _).mono ?_
      rintro e W3 ⟨rfl, hbn⟩
      have bY := bY.st hbn
      have B1 := B1.below hbn B1.lt
      have bW := bW.st bY
      clear hbn z0 z1 z2 z3 z4 z5 z6 z7 z8 z9 d0 d1 d2 d3 d4 d5 d6 d7 d8 d9 CX hY
      have z0 := B1.cell 0 (v := .string x.nm) rfl
      have hkl : l.length.min k = k := Nat.min_eq_right (Nat.le_of_lt HI.out)
      have hl2 : (l.take k).length = k := by rw [List.length_take]; exact Nat.min_eq_left (Nat.le_of_lt HI.out)
      have hno : (l.take k).any (fun y => eqS y.nm x.nm) = false := by
        rw [List.any_eq_false]
        intro y hy
        obtain ⟨j, hj, rfl⟩ := List.mem_iff_getElem.1 hy
        rw [List.getElem_take]
        have hjk : j < k := by rw [hl2] at hj; exact hj
        have h := HO.out.all.nd k j x l[j] hjk HI.out HX.out (List.getElem?_eq_getElem _)
        simp [h]
      have CA := Lib.hid (containsD_any (fun y => eqS y.nm x.nm) 163 #[.pointer (some ⟨wr.heap.size, 0, none⟩)] eg.out c (w := W3) (fun W y hW => (sameClosure_any y x.nm wr.heap.size W (Nat.lt_of_lt_of_le B1.lt hW.size) ((hW.cell (p := ⟨wr.heap.size, 0, none⟩) B1.lt).trans z0)).mono fun e w' ⟨he, hw'⟩ => ⟨he, hW.trans (hw'.mono hW.size)⟩) ((HR.out.st bW).take k) (by rw [hl2]; have := HO.out.few; have := HI.out; omega))
      rw [hl2, hno] at CA
      have HW := Lib.hid bW
      have kc : k ≤ c := by have := HI.out; have := HC.out; omega
      clear hno hl2 hkl z0 bY bW
      go_wp2_with fail
      refine CA.out.mono ?_
      rintro e W4 ⟨rfl, hbn⟩
      have bW4 := HW.out.st hbn
      clear hbn CA
      go_wp2_with fail
      go_roundw
      case rel => exact ⟨k + 1, HI.out, by go_num, bW4⟩
      case measure => have := HI.out; simp [RowKit.intOf]; omega
    · obtain rfl : k = l.length := by omega
      go_wp2_with fail
      go_ret
      exact ⟨rfl, bW⟩
end Go.Proofs.YtcpfiiapfggmpaaGreat
/- append of one element to a slice of the call's own, with where the new slice lies. -/
namespace Go.Proofs.YtcpfiiapfggmpaaGreat
open Go.RowKit Go.Lib
section
variable {α : Type} {enc : α → List Value} {k : Nat} {A : Option Addr} {c : Nat} {l : List α} {P : Program} {t e bytes : Nat}
theorem wpList_app1a {w0 : World} {ops : Array Oper} {rest : List Oper} {o : Oper} {a : Act} {Q : Exit → Act → World → Prop} (hgd : o.guard = none) (s y : Operand)
    (T : TyS P t e k bytes) (hE : Enc enc k)
    (ho : o.op = .call { callee := .builtin .append, args := #[s, y], argTypes := #[t, t] })
    {cs : Array Value} (x : α) (hcs : cs.toList = enc x)
    (base : Nat) {n : Nat} (hs : a.eval s = .slice A n c) (hn : n = l.length) (hown : Own e enc k w0 base A c l)
    {g0 : Nat} (hx : a.eval y = .slice (some ⟨g0, 0, none⟩) 1 1) (hg0 : w0.heap.size = g0)
    (hbytes : (l.length + 1) * bytes ≤ 140737488355328) (hmax : l.length ≤ 8000000000000000000) (hbase : base ≤ w0.heap.size)
    (h : ∀ A' c' w', Own e enc k w' base A' c' (l ++ [x]) → Below base w0 w' → w0.heap.size < w'.heap.size → (∀ b, b < w0.heap.size → (∀ g, A = some ⟨g, 0, none⟩ → b ≠ g) → w'.heap[b]? = w0.heap[b]?) →
      (∀ g, A' = some ⟨g, 0, none⟩ → A = some ⟨g, 0, none⟩ ∨ w0.heap.size ≤ g) → wpList P ops Q rest (a.put o.dst (.slice A' (n + 1) c')) w') : wpList P ops Q (o :: rest) a (w0.alloc (.cells cs e)) := by
  subst hn
  subst hg0
  obtain ⟨i, z, hi, hz, hsz, hby, hzs⟩ := T.info
  refine wpList_append_own_at (w0.alloc (.cells cs e)) hgd s y t ho base e i z k bytes T.under hi hz hsz hby hzs T.pos (.slice A l.length c) l.length (l.flatMap enc) hs (hown.alloc _) ⟨w0.heap.size, 0, none⟩ 1 1 ([x].flatMap enc) hx (by rw [flat_length hE]; rfl) ?_ ?_ (by unfold maxLen; omega) hbytes (by simp; omega) ?_
  · intro j u hu
    have hadd : (⟨w0.heap.size, 0, none⟩ : Addr).add j = ⟨w0.heap.size, j, none⟩ := by unfold Addr.add; split <;> simp_all
    rw [hadd, cell_of_row _ _ _ cs e (0, 0) (heap_alloc_new w0 _)]
    simp only [List.flatMap_cons, List.flatMap_nil, List.append_nil] at hu
    rw [← hcs] at hu
    simpa using hu
  · intro u hu
    rw [List.mem_flatMap] at hu
    obtain ⟨y, _, hy⟩ := hu
    exact hE.2 y u hy
  · intro v' w' hown' hg _ hloc
    obtain ⟨A', c'', hv⟩ : ∃ A' c'', v' = .slice A' (l.length + 1) c'' := by
      rcases hown'.2 with ⟨hv, h0⟩ | ⟨g, cap, cur, hv, _⟩
      · exact ⟨none, 0, by rw [hv, h0]⟩
      · exact ⟨_, _, by rw [hv]⟩
    subst hv
    have hgs := hg.size
    have hblk : ∀ b, b < w0.heap.size → (∀ g, A = some ⟨g, 0, none⟩ → b ≠ g) → w'.heap[b]? = w0.heap[b]? := fun b hb hne => by
      refine (hg.block b (by simp; omega) fun hh => ?_).trans ((World.grownBy_alloc w0 _ none).block b hb (by simp))
      cases A with
      | none => simp [Value.ownBlock] at hh
      | some q =>
        rcases hown.form with ⟨hA, _⟩ | ⟨g, hA, _⟩
        · cases hA
        · injection hA with hA
          subst hA
          simp [Value.ownBlock] at hh
          exact hne g rfl hh
    refine h A' c'' w' ?_ ?_ (by simp at hgs; omega) hblk ?_
    · unfold Own
      rw [← List.flatMap_append] at hown'
      rw [show (l ++ [x]).length = l.length + 1 by simp]
      exact hown'
    · refine ((Below.refl base w0).alloc hbase _).trans ((Below.refl base _).grown hg (by simp; omega) fun g hgo => ?_)
      exact (World.ownsRow.lt (World.ownsRow.alloc hown (.cells cs e)) g (by rw [hgo])).1
    · intro g hA
      subst hA
      simp only [Value.ownBlock] at hloc
      cases A with
      | none => right; simp at hloc; omega
      | some q =>
        rcases hown.form with ⟨hA, _⟩ | ⟨g', hA, _⟩
        · cases hA
        · injection hA with hA
          subst hA
          simp at hloc
          rcases hloc with q | q
          · left; rw [q]
          · right; omega
/-- two slices of the call's own in different blocks -/
def Ap (A B : Option Addr) : Prop := ∀ g, A = some ⟨g, 0, none⟩ → B ≠ some ⟨g, 0, none⟩
theorem Ap.symm {A B : Option Addr} (h : Ap A B) : Ap B A := fun g h1 h2 => h g h2 h1
theorem Ap.keep {A B : Option Addr} {c : Nat} {l : List α} {base : Nat} {w w' : World} (h : Ap A B) (ho : Own e enc k w base B c l) (hf : ∀ b, b < w.heap.size → (∀ g, A = some ⟨g, 0, none⟩ → b ≠ g) → w'.heap[b]? = w.heap[b]?) : Own e enc k w' base B c l :=
  ho.keepB fun g hg hl => hf g hl fun g' e q => h g' e (by rw [hg, q])
end
end Go.Proofs.YtcpfiiapfggmpaaGreat
/- Slicing a slice: x[:j], x[j:], as operations. -/
namespace Go.Proofs.YtcpfiiapfggmpaaGreat
open Go.RowKit Go.Lib
section
variable {α : Type} {enc : α → List Value} {k : Nat} {A : Option Addr} {l : List α} {P : Program} {t e bytes : Nat} {w : World}
theorem TyS.size (T : TyS P t e k bytes) (w : World) : (Go.sizeOf e).run P w = .ok k w := by
  obtain ⟨i, z, hi, hz, hsz, hby, hzs⟩ := T.info
  simp [Go.sizeOf, typeInfo, hi, hsz]
theorem Rd.drop {B : Nat} (h : Rd enc k w B A l) (j c : Nat) (hj : j ≤ l.length) (hc : l.length ≤ c) : Rd enc k w B (if c = j then A else A.map (·.add (j * k))) (l.drop j) := by
  intro hne
  have hlt : j < l.length := by
    rcases Nat.lt_or_ge j l.length with q | q
    · exact q
    · exact absurd (List.drop_eq_nil_of_le q) hne
  obtain ⟨b, off, hA, hb, hcell⟩ := h (fun q => by rw [q] at hlt; cases hlt)
  rw [if_neg (by omega), hA]
  refine ⟨b, off + j * k, by simp [Addr.add], hb, fun i x hi m u hu => ?_⟩
  rw [List.getElem?_drop] at hi
  have := hcell (j + i) x hi m u hu
  rw [show off + (j + i) * k + m = off + j * k + i * k + m by rw [Nat.add_mul]; omega] at this
  exact this
end
end Go.Proofs.YtcpfiiapfggmpaaGreat
/- A stable sort by rotations, plain: elements bear tags; the order on tagged elements is strict and total. No program in sight. -/
namespace Go.Proofs.YtcpfiiapfggmpaaGreat
open Go.Sort

section
variable {α : Type} [Inhabited α]

/-- the order on tagged elements -/
def lexB (lt : α → α → Bool) (x y : α × Nat) : Bool := lt x.1 y.1 || (!lt y.1 x.1 && decide (x.2 < y.2))
def fstB (lt : α → α → Bool) (x y : α × Nat) : Bool := lt x.1 y.1
variable {lt : α → α → Bool}
omit [Inhabited α] in
theorem lexB_iff (x y : α × Nat) : lexB lt x y = true ↔ lt x.1 y.1 = true ∨ (lt y.1 x.1 = false ∧ x.2 < y.2) := by simp [lexB]
omit [Inhabited α] in
theorem lexB_no (x y : α × Nat) : lexB lt x y = false ↔ lt x.1 y.1 = false ∧ (lt y.1 x.1 = true ∨ y.2 ≤ x.2) := by
  unfold lexB
  cases lt x.1 y.1 <;> cases lt y.1 x.1 <;> simp
omit [Inhabited α] in
theorem lexB_swo (h : SWO lt) : SWO (lexB lt) where
  irrefl x := by rw [lexB_no]; exact ⟨h.irrefl _, .inr (Nat.le_refl _)⟩
  trans x y z a b := by
    rw [lexB_iff] at a b ⊢
    rcases a with a | ⟨a1, a2⟩ <;> rcases b with b | ⟨b1, b2⟩
    · exact .inl (h.trans _ _ _ a b)
    · cases hxz : lt x.1 z.1
      · exact absurd (h.ntrans _ _ _ hxz b1) (by rw [a]; simp)
      · exact .inl rfl
    · cases hxz : lt x.1 z.1
      · exact absurd (h.ntrans _ _ _ a1 hxz) (by rw [b]; simp)
      · exact .inl rfl
    · exact .inr ⟨h.ntrans _ _ _ b1 a1, by omega⟩
  ntrans x y z a b := by
    rw [lexB_no] at a b ⊢
    refine ⟨h.ntrans _ _ _ a.1 b.1, ?_⟩
    cases hzx : lt z.1 x.1
    · right
      have e1 : lt y.1 x.1 = false := by
        cases e : lt y.1 x.1
        · rfl
        · exact absurd (h.ntrans _ _ _ b.1 hzx) (by rw [e]; simp)
      have e2 : lt z.1 y.1 = false := by
        cases e : lt z.1 y.1
        · rfl
        · exact absurd (h.ntrans _ _ _ hzx a.1) (by rw [e]; simp)
      rcases a.2 with q | q
      · rw [e1] at q; cases q
      · rcases b.2 with r | r
        · rw [e2] at r; cases r
        · omega
    · exact .inl rfl
omit [Inhabited α] in
/-- an earlier one is compared by its value alone -/
theorem lexB_late {x y : α × Nat} (h : y.2 < x.2) : lexB lt x y = fstB lt x y := by
  unfold lexB fstB
  rw [show decide (x.2 < y.2) = false by simp; omega]
  simp
omit [Inhabited α] in
theorem lex_flip (h : SWO lt) {x y : α × Nat} (hxy : lexB lt x y = true) : lexB lt y x = false := (lexB_swo h).asymmA hxy

/-! ### the insertion sort of elements whose tags ascend -/
theorem insInner_lex {a : Nat} : ∀ (j : Nat) (d : Array (α × Nat)), j < d.size → (∀ t, a ≤ t → t < j → d[t]!.2 < d[j]!.2) → insInner (fstB lt) a j d = insInner (lexB lt) a j d
  | 0, _, _, _ => rfl
  | j + 1, d, hj, h => by
    rw [insInner, insInner]
    by_cases ha : j + 1 > a
    · have hl := lexB_late (lt := lt) (h j (by omega) (by omega))
      rw [hl]
      cases hc : fstB lt d[j + 1]! d[j]!
      · simp
      · simp only [ha, decide_true, Bool.and_self, ↓reduceIte]
        refine insInner_lex j (swp d (j + 1) j) (by rw [size_swp]; omega) fun t h1 h2 => ?_
        rw [swp_other _ _ _ _ (by omega) (by omega), swp_right _ _ _ (by omega)]
        exact h t h1 (by omega)
    · simp [ha]
theorem insOuter_lex (hS : SWO lt) {a b : Nat} : ∀ (n i : Nat) (d : Array (α × Nat)), b - i = n → a ≤ i → b ≤ d.size → (∀ s t, a ≤ s → s < t → i ≤ t → t < b → d[s]!.2 < d[t]!.2) → insOuter (fstB lt) a b i d = insOuter (lexB lt) a b i d
  | 0, i, d, hn, _, _, _ => by rw [insOuter_stop _ _ _ _ _ (by omega), insOuter_stop _ _ _ _ _ (by omega)]
  | n + 1, i, d, hn, hai, hb, h => by
    rw [insOuter_go _ _ _ _ _ (by omega : i < b), insOuter_go _ _ _ _ _ (by omega : i < b), insInner_lex i d (by omega) (fun t h1 h2 => h t i h1 h2 (Nat.le_refl _) (by omega))]
    have key : PermIn a (i + 1) d (insInner (lexB lt) a i d) := by
      have : ∀ (j : Nat) (d : Array (α × Nat)), j ≤ i → b ≤ d.size → PermIn a (i + 1) d (insInner (lexB lt) a j d) := by
        intro j
        induction j with
        | zero => intro d _ _; exact permIn_refl _ _ _
        | succ j ih =>
          intro d hj hd
          rw [insInner]
          split
          · rename_i hc
            simp only [gt_iff_lt, Bool.and_eq_true, decide_eq_true_eq] at hc
            refine permIn_trans _ _ _ _ _ (swp_permIn d a (i + 1) (j + 1) j (by omega) (by omega) (by omega) (by omega) (by omega)) (ih _ (by omega) (by rw [size_swp]; exact hd))
          · exact permIn_refl _ _ _
      exact this i d (Nat.le_refl _) hb
    refine insOuter_lex hS n (i + 1) _ (by omega) (by omega) (by rw [key.1]; exact hb) fun s t h1 h2 h3 h4 => ?_
    rw [key.2.1 t (.inr (by omega))]
    by_cases hs : s < i + 1
    · exact permIn_all d _ a (i + 1) (fun x => x.2 < d[t]!.2) (by omega) key (fun u h5 h6 => h u t h5 (by omega) (by omega) h4) s h1 hs
    · rw [key.2.1 s (.inr (by omega))]
      exact h s t h1 h2 (by omega) h4
theorem insSort_lex (hS : SWO lt) {a b : Nat} {d : Array (α × Nat)} (hab : a ≤ b) (hb : b ≤ d.size) (h : ∀ s t, a ≤ s → s < t → t < b → d[s]!.2 < d[t]!.2) :
    PermIn a b d (insertionSort (fstB lt) d a b) ∧ SortedIn (lexB lt) a b (insertionSort (fstB lt) d a b) := by
  have e : insertionSort (fstB lt) d a b = insertionSort (lexB lt) d a b := by
    unfold insertionSort
    exact insOuter_lex hS _ (a + 1) d rfl (by omega) hb fun s t h1 h2 _ h4 => h s t h1 h2 h4
  rw [e]
  exact insertionSort_holds (lexB_swo hS) d a b hab hb
end

/-! ### moves -/
section
variable {β : Type} [Inhabited β]
/-- d' holds at t what d held at f t -/
def Moved (f : Nat → Nat) (d d' : Array β) : Prop := d'.size = d.size ∧ ∀ t, t < d.size → d'[t]! = d[f t]!
theorem Moved.refl (d : Array β) : Moved (fun t => t) d d := ⟨rfl, fun _ _ => rfl⟩
theorem Moved.congr {f g : Nat → Nat} {d d' : Array β} (h : Moved f d d') (e : ∀ t, t < d.size → f t = g t) : Moved g d d' := ⟨h.1, fun t ht => by rw [h.2 t ht, e t ht]⟩
theorem Moved.trans {f g : Nat → Nat} {d d' d'' : Array β} (h : Moved f d d') (k : Moved g d' d'') (hg : ∀ t, t < d.size → g t < d.size) : Moved (fun t => f (g t)) d d'' :=
  ⟨k.1.trans h.1, fun t ht => by rw [k.2 t (by rw [h.1]; exact ht), h.2 _ (hg t ht)]⟩
def swF (i j t : Nat) : Nat := if t = i then j else if t = j then i else t
theorem Moved.swp (d : Array β) {i j : Nat} (hi : i < d.size) (hj : j < d.size) : Moved (swF i j) d (Go.Sort.swp d i j) := by
  refine ⟨size_swp _ _ _, fun t _ => ?_⟩
  unfold swF
  by_cases h1 : t = i
  · rw [if_pos h1, h1]
    by_cases h2 : i = j
    · rw [h2, swp_right _ _ _ hj]
    · rw [swp_left _ _ _ hi h2]
  · rw [if_neg h1]
    by_cases h2 : t = j
    · rw [if_pos h2, h2, swp_right _ _ _ hj]
    · rw [if_neg h2, swp_other _ _ _ _ h1 h2]
/-- two ranges of n exchanged -/
def raF (a b n t : Nat) : Nat := if a ≤ t ∧ t < a + n then t - a + b else if b ≤ t ∧ t < b + n then t - b + a else t
theorem raF_zero (a b t : Nat) : raF a b 0 t = t := by unfold raF; rw [if_neg (by omega), if_neg (by omega)]
theorem Moved.ra {d dk : Array β} {a b n k : Nat} (h : Moved (raF a b k) d dk) (hk : k < n) (hab : a + n ≤ b) (hb : b + n ≤ d.size) : Moved (raF a b (k + 1)) d (Go.Sort.swp dk (a + k) (b + k)) := by
  refine (h.trans (Moved.swp dk (i := a + k) (j := b + k) (by rw [h.1]; omega) (by rw [h.1]; omega)) fun t ht => ?_).congr fun t ht => ?_
  · unfold swF
    repeat' split
    all_goals omega
  · unfold swF raF
    repeat' split
    all_goals omega
/-- the ranges [s, m) and [m, e) turned about -/
def roF (s m e t : Nat) : Nat := if s ≤ t ∧ t < s + (e - m) then t + (m - s) else if s + (e - m) ≤ t ∧ t < e then t - (e - m) else t
theorem roF_lt {s m e t n : Nat} (h1 : s ≤ m) (h2 : m ≤ e) (he : e ≤ n) (ht : t < n) : roF s m e t < n := by
  unfold roF
  repeat' split
  all_goals omega
/-- one step of the rotation: i > j -/
theorem roF_big {m i j t : Nat} (hi : j < i) (hm : i ≤ m) : raF (m - i) m j (roF (m - (i - j)) m (m + j) t) = roF (m - i) m (m + j) t := by
  unfold raF roF
  repeat' split
  all_goals omega
/-- one step of the rotation: i < j -/
theorem roF_small {m i j t : Nat} (hi : i < j) (hm : i ≤ m) : raF (m - i) (m + j - i) i (roF (m - i) m (m + (j - i)) t) = roF (m - i) m (m + j) t := by
  unfold raF roF
  repeat' split
  all_goals omega
theorem roF_even {m i t : Nat} (hm : i ≤ m) : raF (m - i) m i t = roF (m - i) m (m + i) t := by
  unfold raF roF
  repeat' split
  all_goals omega
/-- what lay at a comes to i - 1, all between one down -/
def dnF (a i t : Nat) : Nat := if a ≤ t ∧ t + 1 < i then t + 1 else if t + 1 = i ∧ a < i then a else t
theorem Moved.dn {d dk : Array β} {a k : Nat} (h : Moved (dnF a (k + 1)) d dk) (hak : a ≤ k) (hk : k + 1 < d.size) : Moved (dnF a (k + 1 + 1)) d (Go.Sort.swp dk k (k + 1)) := by
  refine (h.trans (Moved.swp dk (i := k) (j := k + 1) (by rw [h.1]; omega) (by rw [h.1]; omega)) fun t ht => ?_).congr fun t ht => ?_
  · unfold swF
    repeat' split
    all_goals omega
  · unfold swF dnF
    repeat' split
    all_goals omega
theorem dnF_start {a t : Nat} : dnF a (a + 1) t = t := by
  unfold dnF
  repeat' split
  all_goals omega
/-- what lay at m comes to i, all between one up -/
def upF (i m t : Nat) : Nat := if t = i ∧ i ≤ m then m else if i < t ∧ t ≤ m then t - 1 else t
theorem upF_start {m t : Nat} : upF m m t = t := by
  unfold upF
  repeat' split
  all_goals omega
theorem Moved.up {d dk : Array β} {k m : Nat} (h : Moved (upF (k + 1) m) d dk) (hk : k + 1 ≤ m) (hm : m < d.size) : Moved (upF k m) d (Go.Sort.swp dk (k + 1) k) := by
  refine (h.trans (Moved.swp dk (i := k + 1) (j := k) (by rw [h.1]; omega) (by rw [h.1]; omega)) fun t ht => ?_).congr fun t ht => ?_
  · unfold swF
    repeat' split
    all_goals omega
  · unfold swF upF
    repeat' split
    all_goals omega
end
end Go.Proofs.YtcpfiiapfggmpaaGreat
/- What a stable sort makes of a list, plain. No program in sight. -/
namespace Go.Proofs.YtcpfiiapfggmpaaGreat
open Go.Sort

section
variable {β : Type} {lt : β → β → Bool}
/-- l' is l sorted stably -/
def StabOf (lt : β → β → Bool) (l l' : List β) : Prop := ∃ t : List (β × Nat), t.Perm l.zipIdx ∧ t.Pairwise (fun x y => lexB lt y x = false) ∧ l' = t.map Prod.fst
theorem StabOf.perm {l l' : List β} (h : StabOf lt l l') : l'.Perm l := by
  obtain ⟨t, hp, _, rfl⟩ := h
  have := hp.map Prod.fst
  rwa [List.zipIdx_map_fst] at this
theorem zipIdx_same {l : List β} {x y : β × Nat} (hx : x ∈ l.zipIdx) (hy : y ∈ l.zipIdx) (h : x.2 = y.2) : x = y := by
  obtain ⟨x, i⟩ := x
  obtain ⟨y, j⟩ := y
  have a := List.mem_zipIdx_iff_getElem?.1 hx
  have b := List.mem_zipIdx_iff_getElem?.1 hy
  simp only at h a b
  subst h
  rw [a] at b
  simpa using b
theorem StabOf.unique {l a b : List β} (h : StabOf lt l a) (k : StabOf lt l b) : a = b := by
  obtain ⟨t, hp, hs, rfl⟩ := h
  obtain ⟨u, kp, ks, rfl⟩ := k
  congr 1
  refine List.Perm.eq_of_pairwise (le := fun x y => lexB lt y x = false) ?_ hs ks (hp.trans kp.symm)
  intro x y hx hy h1 h2
  rw [lexB_no] at h1 h2
  refine zipIdx_same (hp.subset hx) (kp.subset hy) ?_
  rcases h1.2 with q | q
  · rw [h2.1] at q; cases q
  · rcases h2.2 with r | r
    · rw [h1.1] at r; cases r
    · omega
/-- one element more, behind its equals -/
def insS (lt : β → β → Bool) (x : β) : List β → List β
  | [] => [x]
  | y :: r => if lt x y then x :: y :: r else y :: insS lt x r
def insT (lt : β → β → Bool) (x : β × Nat) : List (β × Nat) → List (β × Nat)
  | [] => [x]
  | y :: r => if lt x.1 y.1 then x :: y :: r else y :: insT lt x r
theorem insT_fst (x : β × Nat) : ∀ t : List (β × Nat), (insT lt x t).map Prod.fst = insS lt x.1 (t.map Prod.fst)
  | [] => rfl
  | y :: r => by
    rw [insT, List.map_cons, insS]
    split
    · rfl
    · rw [List.map_cons, insT_fst x r]
theorem insT_perm (x : β × Nat) : ∀ t : List (β × Nat), (insT lt x t).Perm (x :: t)
  | [] => List.Perm.refl _
  | y :: r => by
    rw [insT]
    split
    · exact List.Perm.refl _
    · exact ((insT_perm x r).cons y).trans (List.Perm.swap x y r)
theorem insT_sorted (hS : SWO lt) (x : β × Nat) : ∀ t : List (β × Nat), t.Pairwise (fun a b => lexB lt b a = false) → (∀ y ∈ t, y.2 < x.2) → (insT lt x t).Pairwise (fun a b => lexB lt b a = false)
  | [], _, _ => by simp [insT]
  | y :: r, h, ht => by
    rw [insT]
    have h' := List.pairwise_cons.1 h
    split
    · rename_i hxy
      refine List.pairwise_cons.2 ⟨fun z hz => ?_, h⟩
      have hzy : lt z.1 y.1 = false := by
        rcases List.mem_cons.1 hz with rfl | hz
        · exact hS.irrefl _
        · have := h'.1 z hz
          rw [lexB_no] at this
          exact this.1
      have hxz : lt x.1 z.1 = true := by
        cases e : lt x.1 z.1
        · rw [hS.ntrans _ _ _ e hzy] at hxy; cases hxy
        · rfl
      rw [lexB_no]
      exact ⟨hS.asymmA hxz, .inl hxz⟩
    · rename_i hxy
      have hxy' : lt x.1 y.1 = false := by simpa using hxy
      refine List.pairwise_cons.2 ⟨fun z hz => ?_, insT_sorted hS x r h'.2 fun z hz => ht z (List.mem_cons_of_mem _ hz)⟩
      rcases List.mem_cons.1 ((insT_perm x r).subset hz) with rfl | hz
      · rw [lexB_no]
        exact ⟨hxy', .inr (Nat.le_of_lt (ht y (List.mem_cons_self ..)))⟩
      · exact h'.1 z hz
theorem StabOf.nil : StabOf lt [] ([] : List β) := ⟨[], List.Perm.refl _, List.Pairwise.nil, rfl⟩
theorem StabOf.snoc (hS : SWO lt) {l r : List β} (h : StabOf lt l r) (x : β) : StabOf lt (l ++ [x]) (insS lt x r) := by
  obtain ⟨t, hp, hs, rfl⟩ := h
  refine ⟨insT lt (x, l.length) t, ?_, insT_sorted hS _ t hs fun y hy => ?_, (insT_fst (x, l.length) t).symm⟩
  · refine (insT_perm _ t).trans ?_
    rw [List.zipIdx_append]
    simp only [List.zipIdx_cons, List.zipIdx_nil, Nat.zero_add]
    exact (hp.cons _).trans (List.perm_append_singleton _ _).symm
  · obtain ⟨y, j⟩ := y
    have := List.mem_zipIdx_iff_getElem?.1 (hp.subset hy)
    exact (List.getElem?_eq_some_iff.1 this).1
end
end Go.Proofs.YtcpfiiapfggmpaaGreat
/- Strings: equality and order as the walk spells them. No program in sight. -/
namespace Go.Proofs.YtcpfiiapfggmpaaGreat
open Go.Sort

def sltB (a b : ByteArray) : Bool := decide (a.toList < b.toList)
theorem cmp_lt : ∀ a b : List UInt8, (Lib.compareBytes a b < 0 ↔ a < b) ∧ (0 < Lib.compareBytes a b ↔ b < a)
  | [], [] => by simp [Lib.compareBytes]
  | [], _ :: _ => by simp [Lib.compareBytes]
  | _ :: _, [] => by simp [Lib.compareBytes]
  | x :: a, y :: b => by
    have ih := cmp_lt a b
    unfold Lib.compareBytes
    rw [List.cons_lt_cons_iff, List.cons_lt_cons_iff]
    by_cases h1 : x < y
    · have h2 : ¬ y < x := fun h => UInt8.lt_irrefl _ (UInt8.lt_trans h1 h)
      have h3 : ¬ y = x := fun h => by subst h; exact UInt8.lt_irrefl _ h1
      simp [h1, h2, h3]
    · by_cases h2 : y < x
      · have h3 : ¬ x = y := fun h => by subst h; exact UInt8.lt_irrefl _ h2
        simp [h1, h2, h3]
      · have h3 : x = y := UInt8.le_antisymm (UInt8.not_lt.1 h2) (UInt8.not_lt.1 h1)
        subst h3
        simp only [h1, if_false]
        constructor
        · rw [ih.1]; simp
        · rw [ih.2]; simp
theorem cmp_slt (a b : ByteArray) : decide (Lib.compareBytes a.data.toList b.data.toList < 0) = sltB a b := by
  unfold sltB
  rw [ByteArray.toList_eq, ByteArray.toList_eq, Bool.eq_iff_iff, decide_eq_true_eq, decide_eq_true_eq]
  exact (cmp_lt _ _).1
theorem StabOf.map {β γ : Type} {lt : β → β → Bool} {lt' : γ → γ → Bool} (f : β → γ) (hf : ∀ x y, lt x y = lt' (f x) (f y)) {l r : List β} (h : StabOf lt l r) : StabOf lt' (l.map f) (r.map f) := by
  obtain ⟨t, hp, hs, rfl⟩ := h
  refine ⟨t.map (Prod.map f id), ?_, ?_, ?_⟩
  · have := hp.map (Prod.map f id)
    rwa [show l.zipIdx.map (Prod.map f id) = (l.map f).zipIdx by rw [List.zipIdx_map]] at this
  · rw [List.pairwise_map]
    refine hs.imp fun {a b} hab => ?_
    rw [lexB_no] at hab ⊢
    simp only [Prod.map_fst, Prod.map_snd, id_eq]
    rw [← hf, ← hf]
    exact hab
  · rw [List.map_map, List.map_map]; rfl
end Go.Proofs.YtcpfiiapfggmpaaGreat
