/- Joined texts: JBillCopy, JStabList. -/
import Derived.Test.YtlnnbkpcnhlfcaaDoorJBox
import Derived.Sort.LotA
import Derived.Sort.Lot0
import Derived.Shelf.SlSortCmp.Insertion
import Derived.Test.YtlnnbkpcnhlfcaaDoorJInts
import Derived.Sort.Walk0
import Derived.Lib.Bytealg
import Derived.Laws.Strings
import Derived.Lib.Small
/- Joined texts: BillCopy, StabMath. -/
/- bill.copied, walked; lists of charges whose lines are the call's own. -/
set_option linter.unusedSimpArgs false
namespace Go.Proofs.YtlnnbkpcnhlfcaaDoor
open Go.RowKit Go.Lib

/-- a charge whose lines can be read -/
def CgR (w : World) (x : Cg) : Prop := Rd encLn 2 w w.heap.size x.lA x.c.lns ∧ x.c.lns.length ≤ 1000
theorem CgR.st {w w' : World} {x : Cg} (h : CgR w x) (hb : Below w.heap.size w w') : CgR w' x := ⟨h.1.st hb, h.2⟩
def CgRs (w : World) (l : List Cg) : Prop := ∀ x ∈ l, CgR w x
theorem CgRs.st {w w' : World} {l : List Cg} (h : CgRs w l) (hb : Below w.heap.size w w') : CgRs w' l := fun x hx => (h x hx).st hb
/-- charges whose lines are the call's own, each in a block of its own -/
def LList (w : World) (base : Nat) (l : List Cg) : Prop := (∀ x ∈ l, Own 99 encLn 2 w base x.lA x.lc x.c.lns) ∧ l.Pairwise fun a b => a.lA = none ∨ a.lA ≠ b.lA
theorem LList.nil (w : World) (base : Nat) : LList w base [] := ⟨by simp, by simp⟩
theorem LList.st {w w' : World} {base : Nat} {l : List Cg} (h : LList w base l) (hb : Below w.heap.size w w') : LList w' base l := ⟨fun x hx => (h.1 x hx).keep hb (Nat.le_refl _), h.2⟩
theorem LList.mono {w : World} {base base' : Nat} {l : List Cg} (h : LList w base l) (hb : base' ≤ base) : LList w base' l := ⟨fun x hx => (h.1 x hx).mono hb, h.2⟩
theorem LList.snoc {w w' : World} {base : Nat} {l : List Cg} {x : Cg} (h : LList w base l) (hb : Below w.heap.size w w') (hx : Own 99 encLn 2 w' w.heap.size x.lA x.lc x.c.lns) (hbs : base ≤ w.heap.size) : LList w' base (l ++ [x]) := by
  refine ⟨fun y hy => ?_, List.pairwise_append.2 ⟨h.2, by simp, fun y hy z hz => ?_⟩⟩
  · rcases List.mem_append.1 hy with q | q
    · exact (h.st hb).1 y q
    · rw [List.mem_singleton] at q; subst q; exact hx.mono hbs
  · rw [List.mem_singleton] at hz
    subst hz
    rcases (h.1 y hy).form with ⟨q, _⟩ | ⟨g, q, _, q2⟩
    · exact .inl q
    · right
      intro e
      rw [q] at e
      rcases hx.form with ⟨r, _⟩ | ⟨g', r, r1, _⟩
      · rw [r] at e; cases e
      · rw [r] at e; injection e with e; injection e with e; omega
/-- blocks that are no lines' stay -/
theorem LList.keepB {w w' : World} {base : Nat} {l : List Cg} (h : LList w base l) (hk : ∀ x ∈ l, ∀ g, x.lA = some ⟨g, 0, none⟩ → g < w.heap.size → w'.heap[g]? = w.heap[g]?) : LList w' base l := ⟨fun x hx => (h.1 x hx).keepB (hk x hx), h.2⟩
theorem LList.keepA {α : Type} {e k : Nat} {enc : α → List Value} {w w' : World} {base b1 : Nat} {cs : List Cg} {l : List α} {A : Option Addr} {c : Nat} (h : LList w base cs) (ho : Own e enc k w b1 A c l) (hne : 99 ≠ e)
    (hf : ∀ b, b < w.heap.size → (∀ g, A = some ⟨g, 0, none⟩ → b ≠ g) → w'.heap[b]? = w.heap[b]?) : LList w' base cs :=
  h.keepB fun _x hx _g hg hl => hf _ hl fun _g' e => (h.1 _ hx).apart ho hne hg e
theorem LList.rs {w : World} {base : Nat} {l : List Cg} (h : LList w base l) (hl : ∀ x ∈ l, x.c.lns.length ≤ 1000) : CgRs w l := fun x hx => ⟨(h.1 x hx).rd encLn_ok, hl x hx⟩

set_option maxRecDepth 100000 in
set_option maxHeartbeats 4000000 in
theorem bcopied_any (x : CV) {A : Option Addr} (c : Nat) {w : World} (h : Rd encLn 2 w w.heap.size A x.lns) (hl : x.lns.length ≤ 1000000) :
    Calls Tryd.prog 40 #[CHV x A c] w fun e w' => ∃ A' c', e = .returned (CHV x A' c') ∧ Own 99 encLn 2 w' w.heap.size A' c' x.lns ∧ Below w.heap.size w w' := by
  obtain ⟨key, veh, sys, cls, tm, lns, cn⟩ := x
  simp only [CHV] at *
  obtain ⟨Y1, hY1⟩ : ∃ Y, w.alloc (.cells #[.string key, .string veh, .string sys, .int .i64 cls, .int .i64 tm, .slice A lns.length c, .int .i64 cn] 82) = Y := ⟨_, rfl⟩
  obtain ⟨Y2, hY2⟩ : ∃ Y, Y1.alloc (.cells #[.string ⟨#[]⟩, .string ⟨#[]⟩, .string ⟨#[]⟩, .int .i64 0, .int .i64 0, .slice none 0 0, .int .i64 0] 82) = Y := ⟨_, rfl⟩
  have sY1 : Y1.heap.size = w.heap.size + 1 := by rw [← hY1]; simp
  have sY2 : Y2.heap.size = w.heap.size + 1 + 1 := by rw [← hY2, ← sY1]; simp
  have bW : Below w.heap.size w Y2 := by rw [← hY2, ← hY1]; exact ((Below.refl _ w).al _).al _
  have BA : Blk Y2 w.heap.size #[.string key, .string veh, .string sys, .int .i64 cls, .int .i64 tm, .slice A lns.length c, .int .i64 cn] 82 := by rw [← hY2, ← hY1]; exact (Blk.new w _ _).alloc _
  have BZ : Blk Y2 (w.heap.size + 1) #[.string ⟨#[]⟩, .string ⟨#[]⟩, .string ⟨#[]⟩, .int .i64 0, .int .i64 0, .slice none 0 0, .int .i64 0] 82 := by rw [← hY2, ← sY1]; exact Blk.new Y1 _ _
  have a5 := BA.cell 5 (v := .slice A lns.length c) rfl
  have CL := Lib.hid (cloneL_any c (h.st bW) hl)
  clear h
  go_enter Tryd.func40, Tryd.ntmps40
  go_wp2_with fail
  refine CL.out.mono ?_
  rintro e w3 ⟨A9, c9, rfl, hown, hbn⟩
  have bW3 := bW.st hbn
  have BA := BA.below hbn BA.lt
  have BZ := BZ.below hbn BZ.lt
  have a5 := BA.cell 5 (v := .slice A lns.length c) rfl
  have f5 := BA.frozen 5
  have BA5 : Blk (w3.setCell ⟨w.heap.size, 5, none⟩ (.slice A9 lns.length c9)) w.heap.size #[.string key, .string veh, .string sys, .int .i64 cls, .int .i64 tm, .slice A9 lns.length c9, .int .i64 cn] 82 := BA.set 5 (.slice A9 lns.length c9)
  have BZ5 := BZ.other (p := ⟨w.heap.size, 5, none⟩) (by show w.heap.size + 1 ≠ w.heap.size; omega) (.slice A9 lns.length c9)
  have bW5 := bW3.setCell (p := ⟨w.heap.size, 5, none⟩) (Nat.le_refl _) (.slice A9 lns.length c9)
  have hown5 := hown.other (p := ⟨w.heap.size, 5, none⟩) (by show w.heap.size < Y2.heap.size; omega) (.slice A9 lns.length c9)
  clear CL hbn hown BA BZ
  go_wp2_with (first | (refine wpList_boxLoad rfl (ty := 82) (x := .tmp 1) (cs := #[.string key, .string veh, .string sys, .int .i64 cls, .int .i64 tm, .slice A9 lns.length c9, .int .i64 cn]) rfl BA5 rfl ⟨_, Tryd.underlying82, by kernel_rfl⟩ ?_) | (refine wpList_boxStore rfl (ty := 82) (x := .tmp 2) (y := .tmp 7) (cells := #[.string key, .string veh, .string sys, .int .i64 cls, .int .i64 tm, .slice A9 lns.length c9, .int .i64 cn]) rfl BZ5 rfl rfl (by kernel_rfl) rfl (by kernel_rfl) ?_; intro w6 BZ6 hoz6 hbz6))
  refine bodyPost_ret (v := .agg #[.string key, .string veh, .string sys, .int .i64 cls, .int .i64 tm, .slice A9 lns.length c9, .int .i64 cn]) ?_ rfl ⟨A9, c9, rfl, (hown5.same (fun g hg => hoz6 g (by omega))).mono (by omega), hbz6 _ _ (by omega) bW5⟩
  exact results_box Tryd.results40 _ rfl BZ6 ⟨_, Tryd.underlying82, by kernel_rfl⟩
end Go.Proofs.YtlnnbkpcnhlfcaaDoor
/- A stable sort by rotations, plain: elements bear tags; the order on tagged elements is strict and total. No program in sight. -/
namespace Go.Proofs.YtlnnbkpcnhlfcaaDoor
open Go.Sort

section
variable {α : Type} [Inhabited α]

/-- the order on tagged elements -/
def lexB (lt : α → α → Bool) (x y : α × Nat) : Bool := lt x.1 y.1 || (!lt y.1 x.1 && decide (x.2 < y.2))
def fstB (lt : α → α → Bool) (x y : α × Nat) : Bool := lt x.1 y.1
variable {lt : α → α → Bool}
omit [Inhabited α] in
theorem lexB_iff (x y : α × Nat) : lexB lt x y = true ↔ lt x.1 y.1 = true ∨ (lt y.1 x.1 = false ∧ x.2 < y.2) := by simp [lexB]
omit [Inhabited α] in
theorem lexB_no (x y : α × Nat) : lexB lt x y = false ↔ lt x.1 y.1 = false ∧ (lt y.1 x.1 = true ∨ y.2 ≤ x.2) := by
  unfold lexB
  cases lt x.1 y.1 <;> cases lt y.1 x.1 <;> simp
omit [Inhabited α] in
theorem lexB_swo (h : SWO lt) : SWO (lexB lt) where
  irrefl x := by rw [lexB_no]; exact ⟨h.irrefl _, .inr (Nat.le_refl _)⟩
  trans x y z a b := by
    rw [lexB_iff] at a b ⊢
    rcases a with a | ⟨a1, a2⟩ <;> rcases b with b | ⟨b1, b2⟩
    · exact .inl (h.trans _ _ _ a b)
    · cases hxz : lt x.1 z.1
      · exact absurd (h.ntrans _ _ _ hxz b1) (by rw [a]; simp)
      · exact .inl rfl
    · cases hxz : lt x.1 z.1
      · exact absurd (h.ntrans _ _ _ a1 hxz) (by rw [b]; simp)
      · exact .inl rfl
    · exact .inr ⟨h.ntrans _ _ _ b1 a1, by omega⟩
  ntrans x y z a b := by
    rw [lexB_no] at a b ⊢
    refine ⟨h.ntrans _ _ _ a.1 b.1, ?_⟩
    cases hzx : lt z.1 x.1
    · right
      have e1 : lt y.1 x.1 = false := by
        cases e : lt y.1 x.1
        · rfl
        · exact absurd (h.ntrans _ _ _ b.1 hzx) (by rw [e]; simp)
      have e2 : lt z.1 y.1 = false := by
        cases e : lt z.1 y.1
        · rfl
        · exact absurd (h.ntrans _ _ _ hzx a.1) (by rw [e]; simp)
      rcases a.2 with q | q
      · rw [e1] at q; cases q
      · rcases b.2 with r | r
        · rw [e2] at r; cases r
        · omega
    · exact .inl rfl
omit [Inhabited α] in
/-- an earlier one is compared by its value alone -/
theorem lexB_late {x y : α × Nat} (h : y.2 < x.2) : lexB lt x y = fstB lt x y := by
  unfold lexB fstB
  rw [show decide (x.2 < y.2) = false by simp; omega]
  simp
omit [Inhabited α] in
theorem lex_flip (h : SWO lt) {x y : α × Nat} (hxy : lexB lt x y = true) : lexB lt y x = false := (lexB_swo h).asymmA hxy

/-! ### the insertion sort of elements whose tags ascend -/
theorem insInner_lex {a : Nat} : ∀ (j : Nat) (d : Array (α × Nat)), j < d.size → (∀ t, a ≤ t → t < j → d[t]!.2 < d[j]!.2) → insInner (fstB lt) a j d = insInner (lexB lt) a j d
  | 0, _, _, _ => rfl
  | j + 1, d, hj, h => by
    rw [insInner, insInner]
    by_cases ha : j + 1 > a
    · have hl := lexB_late (lt := lt) (h j (by omega) (by omega))
      rw [hl]
      cases hc : fstB lt d[j + 1]! d[j]!
      · simp
      · simp only [ha, decide_true, Bool.and_self, ↓reduceIte]
        refine insInner_lex j (swp d (j + 1) j) (by rw [size_swp]; omega) fun t h1 h2 => ?_
        rw [swp_other _ _ _ _ (by omega) (by omega), swp_right _ _ _ (by omega)]
        exact h t h1 (by omega)
    · simp [ha]
theorem insOuter_lex (hS : SWO lt) {a b : Nat} : ∀ (n i : Nat) (d : Array (α × Nat)), b - i = n → a ≤ i → b ≤ d.size → (∀ s t, a ≤ s → s < t → i ≤ t → t < b → d[s]!.2 < d[t]!.2) → insOuter (fstB lt) a b i d = insOuter (lexB lt) a b i d
  | 0, i, d, hn, _, _, _ => by rw [insOuter_stop _ _ _ _ _ (by omega), insOuter_stop _ _ _ _ _ (by omega)]
  | n + 1, i, d, hn, hai, hb, h => by
    rw [insOuter_go _ _ _ _ _ (by omega : i < b), insOuter_go _ _ _ _ _ (by omega : i < b), insInner_lex i d (by omega) (fun t h1 h2 => h t i h1 h2 (Nat.le_refl _) (by omega))]
    have key : PermIn a (i + 1) d (insInner (lexB lt) a i d) := by
      have : ∀ (j : Nat) (d : Array (α × Nat)), j ≤ i → b ≤ d.size → PermIn a (i + 1) d (insInner (lexB lt) a j d) := by
        intro j
        induction j with
        | zero => intro d _ _; exact permIn_refl _ _ _
        | succ j ih =>
          intro d hj hd
          rw [insInner]
          split
          · rename_i hc
            simp only [gt_iff_lt, Bool.and_eq_true, decide_eq_true_eq] at hc
            refine permIn_trans _ _ _ _ _ (swp_permIn d a (i + 1) (j + 1) j (by omega) (by omega) (by omega) (by omega) (by omega)) (ih _ (by omega) (by rw [size_swp]; exact hd))
          · exact permIn_refl _ _ _
      exact this i d (Nat.le_refl _) hb
    refine insOuter_lex hS n (i + 1) _ (by omega) (by omega) (by rw [key.1]; exact hb) fun s t h1 h2 h3 h4 => ?_
    rw [key.2.1 t (.inr (by omega))]
    by_cases hs : s < i + 1
    · exact permIn_all d _ a (i + 1) (fun x => x.2 < d[t]!.2) (by omega) key (fun u h5 h6 => h u t h5 (by omega) (by omega) h4) s h1 hs
    · rw [key.2.1 s (.inr (by omega))]
      exact h s t h1 h2 (by omega) h4
theorem insSort_lex (hS : SWO lt) {a b : Nat} {d : Array (α × Nat)} (hab : a ≤ b) (hb : b ≤ d.size) (h : ∀ s t, a ≤ s → s < t → t < b → d[s]!.2 < d[t]!.2) :
    PermIn a b d (insertionSort (fstB lt) d a b) ∧ SortedIn (lexB lt) a b (insertionSort (fstB lt) d a b) := by
  have e : insertionSort (fstB lt) d a b = insertionSort (lexB lt) d a b := by
    unfold insertionSort
    exact insOuter_lex hS _ (a + 1) d rfl (by omega) hb fun s t h1 h2 _ h4 => h s t h1 h2 h4
  rw [e]
  exact insertionSort_holds (lexB_swo hS) d a b hab hb
end

/-! ### moves -/
section
variable {β : Type} [Inhabited β]
/-- d' holds at t what d held at f t -/
def Moved (f : Nat → Nat) (d d' : Array β) : Prop := d'.size = d.size ∧ ∀ t, t < d.size → d'[t]! = d[f t]!
theorem Moved.refl (d : Array β) : Moved (fun t => t) d d := ⟨rfl, fun _ _ => rfl⟩
theorem Moved.congr {f g : Nat → Nat} {d d' : Array β} (h : Moved f d d') (e : ∀ t, t < d.size → f t = g t) : Moved g d d' := ⟨h.1, fun t ht => by rw [h.2 t ht, e t ht]⟩
theorem Moved.trans {f g : Nat → Nat} {d d' d'' : Array β} (h : Moved f d d') (k : Moved g d' d'') (hg : ∀ t, t < d.size → g t < d.size) : Moved (fun t => f (g t)) d d'' :=
  ⟨k.1.trans h.1, fun t ht => by rw [k.2 t (by rw [h.1]; exact ht), h.2 _ (hg t ht)]⟩
def swF (i j t : Nat) : Nat := if t = i then j else if t = j then i else t
theorem Moved.swp (d : Array β) {i j : Nat} (hi : i < d.size) (hj : j < d.size) : Moved (swF i j) d (Go.Sort.swp d i j) := by
  refine ⟨size_swp _ _ _, fun t _ => ?_⟩
  unfold swF
  by_cases h1 : t = i
  · rw [if_pos h1, h1]
    by_cases h2 : i = j
    · rw [h2, swp_right _ _ _ hj]
    · rw [swp_left _ _ _ hi h2]
  · rw [if_neg h1]
    by_cases h2 : t = j
    · rw [if_pos h2, h2, swp_right _ _ _ hj]
    · rw [if_neg h2, swp_other _ _ _ _ h1 h2]
/-- two ranges of n exchanged -/
def raF (a b n t : Nat) : Nat := if a ≤ t ∧ t < a + n then t - a + b else if b ≤ t ∧ t < b + n then t - b + a else t
theorem raF_zero (a b t : Nat) : raF a b 0 t = t := by unfold raF; rw [if_neg (by omega), if_neg (by omega)]
theorem Moved.ra {d dk : Array β} {a b n k : Nat} (h : Moved (raF a b k) d dk) (hk : k < n) (hab : a + n ≤ b) (hb : b + n ≤ d.size) : Moved (raF a b (k + 1)) d (Go.Sort.swp dk (a + k) (b + k)) := by
  refine (h.trans (Moved.swp dk (i := a + k) (j := b + k) (by rw [h.1]; omega) (by rw [h.1]; omega)) fun t ht => ?_).congr fun t ht => ?_
  · unfold swF
    repeat' split
    all_goals omega
  · unfold swF raF
    repeat' split
    all_goals omega
/-- the ranges [s, m) and [m, e) turned about -/
def roF (s m e t : Nat) : Nat := if s ≤ t ∧ t < s + (e - m) then t + (m - s) else if s + (e - m) ≤ t ∧ t < e then t - (e - m) else t
theorem roF_lt {s m e t n : Nat} (h1 : s ≤ m) (h2 : m ≤ e) (he : e ≤ n) (ht : t < n) : roF s m e t < n := by
  unfold roF
  repeat' split
  all_goals omega
/-- one step of the rotation: i > j -/
theorem roF_big {m i j t : Nat} (hi : j < i) (hm : i ≤ m) : raF (m - i) m j (roF (m - (i - j)) m (m + j) t) = roF (m - i) m (m + j) t := by
  unfold raF roF
  repeat' split
  all_goals omega
/-- one step of the rotation: i < j -/
theorem roF_small {m i j t : Nat} (hi : i < j) (hm : i ≤ m) : raF (m - i) (m + j - i) i (roF (m - i) m (m + (j - i)) t) = roF (m - i) m (m + j) t := by
  unfold raF roF
  repeat' split
  all_goals omega
theorem roF_even {m i t : Nat} (hm : i ≤ m) : raF (m - i) m i t = roF (m - i) m (m + i) t := by
  unfold raF roF
  repeat' split
  all_goals omega
/-- what lay at a comes to i - 1, all between one down -/
def dnF (a i t : Nat) : Nat := if a ≤ t ∧ t + 1 < i then t + 1 else if t + 1 = i ∧ a < i then a else t
theorem Moved.dn {d dk : Array β} {a k : Nat} (h : Moved (dnF a (k + 1)) d dk) (hak : a ≤ k) (hk : k + 1 < d.size) : Moved (dnF a (k + 1 + 1)) d (Go.Sort.swp dk k (k + 1)) := by
  refine (h.trans (Moved.swp dk (i := k) (j := k + 1) (by rw [h.1]; omega) (by rw [h.1]; omega)) fun t ht => ?_).congr fun t ht => ?_
  · unfold swF
    repeat' split
    all_goals omega
  · unfold swF dnF
    repeat' split
    all_goals omega
theorem dnF_start {a t : Nat} : dnF a (a + 1) t = t := by
  unfold dnF
  repeat' split
  all_goals omega
theorem dnF_none {a i t : Nat} (h : i ≤ a + 1) : dnF a i t = t := by
  unfold dnF
  repeat' split
  all_goals omega
/-- what lay at m comes to i, all between one up -/
def upF (i m t : Nat) : Nat := if t = i ∧ i ≤ m then m else if i < t ∧ t ≤ m then t - 1 else t
theorem upF_start {m t : Nat} : upF m m t = t := by
  unfold upF
  repeat' split
  all_goals omega
theorem Moved.up {d dk : Array β} {k m : Nat} (h : Moved (upF (k + 1) m) d dk) (hk : k + 1 ≤ m) (hm : m < d.size) : Moved (upF k m) d (Go.Sort.swp dk (k + 1) k) := by
  refine (h.trans (Moved.swp dk (i := k + 1) (j := k) (by rw [h.1]; omega) (by rw [h.1]; omega)) fun t ht => ?_).congr fun t ht => ?_
  · unfold swF
    repeat' split
    all_goals omega
  · unfold swF upF
    repeat' split
    all_goals omega
end
end Go.Proofs.YtlnnbkpcnhlfcaaDoor
/- Joined texts: StabList, Str, DetMath. -/
/- What a stable sort makes of a list, plain. No program in sight. -/
namespace Go.Proofs.YtlnnbkpcnhlfcaaDoor
open Go.Sort

section
variable {β : Type} {lt : β → β → Bool}
/-- l' is l sorted stably -/
def StabOf (lt : β → β → Bool) (l l' : List β) : Prop := ∃ t : List (β × Nat), t.Perm l.zipIdx ∧ t.Pairwise (fun x y => lexB lt y x = false) ∧ l' = t.map Prod.fst
theorem StabOf.perm {l l' : List β} (h : StabOf lt l l') : l'.Perm l := by
  obtain ⟨t, hp, _, rfl⟩ := h
  have := hp.map Prod.fst
  rwa [List.zipIdx_map_fst] at this
theorem zipIdx_same {l : List β} {x y : β × Nat} (hx : x ∈ l.zipIdx) (hy : y ∈ l.zipIdx) (h : x.2 = y.2) : x = y := by
  obtain ⟨x, i⟩ := x
  obtain ⟨y, j⟩ := y
  have a := List.mem_zipIdx_iff_getElem?.1 hx
  have b := List.mem_zipIdx_iff_getElem?.1 hy
  simp only at h a b
  subst h
  rw [a] at b
  simpa using b
theorem StabOf.unique {l a b : List β} (h : StabOf lt l a) (k : StabOf lt l b) : a = b := by
  obtain ⟨t, hp, hs, rfl⟩ := h
  obtain ⟨u, kp, ks, rfl⟩ := k
  congr 1
  refine List.Perm.eq_of_pairwise (le := fun x y => lexB lt y x = false) ?_ hs ks (hp.trans kp.symm)
  intro x y hx hy h1 h2
  rw [lexB_no] at h1 h2
  refine zipIdx_same (hp.subset hx) (kp.subset hy) ?_
  rcases h1.2 with q | q
  · rw [h2.1] at q; cases q
  · rcases h2.2 with r | r
    · rw [h1.1] at r; cases r
    · omega
/-- one element more, behind its equals -/
def insS (lt : β → β → Bool) (x : β) : List β → List β
  | [] => [x]
  | y :: r => if lt x y then x :: y :: r else y :: insS lt x r
def insT (lt : β → β → Bool) (x : β × Nat) : List (β × Nat) → List (β × Nat)
  | [] => [x]
  | y :: r => if lt x.1 y.1 then x :: y :: r else y :: insT lt x r
theorem insT_fst (x : β × Nat) : ∀ t : List (β × Nat), (insT lt x t).map Prod.fst = insS lt x.1 (t.map Prod.fst)
  | [] => rfl
  | y :: r => by
    rw [insT, List.map_cons, insS]
    split
    · rfl
    · rw [List.map_cons, insT_fst x r]
theorem insT_perm (x : β × Nat) : ∀ t : List (β × Nat), (insT lt x t).Perm (x :: t)
  | [] => List.Perm.refl _
  | y :: r => by
    rw [insT]
    split
    · exact List.Perm.refl _
    · exact ((insT_perm x r).cons y).trans (List.Perm.swap x y r)
theorem insT_sorted (hS : SWO lt) (x : β × Nat) : ∀ t : List (β × Nat), t.Pairwise (fun a b => lexB lt b a = false) → (∀ y ∈ t, y.2 < x.2) → (insT lt x t).Pairwise (fun a b => lexB lt b a = false)
  | [], _, _ => by simp [insT]
  | y :: r, h, ht => by
    rw [insT]
    have h' := List.pairwise_cons.1 h
    split
    · rename_i hxy
      refine List.pairwise_cons.2 ⟨fun z hz => ?_, h⟩
      have hzy : lt z.1 y.1 = false := by
        rcases List.mem_cons.1 hz with rfl | hz
        · exact hS.irrefl _
        · have := h'.1 z hz
          rw [lexB_no] at this
          exact this.1
      have hxz : lt x.1 z.1 = true := by
        cases e : lt x.1 z.1
        · rw [hS.ntrans _ _ _ e hzy] at hxy; cases hxy
        · rfl
      rw [lexB_no]
      exact ⟨hS.asymmA hxz, .inl hxz⟩
    · rename_i hxy
      have hxy' : lt x.1 y.1 = false := by simpa using hxy
      refine List.pairwise_cons.2 ⟨fun z hz => ?_, insT_sorted hS x r h'.2 fun z hz => ht z (List.mem_cons_of_mem _ hz)⟩
      rcases List.mem_cons.1 ((insT_perm x r).subset hz) with rfl | hz
      · rw [lexB_no]
        exact ⟨hxy', .inr (Nat.le_of_lt (ht y (List.mem_cons_self ..)))⟩
      · exact h'.1 z hz
theorem StabOf.nil : StabOf lt [] ([] : List β) := ⟨[], List.Perm.refl _, List.Pairwise.nil, rfl⟩
theorem StabOf.snoc (hS : SWO lt) {l r : List β} (h : StabOf lt l r) (x : β) : StabOf lt (l ++ [x]) (insS lt x r) := by
  obtain ⟨t, hp, hs, rfl⟩ := h
  refine ⟨insT lt (x, l.length) t, ?_, insT_sorted hS _ t hs fun y hy => ?_, (insT_fst (x, l.length) t).symm⟩
  · refine (insT_perm _ t).trans ?_
    rw [List.zipIdx_append]
    simp only [List.zipIdx_cons, List.zipIdx_nil, Nat.zero_add]
    exact (hp.cons _).trans (List.perm_append_singleton _ _).symm
  · obtain ⟨y, j⟩ := y
    have := List.mem_zipIdx_iff_getElem?.1 (hp.subset hy)
    exact (List.getElem?_eq_some_iff.1 this).1
/-- the place behind the equals -/
theorem insS_at {x : β} : ∀ (r : List β) (k : Nat), k ≤ r.length → (∀ j y, j < k → r[j]? = some y → lt x y = false) → (∀ y, r[k]? = some y → lt x y = true) → insS lt x r = r.take k ++ [x] ++ r.drop k
  | [], k, hk, _, _ => by
    have : k = 0 := by simpa using hk
    subst this; rfl
  | y :: r, 0, _, _, h2 => by
    rw [insS, if_pos (h2 y rfl)]; rfl
  | y :: r, k + 1, hk, h1, h2 => by
    have e := h1 0 y (by omega) rfl
    rw [insS, e]
    simp only [Bool.false_eq_true, ↓reduceIte, List.take_succ_cons, List.drop_succ_cons, List.cons_append]
    rw [insS_at r k (by simpa using hk) (fun j z hj hz => h1 (j + 1) z (by omega) (by simpa using hz)) (fun z hz => h2 z (by simpa using hz))]
end
end Go.Proofs.YtlnnbkpcnhlfcaaDoor
/- Strings: equality and order as the walk spells them. No program in sight. -/
namespace Go.Proofs.YtlnnbkpcnhlfcaaDoor
open Go.Sort

def sltB (a b : ByteArray) : Bool := decide (a.toList < b.toList)
theorem cmp_lt : ∀ a b : List UInt8, (Lib.compareBytes a b < 0 ↔ a < b) ∧ (0 < Lib.compareBytes a b ↔ b < a)
  | [], [] => by simp [Lib.compareBytes]
  | [], _ :: _ => by simp [Lib.compareBytes]
  | _ :: _, [] => by simp [Lib.compareBytes]
  | x :: a, y :: b => by
    have ih := cmp_lt a b
    unfold Lib.compareBytes
    rw [List.cons_lt_cons_iff, List.cons_lt_cons_iff]
    by_cases h1 : x < y
    · have h2 : ¬ y < x := fun h => UInt8.lt_irrefl _ (UInt8.lt_trans h1 h)
      have h3 : ¬ y = x := fun h => by subst h; exact UInt8.lt_irrefl _ h1
      simp [h1, h2, h3]
    · by_cases h2 : y < x
      · have h3 : ¬ x = y := fun h => by subst h; exact UInt8.lt_irrefl _ h2
        simp [h1, h2, h3]
      · have h3 : x = y := UInt8.le_antisymm (UInt8.not_lt.1 h2) (UInt8.not_lt.1 h1)
        subst h3
        simp only [h1, if_false]
        constructor
        · rw [ih.1]; simp
        · rw [ih.2]; simp
theorem cmp_slt (a b : ByteArray) : decide (Lib.compareBytes a.data.toList b.data.toList < 0) = sltB a b := by
  unfold sltB
  rw [ByteArray.toList_eq, ByteArray.toList_eq, Bool.eq_iff_iff, decide_eq_true_eq, decide_eq_true_eq]
  exact (cmp_lt _ _).1
theorem less_slt (a b : ByteArray) : Op.bytesLess a.toList b.toList = sltB a b := bytesLess_eq _ _
theorem sltB_swo : SWO sltB := ⟨fun x => swo_ltStr.irrefl x.toList, fun x y z => swo_ltStr.trans x.toList y.toList z.toList, fun x y z => swo_ltStr.ntrans x.toList y.toList z.toList⟩
theorem sltB_total {a b : ByteArray} (h : sltB a b = false) (k : sltB b a = false) : a = b := by
  unfold sltB at h k
  rw [decide_eq_false_iff_not, List.not_lt] at h k
  exact (eqS_iff a b).1 (by unfold eqS; rw [beq_iff_eq]; exact List.le_antisymm k h)
theorem leq_slt (a b : ByteArray) : (Op.bytesLess a.toList b.toList || a.toList == b.toList) = !sltB b a := by
  rw [less_slt]
  cases h : sltB b a
  · cases k : sltB a b
    · have := sltB_total k h
      subst this
      simp
    · rfl
  · have k : sltB a b = false := sltB_swo.asymmA h
    have : (a.toList == b.toList) = false := by
      rw [Bool.eq_false_iff]
      intro e
      have := (eqS_iff a b).1 e
      subst this
      rw [sltB_swo.irrefl] at h; cases h
    rw [k, this]; rfl

theorem StabOf.map {β γ : Type} {lt : β → β → Bool} {lt' : γ → γ → Bool} (f : β → γ) (hf : ∀ x y, lt x y = lt' (f x) (f y)) {l r : List β} (h : StabOf lt l r) : StabOf lt' (l.map f) (r.map f) := by
  obtain ⟨t, hp, hs, rfl⟩ := h
  refine ⟨t.map (Prod.map f id), ?_, ?_, ?_⟩
  · have := hp.map (Prod.map f id)
    rwa [show l.zipIdx.map (Prod.map f id) = (l.map f).zipIdx by rw [List.zipIdx_map]] at this
  · rw [List.pairwise_map]
    refine hs.imp fun {a b} hab => ?_
    rw [lexB_no] at hab ⊢
    simp only [Prod.map_fst, Prod.map_snd, id_eq]
    rw [← hf, ← hf]
    exact hab
  · rw [List.map_map, List.map_map]; rfl
end Go.Proofs.YtlnnbkpcnhlfcaaDoor
/- Comparisons that are read one after another: signs, total orders, strictly ascending lists. No program in sight. -/
namespace Go.Proofs.YtlnnbkpcnhlfcaaDoor
open Go.Sort

/-- the first number that is not 0 -/
def firstI : List Int → Int
  | [] => 0
  | x :: l => if x ≠ 0 then x else firstI l
/-- a comparison: signs, antisymmetric, transitive, and equal things are told apart from none -/
structure PreC {α : Type} (f : α → α → Int) : Prop where
  r : ∀ a b, f a b = -1 ∨ f a b = 0 ∨ f a b = 1
  s : ∀ a b, f b a = -f a b
  t : ∀ a b c, f a b < 0 → f b c < 0 → f a c < 0
  e : ∀ a b c, f a b = 0 → f a c = f b c
section
variable {α β : Type} {f g : α → α → Int}
theorem PreC.e2 (h : PreC f) (a b c : α) (k : f a b = 0) : f c a = f c b := by
  rw [h.s a c, h.s b c, h.e a b c k]
theorem PreC.on (h : PreC f) (p : β → α) : PreC (fun a b => f (p a) (p b)) := ⟨fun a b => h.r _ _, fun a b => h.s _ _, fun a b c => h.t _ _ _, fun a b c => h.e _ _ _⟩
theorem PreC.cons (h : PreC f) (k : PreC g) : PreC (fun a b => if f a b ≠ 0 then f a b else g a b) where
  r a b := by
    by_cases q : f a b = 0
    · rw [if_neg (by simp [q])]; exact k.r a b
    · rw [if_pos q]; exact h.r a b
  s a b := by
    by_cases q : f a b = 0
    · rw [if_neg (by rw [h.s a b, q]; simp), if_neg (by simp [q])]; exact k.s a b
    · rw [if_pos (by rw [h.s a b]; omega), if_pos q]; exact h.s a b
  t a b c := by
    by_cases q : f a b = 0
    · rw [if_neg (by simp [q] : ¬ f a b ≠ 0), h.e a b c q]
      intro h1
      by_cases q2 : f b c = 0
      · rw [if_neg (by simp [q2]), if_neg (by simp [q2])]; exact k.t a b c h1
      · rw [if_pos q2, if_pos q2]; exact id
    · rw [if_pos q]
      intro h1
      by_cases q2 : f b c = 0
      · rw [if_neg (by simp [q2])]
        intro _
        rw [if_pos (by rw [← h.e2 b c a q2]; exact q), ← h.e2 b c a q2]; exact h1
      · rw [if_pos q2]
        intro h2
        have h3 := h.t a b c h1 h2
        rw [if_pos (by omega)]; exact h3
  e a b c := by
    by_cases q : f a b = 0
    · rw [if_neg (by simp [q] : ¬ f a b ≠ 0), h.e a b c q]
      intro h1
      rw [k.e a b c h1]
    · rw [if_pos q]; exact fun h1 => absurd h1 q
theorem PreC.swo (h : PreC f) : SWO (ltOf f) where
  irrefl x := by
    unfold ltOf
    have := h.s x x
    exact decide_eq_false (by omega)
  trans x y z h1 h2 := by
    unfold ltOf at *
    exact decide_eq_true (h.t x y z (of_decide_eq_true h1) (of_decide_eq_true h2))
  ntrans x y z h1 h2 := by
    unfold ltOf at *
    have h1 := of_decide_eq_false h1
    have h2 := of_decide_eq_false h2
    refine decide_eq_false fun h3 => ?_
    rcases h.r x y with q | q | q
    · omega
    · rw [h.e x y z q] at h3; omega
    · rcases h.r y z with p | p | p
      · omega
      · rw [← h.e2 y z x p] at h3; omega
      · have := h.t z y x (by rw [h.s y z]; omega) (by rw [h.s x y]; omega)
        rw [h.s x z] at this; omega
end
abbrev cmpI : Int → Int → Int := Lib.compareInt
theorem cmpI_pre : PreC cmpI where
  r a b := by unfold cmpI Lib.compareInt; split; simp; split <;> simp
  s a b := by unfold cmpI Lib.compareInt; split <;> split <;> first | omega | (split <;> omega)
  t a b c := by unfold cmpI Lib.compareInt; intro h1 h2; split at h1 <;> (try (split at h1)) <;> split at h2 <;> (try (split at h2)) <;> first | omega | (rw [if_pos (by omega)]; omega)
  e a b c := by unfold cmpI Lib.compareInt; intro h1; split at h1 <;> (try (split at h1)) <;> first | omega | (have : a = b := by omega); subst this; rfl
theorem cmpI_zero {a b : Int} : cmpI a b = 0 ↔ a = b := by
  unfold cmpI Lib.compareInt
  constructor
  · intro h1; split at h1 <;> (try (split at h1)) <;> omega
  · rintro rfl; simp
def cmpS (a b : ByteArray) : Int := Lib.compareBytes a.data.toList b.data.toList
theorem cb_r : ∀ a b : List UInt8, Lib.compareBytes a b = -1 ∨ Lib.compareBytes a b = 0 ∨ Lib.compareBytes a b = 1
  | [], [] => by simp [Lib.compareBytes]
  | [], _ :: _ => by simp [Lib.compareBytes]
  | _ :: _, [] => by simp [Lib.compareBytes]
  | x :: a, y :: b => by unfold Lib.compareBytes; split; simp; split; simp; exact cb_r a b
theorem cb_lt (a b : List UInt8) : Lib.compareBytes a b < 0 ↔ a < b := (cmp_lt a b).1
theorem cb_gt (a b : List UInt8) : 0 < Lib.compareBytes a b ↔ b < a := (cmp_lt a b).2
theorem cb_zero (a b : List UInt8) : Lib.compareBytes a b = 0 ↔ a = b := by
  constructor
  · intro h
    have h1 := mt (cb_lt a b).2 (by omega)
    have h2 := mt (cb_gt a b).2 (by omega)
    exact List.le_antisymm (List.not_lt.1 h2) (List.not_lt.1 h1)
  · rintro rfl
    have h1 := mt (cb_lt a a).1 (List.lt_irrefl a)
    have h2 := mt (cb_gt a a).1 (List.lt_irrefl a)
    omega
theorem cmpS_zero {a b : ByteArray} : cmpS a b = 0 ↔ a = b := by
  unfold cmpS
  rw [cb_zero]
  constructor
  · intro h; cases a; cases b; simp only [ByteArray.mk.injEq]; exact Array.ext' h
  · rintro rfl; rfl
theorem cmpS_pre : PreC cmpS where
  r a b := cb_r _ _
  s a b := by
    unfold cmpS
    have h1 := cb_lt a.data.toList b.data.toList
    have h2 := cb_gt a.data.toList b.data.toList
    have h3 := cb_lt b.data.toList a.data.toList
    have h4 := cb_gt b.data.toList a.data.toList
    have r1 := cb_r a.data.toList b.data.toList
    have r2 := cb_r b.data.toList a.data.toList
    generalize Lib.compareBytes a.data.toList b.data.toList = x at *
    generalize Lib.compareBytes b.data.toList a.data.toList = y at *
    have e1 : x < 0 ↔ 0 < y := h1.trans h4.symm
    have e2 : 0 < x ↔ y < 0 := h2.trans h3.symm
    omega
  t a b c := by
    unfold cmpS
    rw [cb_lt, cb_lt, cb_lt]
    exact List.lt_trans
  e a b c := by
    intro h
    rw [cmpS_zero] at h
    subst h; rfl

/-- ascending without equal neighbours -/
def AscC {α : Type} (f : α → α → Int) (l : List α) : Prop := l.Pairwise fun a b => f a b < 0
theorem AscC.eq {α : Type} {f : α → α → Int} (h : PreC f) : ∀ {l r : List α}, AscC f l → AscC f r → (∀ x, x ∈ l ↔ x ∈ r) → l = r
  | [], [], _, _, _ => rfl
  | [], y :: r, _, _, m => by have := (m y).2 (by simp); simp at this
  | x :: l, [], _, _, m => by have := (m x).1 (by simp); simp at this
  | x :: l, y :: r, hl, hr, m => by
    have hl' := List.pairwise_cons.1 hl
    have hr' := List.pairwise_cons.1 hr
    have irr : ∀ z, ¬ f z z < 0 := fun z => by have := h.s z z; omega
    have exy : x = y := by
      rcases List.mem_cons.1 ((m x).1 (by simp)) with e | e
      · exact e
      · rcases List.mem_cons.1 ((m y).2 (by simp)) with e2 | e2
        · exact e2.symm
        · exact absurd (h.t x y x (hl'.1 y e2) (hr'.1 x e)) (irr x)
    subst exy
    congr 1
    refine AscC.eq h hl'.2 hr'.2 fun z => ?_
    constructor
    · intro hz
      rcases List.mem_cons.1 ((m z).1 (by simp [hz])) with e | e
      · subst e; exact absurd (hl'.1 z hz) (irr z)
      · exact e
    · intro hz
      rcases List.mem_cons.1 ((m z).2 (by simp [hz])) with e | e
      · subst e; exact absurd (hr'.1 z hz) (irr z)
      · exact e
end Go.Proofs.YtlnnbkpcnhlfcaaDoor
