/- Joined texts: PrcTot, StabMath. -/
import Derived.Test.YtcpfiiapfggmpaaGreatJSumAny
import Derived.Sort.LotA
import Derived.Sort.Lot0
import Derived.Shelf.SlSortCmp.Insertion
/- price.Total and the reference's, walked. -/
set_option linter.unusedSimpArgs false
namespace Go.Proofs.YtcpfiiapfggmpaaGreat
open Go.RowKit Go.Lib

def ctL (cs : List CV) : List Int := cs.map CV.ct
theorem ctL_tk {cs : List CV} {k : Nat} {x : CV} (hx : cs[k]? = some x) : ctL (cs.take (k + 1)) = ctL (cs.take k) ++ [x.ct] := by unfold ctL; rw [take_snoc hx]; simp
theorem ctL_len (cs : List CV) : (ctL cs).length = cs.length := by simp [ctL]

set_option maxRecDepth 100000 in
set_option maxHeartbeats 4000000 in
theorem ptot_any {A : Option Addr} (c : Nat) {l : List Cg} {w : World} (h : Rd encCg 7 w w.heap.size A l) (hl : l.length ≤ 1000) :
    Calls Tryz.prog 33 #[.slice A l.length c] w fun e w' => e = .returned (.tuple #[.int .i64 (sumV (ctL (cvs l))), .int .i64 (sumE (ctL (cvs l)))]) ∧ Below w.heap.size w w' := by
  have HR := Lib.hid h
  clear h
  go_enter Tryz.func33, Tryz.ntmps33
  go_wp2_with fail
  go_loopw [4, 9] (fun o i wr => ∃ (k : Nat) (q : List Int) (A' : Option Addr) (c' : Nat), k ≤ l.length ∧ i = .int .i64 k ∧ o = .slice A' q.length c' ∧ Hid (q.length = k) ∧ Hid (q = ctL ((cvs l).take k)) ∧ Own 3 encI 1 wr w.heap.size A' c' q ∧ Below w.heap.size w wr) (fun _ i _ => l.length - (RowKit.intOf i).toNat)
  case atStart => exact ⟨0, [], none, 0, Nat.zero_le _, rfl, rfl, (by unfold Hid; simp), Lib.hid (by simp [ctL]), Own.nil _ _, Below.refl _ _⟩
  case round =>
    obtain ⟨k, q, A', c', hk, rfl, rfl, HQL, HQ, hown, bY⟩ := hrel
    by_cases hi : k < l.length
    · obtain ⟨b, off, x, rfl, hb, hx, d0, d1, d2, d3, d4, d5, d6⟩ := (HR.out.st bY).cg hi
      have HK := Lib.hid hi
      have HT := Lib.hid (ctL_tk (cvs_at hx))
      obtain ⟨⟨key, veh, sys, cls, tm, lns, cn⟩, lA, lc⟩ := x
      simp only at *
      obtain ⟨Y7, hY7⟩ : ∃ Y, wr.alloc (.cells #[.string key, .string veh, .string sys, .int .i64 cls, .int .i64 tm, .slice lA lns.length lc, .int .i64 cn] 66) = Y := ⟨_, rfl⟩
      have BX : Blk Y7 wr.heap.size #[.string key, .string veh, .string sys, .int .i64 cls, .int .i64 tm, .slice lA lns.length lc, .int .i64 cn] 66 := by rw [← hY7]; exact Blk.new wr _ _
      have b7 : Below wr.heap.size wr Y7 := by rw [← hY7]; exact (Below.refl _ wr).al _
      have hsz7 : w.heap.size ≤ wr.heap.size := bY.size
      have bY7 := bY.st b7
      have hown7 := hown.st b7
      have x6 := BX.cell 6 (v := .int .i64 cn) rfl
      have hql : q.length ≤ 1000 := by have := HQL.out; omega
      have R : Hid (q ++ [cn] = ctL ((cvs l).take (k + 1))) := Lib.hid (by rw [HT.out, ← HQ.out])
      clear hx hi hb hown b7 bY HT HQ
      go_wp2_with (at_builtin; refine wpList_app1b rfl (.tmp 13) (.tmp 16) tyI encI_ok rfl (cn : Int) rfl _ rfl (by simp) hown7 rfl (by first | rfl | simp) (by first | omega | (simp; omega)) (by first | omega | (simp; omega)) (by first | exact bY7.size | (have := bY7.size; omega)) ?_; intro A8 c8 w8 hown8 hb8 hs8 hf8; have hbel8 := bY7.trans hb8)
      clear hown7 hb8 hf8
      go_wp2_with fail
      go_roundw
      case rel => exact ⟨k + 1, q ++ [cn], A8, c8, HK.out, by go_num, by simp, Lib.hid (by have := HQL.out; simp; omega), R, hown8, hbel8⟩
      case measure => have := HK.out; simp [RowKit.intOf]; omega
    · obtain rfl : k = l.length := by omega
      have hq : q = ctL (cvs l) := by have := HQ.out; rwa [← cvs_len, List.take_length] at this
      subst hq
      have hql : (ctL (cvs l)).length ≤ 1024 := by have := HQL.out; omega
      have CS := Lib.hid (msumx_any c' (hown.rd encI_ok) hql)
      clear HQ hown
      go_wp2_with fail
      refine CS.out.mono ?_
      rintro e w3 ⟨rfl, hbn⟩
      have b3 := bY.st hbn
      go_wp2_with fail
      go_ret2
      exact ⟨rfl, b3⟩

end Go.Proofs.YtcpfiiapfggmpaaGreat
/- A stable sort by rotations, plain: elements bear tags; the order on tagged elements is strict and total. No program in sight. -/
namespace Go.Proofs.YtcpfiiapfggmpaaGreat
open Go.Sort

section
variable {α : Type} [Inhabited α]

/-- the order on tagged elements -/
def lexB (lt : α → α → Bool) (x y : α × Nat) : Bool := lt x.1 y.1 || (!lt y.1 x.1 && decide (x.2 < y.2))
def fstB (lt : α → α → Bool) (x y : α × Nat) : Bool := lt x.1 y.1
variable {lt : α → α → Bool}
omit [Inhabited α] in
theorem lexB_iff (x y : α × Nat) : lexB lt x y = true ↔ lt x.1 y.1 = true ∨ (lt y.1 x.1 = false ∧ x.2 < y.2) := by simp [lexB]
omit [Inhabited α] in
theorem lexB_no (x y : α × Nat) : lexB lt x y = false ↔ lt x.1 y.1 = false ∧ (lt y.1 x.1 = true ∨ y.2 ≤ x.2) := by
  unfold lexB
  cases lt x.1 y.1 <;> cases lt y.1 x.1 <;> simp
omit [Inhabited α] in
theorem lexB_swo (h : SWO lt) : SWO (lexB lt) where
  irrefl x := by rw [lexB_no]; exact ⟨h.irrefl _, .inr (Nat.le_refl _)⟩
  trans x y z a b := by
    rw [lexB_iff] at a b ⊢
    rcases a with a | ⟨a1, a2⟩ <;> rcases b with b | ⟨b1, b2⟩
    · exact .inl (h.trans _ _ _ a b)
    · cases hxz : lt x.1 z.1
      · exact absurd (h.ntrans _ _ _ hxz b1) (by rw [a]; simp)
      · exact .inl rfl
    · cases hxz : lt x.1 z.1
      · exact absurd (h.ntrans _ _ _ a1 hxz) (by rw [b]; simp)
      · exact .inl rfl
    · exact .inr ⟨h.ntrans _ _ _ b1 a1, by omega⟩
  ntrans x y z a b := by
    rw [lexB_no] at a b ⊢
    refine ⟨h.ntrans _ _ _ a.1 b.1, ?_⟩
    cases hzx : lt z.1 x.1
    · right
      have e1 : lt y.1 x.1 = false := by
        cases e : lt y.1 x.1
        · rfl
        · exact absurd (h.ntrans _ _ _ b.1 hzx) (by rw [e]; simp)
      have e2 : lt z.1 y.1 = false := by
        cases e : lt z.1 y.1
        · rfl
        · exact absurd (h.ntrans _ _ _ hzx a.1) (by rw [e]; simp)
      rcases a.2 with q | q
      · rw [e1] at q; cases q
      · rcases b.2 with r | r
        · rw [e2] at r; cases r
        · omega
    · exact .inl rfl
omit [Inhabited α] in
/-- an earlier one is compared by its value alone -/
theorem lexB_late {x y : α × Nat} (h : y.2 < x.2) : lexB lt x y = fstB lt x y := by
  unfold lexB fstB
  rw [show decide (x.2 < y.2) = false by simp; omega]
  simp
omit [Inhabited α] in
theorem lex_flip (h : SWO lt) {x y : α × Nat} (hxy : lexB lt x y = true) : lexB lt y x = false := (lexB_swo h).asymmA hxy

/-! ### the insertion sort of elements whose tags ascend -/
theorem insInner_lex {a : Nat} : ∀ (j : Nat) (d : Array (α × Nat)), j < d.size → (∀ t, a ≤ t → t < j → d[t]!.2 < d[j]!.2) → insInner (fstB lt) a j d = insInner (lexB lt) a j d
  | 0, _, _, _ => rfl
  | j + 1, d, hj, h => by
    rw [insInner, insInner]
    by_cases ha : j + 1 > a
    · have hl := lexB_late (lt := lt) (h j (by omega) (by omega))
      rw [hl]
      cases hc : fstB lt d[j + 1]! d[j]!
      · simp
      · simp only [ha, decide_true, Bool.and_self, ↓reduceIte]
        refine insInner_lex j (swp d (j + 1) j) (by rw [size_swp]; omega) fun t h1 h2 => ?_
        rw [swp_other _ _ _ _ (by omega) (by omega), swp_right _ _ _ (by omega)]
        exact h t h1 (by omega)
    · simp [ha]
theorem insOuter_lex (hS : SWO lt) {a b : Nat} : ∀ (n i : Nat) (d : Array (α × Nat)), b - i = n → a ≤ i → b ≤ d.size → (∀ s t, a ≤ s → s < t → i ≤ t → t < b → d[s]!.2 < d[t]!.2) → insOuter (fstB lt) a b i d = insOuter (lexB lt) a b i d
  | 0, i, d, hn, _, _, _ => by rw [insOuter_stop _ _ _ _ _ (by omega), insOuter_stop _ _ _ _ _ (by omega)]
  | n + 1, i, d, hn, hai, hb, h => by
    rw [insOuter_go _ _ _ _ _ (by omega : i < b), insOuter_go _ _ _ _ _ (by omega : i < b), insInner_lex i d (by omega) (fun t h1 h2 => h t i h1 h2 (Nat.le_refl _) (by omega))]
    have key : PermIn a (i + 1) d (insInner (lexB lt) a i d) := by
      have : ∀ (j : Nat) (d : Array (α × Nat)), j ≤ i → b ≤ d.size → PermIn a (i + 1) d (insInner (lexB lt) a j d) := by
        intro j
        induction j with
        | zero => intro d _ _; exact permIn_refl _ _ _
        | succ j ih =>
          intro d hj hd
          rw [insInner]
          split
          · rename_i hc
            simp only [gt_iff_lt, Bool.and_eq_true, decide_eq_true_eq] at hc
            refine permIn_trans _ _ _ _ _ (swp_permIn d a (i + 1) (j + 1) j (by omega) (by omega) (by omega) (by omega) (by omega)) (ih _ (by omega) (by rw [size_swp]; exact hd))
          · exact permIn_refl _ _ _
      exact this i d (Nat.le_refl _) hb
    refine insOuter_lex hS n (i + 1) _ (by omega) (by omega) (by rw [key.1]; exact hb) fun s t h1 h2 h3 h4 => ?_
    rw [key.2.1 t (.inr (by omega))]
    by_cases hs : s < i + 1
    · exact permIn_all d _ a (i + 1) (fun x => x.2 < d[t]!.2) (by omega) key (fun u h5 h6 => h u t h5 (by omega) (by omega) h4) s h1 hs
    · rw [key.2.1 s (.inr (by omega))]
      exact h s t h1 h2 (by omega) h4
theorem insSort_lex (hS : SWO lt) {a b : Nat} {d : Array (α × Nat)} (hab : a ≤ b) (hb : b ≤ d.size) (h : ∀ s t, a ≤ s → s < t → t < b → d[s]!.2 < d[t]!.2) :
    PermIn a b d (insertionSort (fstB lt) d a b) ∧ SortedIn (lexB lt) a b (insertionSort (fstB lt) d a b) := by
  have e : insertionSort (fstB lt) d a b = insertionSort (lexB lt) d a b := by
    unfold insertionSort
    exact insOuter_lex hS _ (a + 1) d rfl (by omega) hb fun s t h1 h2 _ h4 => h s t h1 h2 h4
  rw [e]
  exact insertionSort_holds (lexB_swo hS) d a b hab hb
end

/-! ### moves -/
section
variable {β : Type} [Inhabited β]
/-- d' holds at t what d held at f t -/
def Moved (f : Nat → Nat) (d d' : Array β) : Prop := d'.size = d.size ∧ ∀ t, t < d.size → d'[t]! = d[f t]!
theorem Moved.refl (d : Array β) : Moved (fun t => t) d d := ⟨rfl, fun _ _ => rfl⟩
theorem Moved.congr {f g : Nat → Nat} {d d' : Array β} (h : Moved f d d') (e : ∀ t, t < d.size → f t = g t) : Moved g d d' := ⟨h.1, fun t ht => by rw [h.2 t ht, e t ht]⟩
theorem Moved.trans {f g : Nat → Nat} {d d' d'' : Array β} (h : Moved f d d') (k : Moved g d' d'') (hg : ∀ t, t < d.size → g t < d.size) : Moved (fun t => f (g t)) d d'' :=
  ⟨k.1.trans h.1, fun t ht => by rw [k.2 t (by rw [h.1]; exact ht), h.2 _ (hg t ht)]⟩
def swF (i j t : Nat) : Nat := if t = i then j else if t = j then i else t
theorem Moved.swp (d : Array β) {i j : Nat} (hi : i < d.size) (hj : j < d.size) : Moved (swF i j) d (Go.Sort.swp d i j) := by
  refine ⟨size_swp _ _ _, fun t _ => ?_⟩
  unfold swF
  by_cases h1 : t = i
  · rw [if_pos h1, h1]
    by_cases h2 : i = j
    · rw [h2, swp_right _ _ _ hj]
    · rw [swp_left _ _ _ hi h2]
  · rw [if_neg h1]
    by_cases h2 : t = j
    · rw [if_pos h2, h2, swp_right _ _ _ hj]
    · rw [if_neg h2, swp_other _ _ _ _ h1 h2]
/-- two ranges of n exchanged -/
def raF (a b n t : Nat) : Nat := if a ≤ t ∧ t < a + n then t - a + b else if b ≤ t ∧ t < b + n then t - b + a else t
theorem raF_zero (a b t : Nat) : raF a b 0 t = t := by unfold raF; rw [if_neg (by omega), if_neg (by omega)]
theorem Moved.ra {d dk : Array β} {a b n k : Nat} (h : Moved (raF a b k) d dk) (hk : k < n) (hab : a + n ≤ b) (hb : b + n ≤ d.size) : Moved (raF a b (k + 1)) d (Go.Sort.swp dk (a + k) (b + k)) := by
  refine (h.trans (Moved.swp dk (i := a + k) (j := b + k) (by rw [h.1]; omega) (by rw [h.1]; omega)) fun t ht => ?_).congr fun t ht => ?_
  · unfold swF
    repeat' split
    all_goals omega
  · unfold swF raF
    repeat' split
    all_goals omega
/-- the ranges [s, m) and [m, e) turned about -/
def roF (s m e t : Nat) : Nat := if s ≤ t ∧ t < s + (e - m) then t + (m - s) else if s + (e - m) ≤ t ∧ t < e then t - (e - m) else t
theorem roF_lt {s m e t n : Nat} (h1 : s ≤ m) (h2 : m ≤ e) (he : e ≤ n) (ht : t < n) : roF s m e t < n := by
  unfold roF
  repeat' split
  all_goals omega
/-- one step of the rotation: i > j -/
theorem roF_big {m i j t : Nat} (hi : j < i) (hm : i ≤ m) : raF (m - i) m j (roF (m - (i - j)) m (m + j) t) = roF (m - i) m (m + j) t := by
  unfold raF roF
  repeat' split
  all_goals omega
/-- one step of the rotation: i < j -/
theorem roF_small {m i j t : Nat} (hi : i < j) (hm : i ≤ m) : raF (m - i) (m + j - i) i (roF (m - i) m (m + (j - i)) t) = roF (m - i) m (m + j) t := by
  unfold raF roF
  repeat' split
  all_goals omega
theorem roF_even {m i t : Nat} (hm : i ≤ m) : raF (m - i) m i t = roF (m - i) m (m + i) t := by
  unfold raF roF
  repeat' split
  all_goals omega
/-- what lay at a comes to i - 1, all between one down -/
def dnF (a i t : Nat) : Nat := if a ≤ t ∧ t + 1 < i then t + 1 else if t + 1 = i ∧ a < i then a else t
theorem Moved.dn {d dk : Array β} {a k : Nat} (h : Moved (dnF a (k + 1)) d dk) (hak : a ≤ k) (hk : k + 1 < d.size) : Moved (dnF a (k + 1 + 1)) d (Go.Sort.swp dk k (k + 1)) := by
  refine (h.trans (Moved.swp dk (i := k) (j := k + 1) (by rw [h.1]; omega) (by rw [h.1]; omega)) fun t ht => ?_).congr fun t ht => ?_
  · unfold swF
    repeat' split
    all_goals omega
  · unfold swF dnF
    repeat' split
    all_goals omega
theorem dnF_start {a t : Nat} : dnF a (a + 1) t = t := by
  unfold dnF
  repeat' split
  all_goals omega
theorem dnF_none {a i t : Nat} (h : i ≤ a + 1) : dnF a i t = t := by
  unfold dnF
  repeat' split
  all_goals omega
/-- what lay at m comes to i, all between one up -/
def upF (i m t : Nat) : Nat := if t = i ∧ i ≤ m then m else if i < t ∧ t ≤ m then t - 1 else t
theorem upF_start {m t : Nat} : upF m m t = t := by
  unfold upF
  repeat' split
  all_goals omega
theorem Moved.up {d dk : Array β} {k m : Nat} (h : Moved (upF (k + 1) m) d dk) (hk : k + 1 ≤ m) (hm : m < d.size) : Moved (upF k m) d (Go.Sort.swp dk (k + 1) k) := by
  refine (h.trans (Moved.swp dk (i := k + 1) (j := k) (by rw [h.1]; omega) (by rw [h.1]; omega)) fun t ht => ?_).congr fun t ht => ?_
  · unfold swF
    repeat' split
    all_goals omega
  · unfold swF upF
    repeat' split
    all_goals omega
end
end Go.Proofs.YtcpfiiapfggmpaaGreat
