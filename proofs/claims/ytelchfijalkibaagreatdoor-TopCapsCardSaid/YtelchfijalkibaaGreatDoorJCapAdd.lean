/- Joined texts: CapAdd, StabMerge. -/
import Derived.Test.YtelchfijalkibaaGreatDoorJMap
import Derived.Test.YtelchfijalkibaaGreatDoorJNetChk
import Derived.Deep.RegionHeld3
import Derived.Deep.RegionWith
import Derived.Deep.DrawnRows
import Derived.Deep.RegionLaw
import Derived.BigRegion
import Derived.Test.YtelchfijalkibaaGreatDoorJStabMath
/- tally.add at pairs of numbers, walked. -/
set_option linter.unusedSimpArgs false
set_option linter.unusedSimpArgs false
namespace Go.Proofs.YtelchfijalkibaaGreatDoor
open Go.RowKit Go.Lib Go.MapKept

set_option maxRecDepth 100000 in
set_option maxHeartbeats 8000000 in
theorem tadd_any (mb : Nat) {g g' : Src → Int} (s1 s2 n : Int) {w : World} (hM : CntMap w mb g) (hs : SrcOk (s1, s2)) (hw : IntKind.i64.wrap (g (s1, s2) + n) = g (s1, s2) + n) (h1 : g' (s1, s2) = g (s1, s2) + n) (h2 : ∀ s', s' ≠ (s1, s2) → g' s' = g s') :
    Calls Tryz.prog 34 #[.agg #[.map (some mb)], .agg #[.int .i64 s1, .int .i64 s2], .int .i64 n] w fun e w' => e = .returned (.tuple #[]) ∧ CntMap w' mb g' ∧ Below mb w w' ∧ ∀ b, b < w.heap.size → b ≠ mb → w'.heap[b]? = w.heap[b]? := by
  obtain ⟨Y1, hY1⟩ : ∃ Y, w.alloc (.cells #[.map (some mb)] 115) = Y := ⟨_, rfl⟩
  have z1 : Y1.heap.size = w.heap.size + 1 := by rw [← hY1]; simp
  obtain ⟨Y, hY⟩ : ∃ Y, Y1.alloc (.cells #[.int .i64 s1, .int .i64 s2] 117) = Y := ⟨_, rfl⟩
  have BT : Blk Y w.heap.size #[.map (some mb)] 115 := by rw [← hY, ← hY1]; exact (Blk.new w _ _).alloc _
  have BS : Blk Y (w.heap.size + 1) #[.int .i64 s1, .int .i64 s2] 117 := by rw [← hY, ← z1]; exact Blk.new Y1 _ _
  have bW : Below w.heap.size w Y := by rw [← hY, ← hY1]; exact ((Below.refl _ w).al _).al _
  have hml := hM.lt
  have hM := hM.st bW
  have hlk0 := CntMap.look (w := Y.drew) hM hs
  obtain ⟨j, w1, hme, hCA, hg1⟩ := CntMap.entry (w := Y.drew) hM hs
  have hlk1 := hCA.map.look hs
  obtain ⟨w2, hes, hM2, hg2⟩ := hCA.store (g (s1, s2) + n) (g' := g') h1 h2
  simp only [srcV] at hlk0 hme hlk1
  have t0 := BT.cell 0 (v := .map (some mb)) rfl
  have t1 := BS.cell 0 (v := .int .i64 s1) rfl
  have t2 := BS.cell 1 (v := .int .i64 s2) rfl
  have hS0 : (fun w' : World => w'.cell? ⟨w.heap.size, 0, none⟩ = some (.map (some mb)) ∧ w'.cell? ⟨w.heap.size + 1, 0, none⟩ = some (.int .i64 s1) ∧ w'.cell? ⟨w.heap.size + 1, 1, none⟩ = some (.int .i64 s2)) Y.drew := ⟨t0, t1, t2⟩
  have o1 : ∀ b, b < Y.heap.size → b ≠ mb → w1.heap[b]? = Y.heap[b]? := fun b hb hne => hg1.block b hb (fun e => hne (Option.some.inj e))
  have o2 : ∀ b, b < Y.heap.size → b ≠ mb → w2.heap[b]? = Y.heap[b]? := fun b hb hne => (hg2.block b (Nat.lt_of_lt_of_le hb hg1.size) (fun e => hne (Option.some.inj e))).trans (o1 b hb hne)
  have hS1 : (fun w' : World => w'.cell? ⟨w.heap.size, 0, none⟩ = some (.map (some mb)) ∧ w'.cell? ⟨w.heap.size + 1, 0, none⟩ = some (.int .i64 s1) ∧ w'.cell? ⟨w.heap.size + 1, 1, none⟩ = some (.int .i64 s2)) w1 := ⟨(World.cell?_of_block (o1 _ BT.lt (by show w.heap.size ≠ mb; omega))).trans t0, (World.cell?_of_block (o1 _ BS.lt (by show w.heap.size + 1 ≠ mb; omega))).trans t1, (World.cell?_of_block (o1 _ BS.lt (by show w.heap.size + 1 ≠ mb; omega))).trans t2⟩
  have hS2 : (fun w' : World => w'.cell? ⟨w.heap.size, 0, none⟩ = some (.map (some mb)) ∧ w'.cell? ⟨w.heap.size + 1, 0, none⟩ = some (.int .i64 s1) ∧ w'.cell? ⟨w.heap.size + 1, 1, none⟩ = some (.int .i64 s2)) w2 := ⟨(World.cell?_of_block (o2 _ BT.lt (by show w.heap.size ≠ mb; omega))).trans t0, (World.cell?_of_block (o2 _ BS.lt (by show w.heap.size + 1 ≠ mb; omega))).trans t1, (World.cell?_of_block (o2 _ BS.lt (by show w.heap.size + 1 ≠ mb; omega))).trans t2⟩
  have b1 : Below mb w w1 := below_store (bW.mono (by omega)).drew hg1 (by show mb ≤ Y.heap.size; have := BS.lt; omega) (Nat.le_refl _)
  have b2 : Below mb w w2 := below_store b1 hg2 (by have := hg1.size; have := BS.lt; have : Y.drew.heap.size = Y.heap.size := rfl; omega) (Nat.le_refl _)
  have HB2 := Lib.hid b2
  have HM2 := Lib.hid hM2
  have HO2 : Hid (∀ b, b < w.heap.size → b ≠ mb → w2.heap[b]? = w.heap[b]?) := Lib.hid (fun b hb hne => (o2 b (by have := BS.lt; omega) hne).trans (bW.block b hb))
  clear hM hCA hM2 hg1 hg2 o1 o2 b1 b2 hs bW h1 h2
  generalize g (s1, s2) = v at *
  go_enter Tryz.func34, Tryz.ntmps34
  go_wp2_with fail
  refine wp_region_held_drew (S := (fun w' : World => w'.cell? ⟨w.heap.size, 0, none⟩ = some (.map (some mb)) ∧ w'.cell? ⟨w.heap.size + 1, 0, none⟩ = some (.int .i64 s1) ∧ w'.cell? ⟨w.heap.size + 1, 1, none⟩ = some (.int .i64 s2))) (by kernel_rfl) ?_ (fun hHeld => ?_)
  focus exact hS0
  change wpAnyH _ _ _ _ _ 9 _ _ _
  refine wpAnyH_take (i := 0) (v := ?_) (by simp only [List.getElem?_toArray, List.getElem?_cons_zero, List.getElem?_cons_succ]; rfl) (by kernel_rfl) (by kernel_rfl) (by kernel_rfl) (by intro _ _ _ h; exact h) (Or.inl ⟨by rfl, ?_⟩) (by assumption) ?_; rotate_left; (focus (intro w1 hSw; (try dsimp only at hSw); go_simp; (try with_reducible rfl))); (try simp only [Act.put, List.setIfInBounds_toArray, List.set_cons_zero, List.set_cons_succ, List.getElem_toArray, List.getElem_cons_zero, List.getElem_cons_succ])
  refine wpAnyH_take (i := 1) (v := ?_) (by simp only [List.getElem?_toArray, List.getElem?_cons_zero, List.getElem?_cons_succ]; rfl) (by kernel_rfl) (by kernel_rfl) (by kernel_rfl) (by intro _ _ _ h; exact h) (Or.inl ⟨by rfl, ?_⟩) (by assumption) ?_; rotate_left; (focus (intro w1 hSw; (try dsimp only at hSw); go_simp; (try with_reducible rfl))); (try simp only [Act.put, List.setIfInBounds_toArray, List.set_cons_zero, List.set_cons_succ, List.getElem_toArray, List.getElem_cons_zero, List.getElem_cons_succ])
  refine wpAnyH_take (i := 2) (v := ?_) (by simp only [List.getElem?_toArray, List.getElem?_cons_zero, List.getElem?_cons_succ]; rfl) (by kernel_rfl) (by kernel_rfl) (by kernel_rfl) (by intro _ _ _ h; exact h) (Or.inl ⟨by rfl, ?_⟩) (by assumption) ?_; rotate_left; (focus (intro w1 hSw; (try dsimp only at hSw); go_simp; (try with_reducible rfl))); (try simp only [Act.put, List.setIfInBounds_toArray, List.set_cons_zero, List.set_cons_succ, List.getElem_toArray, List.getElem_cons_zero, List.getElem_cons_succ])
  refine wpAnyH_take (i := 4) (v := ?_) (by simp only [List.getElem?_toArray, List.getElem?_cons_zero, List.getElem?_cons_succ]; rfl) (by kernel_rfl) (by kernel_rfl) (by kernel_rfl) (by intro _ _ _ h; exact h) (Or.inl ⟨by rfl, ?_⟩) (by assumption) ?_; rotate_left; (focus (intro w1 hSw; (try dsimp only at hSw); go_simp; (try with_reducible rfl))); (try simp only [Act.put, List.setIfInBounds_toArray, List.set_cons_zero, List.set_cons_succ, List.getElem_toArray, List.getElem_cons_zero, List.getElem_cons_succ])
  refine wpAnyH_ready (rs := [3, 6]) (by kernel_rfl) (by simp) ?_; refine AllReadyH.cons (by simp only [List.getElem?_toArray, List.getElem?_cons_zero, List.getElem?_cons_succ]; rfl) (fun K hK => ?_) (AllReadyH.cons (by simp only [List.getElem?_toArray, List.getElem?_cons_zero, List.getElem?_cons_succ]; rfl) (fun K hK => ?_) AllReadyH.nil)
  · rw [if_pos (by rfl)]
    go_wp2_with fail; refine hK.out _ _ ?_ (fun hHeld => ?_); (focus exact hS0); clear hK K; (try simp only [Act.put, List.setIfInBounds_toArray, List.set_cons_zero, List.set_cons_succ, List.getElem_toArray, List.getElem_cons_zero, List.getElem_cons_succ])
    refine wpAnyH_take (i := 5) (v := ?_) (by simp only [List.getElem?_toArray, List.getElem?_cons_zero, List.getElem?_cons_succ]; rfl) (by kernel_rfl) (by kernel_rfl) (by kernel_rfl) (by intro _ _ _ h; exact h) (Or.inl ⟨by rfl, ?_⟩) (by assumption) ?_; rotate_left; (focus (intro w1 hSw; (try dsimp only at hSw); go_simp; (try with_reducible rfl))); (try simp only [Act.put, List.setIfInBounds_toArray, List.set_cons_zero, List.set_cons_succ, List.getElem_toArray, List.getElem_cons_zero, List.getElem_cons_succ])
    refine wpAnyH_ready (rs := [6]) (by kernel_rfl) (by simp) ?_; refine AllReadyH.cons (by simp only [List.getElem?_toArray, List.getElem?_cons_zero, List.getElem?_cons_succ]; rfl) (fun K hK => ?_) AllReadyH.nil
    rw [if_pos (by rfl)]
    go_wp2_with fail; refine hK.out _ _ ?_ (fun hHeld => ?_); (focus exact hS1); clear hK K; (try simp only [Act.put, List.setIfInBounds_toArray, List.set_cons_zero, List.set_cons_succ, List.getElem_toArray, List.getElem_cons_zero, List.getElem_cons_succ])
    refine wpAnyH_take (i := 7) (v := ?_) (by simp only [List.getElem?_toArray, List.getElem?_cons_zero, List.getElem?_cons_succ]; rfl) (by kernel_rfl) (by kernel_rfl) (by kernel_rfl) (by intro _ _ _ h; exact h) (Or.inl ⟨by rfl, ?_⟩) (by assumption) ?_; rotate_left; (focus (intro w1 hSw; (try dsimp only at hSw); go_simp; (try with_reducible rfl))); (try simp only [Act.put, List.setIfInBounds_toArray, List.set_cons_zero, List.set_cons_succ, List.getElem_toArray, List.getElem_cons_zero, List.getElem_cons_succ])
    refine wpAnyH_ready (rs := [8]) (by kernel_rfl) (by simp) ?_; refine AllReadyH.cons (by simp only [List.getElem?_toArray, List.getElem?_cons_zero, List.getElem?_cons_succ]; rfl) (fun K hK => ?_) AllReadyH.nil
    rw [if_pos (by rfl)]
    go_wp2_with fail; refine hK.out _ _ ?_ (fun hHeld => ?_); (focus exact hS2); clear hK K; (try simp only [Act.put, List.setIfInBounds_toArray, List.set_cons_zero, List.set_cons_succ, List.getElem_toArray, List.getElem_cons_zero, List.getElem_cons_succ])
    refine wpAnyH_done (by kernel_rfl) ?_ _
    clear hlk0 hme hlk1 hes hHeld
    go_wp2_with fail
    go_end0
    exact ⟨rfl, HM2.out, HB2.out, HO2.out⟩
  · rw [if_pos (by rfl)]
    go_wp2_with fail; refine hK.out _ _ ?_ (fun hHeld => ?_); (focus exact hS1); clear hK K; (try simp only [Act.put, List.setIfInBounds_toArray, List.set_cons_zero, List.set_cons_succ, List.getElem_toArray, List.getElem_cons_zero, List.getElem_cons_succ])
    refine wpAnyH_take (i := 7) (v := ?_) (by simp only [List.getElem?_toArray, List.getElem?_cons_zero, List.getElem?_cons_succ]; rfl) (by kernel_rfl) (by kernel_rfl) (by kernel_rfl) (by intro _ _ _ h; exact h) (Or.inl ⟨by rfl, ?_⟩) (by assumption) ?_; rotate_left; (focus (intro w1 hSw; (try dsimp only at hSw); go_simp; (try with_reducible rfl))); (try simp only [Act.put, List.setIfInBounds_toArray, List.set_cons_zero, List.set_cons_succ, List.getElem_toArray, List.getElem_cons_zero, List.getElem_cons_succ])
    refine wpAnyH_ready (rs := [3]) (by kernel_rfl) (by simp) ?_; refine AllReadyH.cons (by simp only [List.getElem?_toArray, List.getElem?_cons_zero, List.getElem?_cons_succ]; rfl) (fun K hK => ?_) AllReadyH.nil
    rw [if_pos (by rfl)]
    go_wp2_with fail; refine hK.out _ _ ?_ (fun hHeld => ?_); (focus exact hS1); clear hK K; (try simp only [Act.put, List.setIfInBounds_toArray, List.set_cons_zero, List.set_cons_succ, List.getElem_toArray, List.getElem_cons_zero, List.getElem_cons_succ])
    refine wpAnyH_take (i := 5) (v := ?_) (by simp only [List.getElem?_toArray, List.getElem?_cons_zero, List.getElem?_cons_succ]; rfl) (by kernel_rfl) (by kernel_rfl) (by kernel_rfl) (by intro _ _ _ h; exact h) (Or.inl ⟨by rfl, ?_⟩) (by assumption) ?_; rotate_left; (focus (intro w1 hSw; (try dsimp only at hSw); go_simp; (try with_reducible rfl))); (try simp only [Act.put, List.setIfInBounds_toArray, List.set_cons_zero, List.set_cons_succ, List.getElem_toArray, List.getElem_cons_zero, List.getElem_cons_succ])
    refine wpAnyH_ready (rs := [8]) (by kernel_rfl) (by simp) ?_; refine AllReadyH.cons (by simp only [List.getElem?_toArray, List.getElem?_cons_zero, List.getElem?_cons_succ]; rfl) (fun K hK => ?_) AllReadyH.nil
    rw [if_pos (by rfl)]
    go_wp2_with fail; refine hK.out _ _ ?_ (fun hHeld => ?_); (focus exact hS2); clear hK K; (try simp only [Act.put, List.setIfInBounds_toArray, List.set_cons_zero, List.set_cons_succ, List.getElem_toArray, List.getElem_cons_zero, List.getElem_cons_succ])
    refine wpAnyH_done (by kernel_rfl) ?_ _
    clear hlk0 hme hlk1 hes hHeld
    go_wp2_with fail
    go_end0
    exact ⟨rfl, HM2.out, HB2.out, HO2.out⟩
end Go.Proofs.YtelchfijalkibaaGreatDoor
/- The merge by rotations sorts tagged elements: plain. No program in sight. -/
namespace Go.Proofs.YtelchfijalkibaaGreatDoor
open Go.Sort

section
variable {α : Type} [Inhabited α] {lt : α → α → Bool}
/-- the tags of [a, m) lie before those of [m, b) -/
def Crs (a m b : Nat) (d : Array (α × Nat)) : Prop := ∀ i j, a ≤ i → i < m → m ≤ j → j < b → d[i]!.2 < d[j]!.2
abbrev Srt (lt : α → α → Bool) (a b : Nat) (d : Array (α × Nat)) : Prop := SortedIn (lexB lt) a b d
theorem Srt.le (hS : SWO lt) {a b i j : Nat} {d : Array (α × Nat)} (h : Srt lt a b d) (h1 : a ≤ i) (h2 : i ≤ j) (h3 : j < b) : lexB lt d[j]! d[i]! = false := by
  rcases Nat.lt_or_eq_of_le h2 with e | rfl
  · exact h i j h1 e h3
  · exact (lexB_swo hS).irrefl _
theorem merge_left (hS : SWO lt) {a m b i : Nat} {d d' : Array (α × Nat)} (hm : m = a + 1) (h1 : m ≤ i) (h2 : i ≤ b) (hb : b ≤ d.size) (hs : Srt lt m b d) (hc : Crs a m b d)
    (hlo : i = m ∨ fstB lt d[i - 1]! d[a]! = true) (hhi : i = b ∨ fstB lt d[i]! d[a]! = false) (mv : Moved (dnF a i) d d') : Srt lt a b d' := by
  have hL := lexB_swo hS
  have F1 : ∀ t, m ≤ t → t < i → lexB lt d[a]! d[t]! = false := by
    intro t ht1 ht2
    rcases hlo with q | q
    · omega
    · rw [← lexB_late (hc a (i - 1) (Nat.le_refl _) (by omega) (by omega) (by omega))] at q
      exact hL.ntrans _ _ _ (lex_flip hS q) (hs.le hS ht1 (by omega) (by omega))
  have F2 : ∀ t, i ≤ t → t < b → lexB lt d[t]! d[a]! = false := by
    intro t ht1 ht2
    rcases hhi with q | q
    · omega
    · rw [← lexB_late (hc a i (Nat.le_refl _) (by omega) (by omega) (by omega))] at q
      exact hL.ntrans _ _ _ (hs.le hS (by omega) ht1 ht2) q
  intro p q hp hpq hq
  rw [mv.2 p (by omega), mv.2 q (by omega)]
  unfold dnF
  by_cases p1 : p + 1 < i
  · rw [if_pos (⟨hp, p1⟩ : a ≤ p ∧ p + 1 < i)]
    by_cases q1 : q + 1 < i
    · rw [if_pos (⟨by omega, q1⟩ : a ≤ q ∧ q + 1 < i)]
      exact hs _ _ (by omega) (by omega) (by omega)
    · rw [if_neg (by omega)]
      by_cases q2 : q + 1 = i
      · rw [if_pos ⟨q2, by omega⟩]
        exact F1 _ (by omega) p1
      · rw [if_neg (by omega)]
        exact hs _ _ (by omega) (by omega) hq
  · rw [if_neg (by omega : ¬ (a ≤ p ∧ p + 1 < i)), if_neg (by omega : ¬ (a ≤ q ∧ q + 1 < i)), if_neg (by omega : ¬ (q + 1 = i ∧ a < i))]
    by_cases p2 : p + 1 = i
    · rw [if_pos ⟨p2, by omega⟩]
      exact F2 _ (by omega) hq
    · rw [if_neg (by omega)]
      exact hs _ _ (by omega) hpq hq
theorem merge_right (hS : SWO lt) {a m b i : Nat} {d d' : Array (α × Nat)} (hm : b = m + 1) (h1 : a ≤ i) (h2 : i ≤ m) (hb : b ≤ d.size) (hs : Srt lt a m d) (hc : Crs a m b d)
    (hlo : i = a ∨ fstB lt d[m]! d[i - 1]! = false) (hhi : i = m ∨ fstB lt d[m]! d[i]! = true) (mv : Moved (upF i m) d d') : Srt lt a b d' := by
  have hL := lexB_swo hS
  have F1 : ∀ t, a ≤ t → t < i → lexB lt d[m]! d[t]! = false := by
    intro t ht1 ht2
    rcases hlo with q | q
    · omega
    · rw [← lexB_late (hc (i - 1) m (by omega) (by omega) (Nat.le_refl _) (by omega))] at q
      exact hL.ntrans _ _ _ q (hs.le hS ht1 (by omega) (by omega))
  have F2 : ∀ t, i ≤ t → t < m → lexB lt d[t]! d[m]! = false := by
    intro t ht1 ht2
    rcases hhi with q | q
    · omega
    · rw [← lexB_late (hc i m (by omega) (by omega) (Nat.le_refl _) (by omega))] at q
      exact hL.ntrans _ _ _ (hs.le hS h1 ht1 ht2) (lex_flip hS q)
  intro p q hp hpq hq
  rw [mv.2 p (by omega), mv.2 q (by omega)]
  unfold upF
  by_cases p1 : p = i
  · rw [if_pos (⟨p1, h2⟩ : p = i ∧ i ≤ m), if_neg (by omega : ¬ (q = i ∧ i ≤ m)), if_pos (by omega : i < q ∧ q ≤ m)]
    exact F2 _ (by omega) (by omega)
  · rw [if_neg (by omega : ¬ (p = i ∧ i ≤ m))]
    by_cases q1 : q = i
    · rw [if_pos (⟨q1, h2⟩ : q = i ∧ i ≤ m), if_neg (by omega : ¬ (i < p ∧ p ≤ m))]
      exact F1 _ hp (by omega)
    · rw [if_neg (by omega : ¬ (q = i ∧ i ≤ m))]
      by_cases q2 : q < i
      · rw [if_neg (by omega : ¬ (i < q ∧ q ≤ m)), if_neg (by omega : ¬ (i < p ∧ p ≤ m))]
        exact hs _ _ hp hpq (by omega)
      · rw [if_pos (by omega : i < q ∧ q ≤ m)]
        by_cases p2 : p < i
        · rw [if_neg (by omega : ¬ (i < p ∧ p ≤ m))]
          exact hs _ _ hp (by omega) (by omega)
        · rw [if_pos (by omega : i < p ∧ p ≤ m)]
          exact hs _ _ (by omega) (by omega) (by omega)
theorem roF_none {s m e t : Nat} (h1 : s ≤ m) (h2 : m ≤ e) (h : s = m ∨ e = m) : roF s m e t = t := by
  unfold roF
  repeat' split
  all_goals omega
/-- behind the rotation: two pairs of sorted runs, and the first pair lies below the second -/
theorem merge_mid (hS : SWO lt) {a m b mid s e : Nat} {d d' : Array (α × Nat)} (h1 : a ≤ s) (h2 : s ≤ m) (h3 : m ≤ e) (h4 : e ≤ b) (hb : b ≤ d.size) (hmid : mid = s + (e - m)) (hl : Srt lt a m d) (hr : Srt lt m b d) (hc : Crs a m b d)
    (hlo : s = a ∨ e = b ∨ fstB lt d[e]! d[s - 1]! = false) (hhi : s = m ∨ e = m ∨ fstB lt d[e - 1]! d[s]! = true) (mv : Moved (roF s m e) d d') :
    Srt lt a s d' ∧ Srt lt s mid d' ∧ Crs a s mid d' ∧ Srt lt mid e d' ∧ Srt lt e b d' ∧ Crs mid e b d' ∧ ∀ i j, a ≤ i → i < mid → mid ≤ j → j < b → lexB lt d'[j]! d'[i]! = false := by
  have hL := lexB_swo hS
  have A : ∀ t, t < s → d'[t]! = d[t]! := fun t ht => by rw [mv.2 t (by omega)]; unfold roF; rw [if_neg (by omega), if_neg (by omega)]
  have B : ∀ t, s ≤ t → t < mid → d'[t]! = d[t + (m - s)]! := fun t h5 h6 => by rw [mv.2 t (by omega)]; unfold roF; rw [if_pos (by omega)]
  have C : ∀ t, mid ≤ t → t < e → d'[t]! = d[t - (e - m)]! := fun t h5 h6 => by rw [mv.2 t (by omega)]; unfold roF; rw [if_neg (by omega), if_pos (by omega)]
  have D : ∀ t, e ≤ t → t < b → d'[t]! = d[t]! := fun t h5 h6 => by rw [mv.2 t (by omega)]; unfold roF; rw [if_neg (by omega), if_neg (by omega)]
  refine ⟨fun p q h5 h6 h7 => ?_, fun p q h5 h6 h7 => ?_, fun p q h5 h6 h7 h8 => ?_, fun p q h5 h6 h7 => ?_, fun p q h5 h6 h7 => ?_, fun p q h5 h6 h7 h8 => ?_, fun p q h5 h6 h7 h8 => ?_⟩
  · rw [A p (by omega), A q h7]; exact hl _ _ h5 h6 (by omega)
  · rw [B p h5 (by omega), B q (by omega) h7]; exact hr _ _ (by omega) (by omega) (by omega)
  · rw [A p h6, B q h7 h8]; exact hc _ _ h5 (by omega) (by omega) (by omega)
  · rw [C p h5 (by omega), C q (by omega) h7]; exact hl _ _ (by omega) (by omega) (by omega)
  · rw [D p h5 (by omega), D q (by omega) h7]; exact hr _ _ (by omega) h6 h7
  · rw [C p h5 h6, D q h7 h8]; exact hc _ _ (by omega) (by omega) (by omega) h8
  · by_cases p1 : p < s
    · rw [A p p1]
      by_cases q1 : q < e
      · rw [C q h7 q1]; exact hl _ _ h5 (by omega) (by omega)
      · rw [D q (by omega) h8]
        rcases hlo with r | r | r
        · omega
        · omega
        · rw [← lexB_late (hc (s - 1) e (by omega) (by omega) h3 (by omega))] at r
          exact hL.ntrans _ _ _ (hr.le hS h3 (by omega) h8) (hL.ntrans _ _ _ r (hl.le hS h5 (by omega) (by omega)))
    · rw [B p (by omega) h6]
      by_cases q1 : q < e
      · rw [C q h7 q1]
        rcases hhi with r | r | r
        · omega
        · omega
        · rw [← lexB_late (hc s (e - 1) h1 (by omega) (by omega) (by omega))] at r
          exact hL.ntrans _ _ _ (hl.le hS h1 (by omega) (by omega)) (hL.ntrans _ _ _ (lex_flip hS r) (hr.le hS (by omega) (by omega) (by omega)))
      · rw [D q (by omega) h8]; exact hr _ _ (by omega) (by omega) h8
theorem merge_join (hS : SWO lt) {a mid b : Nat} {d1 d2 d3 : Array (α × Nat)} (h1 : a ≤ mid) (h2 : mid ≤ b) (hb : b ≤ d1.size) (hx : ∀ i j, a ≤ i → i < mid → mid ≤ j → j < b → lexB lt d1[j]! d1[i]! = false)
    (p2 : PermIn a mid d1 d2) (s2 : Srt lt a mid d2) (p3 : PermIn mid b d2 d3) (s3 : Srt lt mid b d3) : PermIn a b d1 d3 ∧ Srt lt a b d3 := by
  refine ⟨permIn_trans _ _ _ _ _ (permIn_mono d1 d2 a mid a b (Nat.le_refl _) h2 hb p2) (permIn_mono d2 d3 mid b a b h1 (Nat.le_refl _) (by rw [p2.1]; exact hb) p3), fun p q h5 h6 h7 => ?_⟩
  by_cases q1 : q < mid
  · rw [p3.2.1 p (.inl (by omega)), p3.2.1 q (.inl q1)]
    exact s2 _ _ h5 h6 q1
  · by_cases p1 : mid ≤ p
    · exact s3 _ _ p1 h6 h7
    · rw [p3.2.1 p (.inl (by omega))]
      have k2 : ∀ i, mid ≤ i → i < b → ∀ u, a ≤ u → u < mid → lexB lt d2[i]! d2[u]! = false := by
        intro i h8 h9 u h10 h11
        rw [p2.2.1 i (.inr h8)]
        exact permIn_all d1 d2 a mid (fun x => lexB lt d1[i]! x = false) (by omega) p2 (fun v h12 h13 => hx v i h12 h13 h8 h9) u h10 h11
      exact permIn_all d2 d3 mid b (fun x => lexB lt x d2[p]! = false) (by rw [p2.1]; exact hb) p3 (fun i h8 h9 => k2 i h8 h9 p h5 (by omega)) q (by omega) h7
theorem Crs.perm {a m b : Nat} {d d' : Array (α × Nat)} (h : Crs a m b d) (ham : a ≤ m) (hb : b ≤ d.size) {x y : Nat} (hx : a ≤ x) (hxy : x ≤ y) (hy : y ≤ m ∨ m ≤ x) (hyb : y ≤ b) (p : PermIn x y d d') : Crs a m b d' := by
  intro i j h1 h2 h3 h4
  have k : ∀ u, u < i + 1 → i < u + 1 → d[i]!.2 < d[j]!.2 := fun _ _ _ => h i j h1 h2 h3 h4
  rcases hy with hy | hy
  · rw [p.2.1 j (.inr (by omega))]
    by_cases q : x ≤ i ∧ i < y
    · exact permIn_all d d' x y (fun z => z.2 < d[j]!.2) (by omega) p (fun u h5 h6 => h u j (by omega) (by omega) h3 h4) i q.1 q.2
    · rw [p.2.1 i (by omega)]; exact h i j h1 h2 h3 h4
  · rw [p.2.1 i (.inl (by omega))]
    by_cases q : x ≤ j ∧ j < y
    · exact permIn_all d d' x y (fun z => d[i]!.2 < z.2) (by omega) p (fun u h5 h6 => h i u h1 h2 (by omega) (by omega)) j q.1 q.2
    · rw [p.2.1 j (by omega)]; exact h i j h1 h2 h3 h4
theorem Srt.out {a b x y : Nat} {d d' : Array (α × Nat)} (h : Srt lt a b d) (hy : y ≤ a ∨ b ≤ x) (p : PermIn x y d d') : Srt lt a b d' := by
  intro i j h1 h2 h3
  rw [p.2.1 i (by omega), p.2.1 j (by omega)]
  exact h i j h1 h2 h3
end
end Go.Proofs.YtelchfijalkibaaGreatDoor
