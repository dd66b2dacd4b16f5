/- Joined texts: CapChk, FirstI. -/
import Derived.Test.YtlnnbkpcnhlfcaaDoorCapSmall
import Derived.Test.YtlnnbkpcnhlfcaaDoorJDevEnc
import Derived.Test.YtlnnbkpcnhlfcaaDoorJCapMap
import Derived.Test.YtlnnbkpcnhlfcaaDoorJInts
/- cap.Check and the reference's, walked. -/
set_option linter.unusedSimpArgs false
namespace Go.Proofs.YtlnnbkpcnhlfcaaDoor
open Go.RowKit Go.Lib

/-- the rest of a cap's error -/
def capT (dy ct : Int) : Int := if dy ≠ 0 ∧ dy ≠ 1 then 1 else if amB ct = false then 13 else 0
theorem capE_6a {nm sy : ByteArray} {dy ct : Int} (h : nameB nm = false) : capE ⟨nm, sy, dy, ct⟩ = 6 := by unfold capE; rw [if_pos (.inl h)]
theorem capE_6b {nm sy : ByteArray} {dy ct : Int} (h : emp sy = false) (h2 : nameB sy = false) : capE ⟨nm, sy, dy, ct⟩ = 6 := by unfold capE; rw [if_pos (.inr ⟨h, h2⟩)]
theorem capE_T {nm sy : ByteArray} {dy ct : Int} (h : nameB nm = true) (h2 : emp sy = true ∨ nameB sy = true) : capE ⟨nm, sy, dy, ct⟩ = capT dy ct := by
  unfold capE capT
  rw [if_neg (by rintro (q | ⟨q1, q2⟩); · rw [h] at q; cases q
                 · rcases h2 with h2 | h2
                   · rw [h2] at q1; cases q1
                   · rw [h2] at q2; cases q2)]

set_option maxRecDepth 100000 in
set_option maxHeartbeats 8000000 in
theorem ccheck_any (nm sy : ByteArray) (dy ct : Int) (w : World) :
    Calls Tryd.prog 63 #[.agg #[.string nm, .string sy, .int .i64 dy, .int .i64 ct]] w fun e w' => e = .returned (.int .i64 (capE ⟨nm, sy, dy, ct⟩)) ∧ Below w.heap.size w w' := by
  have CN := Lib.hid (fun (X : World) => name_any nm X)
  have CS := Lib.hid (fun (X : World) => name_any sy X)
  obtain ⟨Y, hY⟩ : ∃ Y, w.alloc (.cells #[.string nm, .string sy, .int .i64 dy, .int .i64 ct] 97) = Y := ⟨_, rfl⟩; have bW : Below w.heap.size w Y := (by rw [← hY]; exact (Below.refl _ w).al _); have BP : Blk Y w.heap.size #[.string nm, .string sy, .int .i64 dy, .int .i64 ct] 97 := (by rw [← hY]; exact Blk.new w _ _)
  have p0 := BP.cell 0 (v := .string nm) rfl; have p1 := BP.cell 1 (v := .string sy) rfl; have p2 := BP.cell 2 (v := .int .i64 dy) rfl; have p3 := BP.cell 3 (v := .int .i64 ct) rfl
  cases hn : nameB nm
  · rw [capE_6a hn]
    rw [hn] at CN
    clear CS hn
    go_enter Tryd.func63, Tryd.ntmps63
    go_wp2_with fail
    refine (CN.out _).mono ?_
    rintro e w2 ⟨rfl, hbn⟩
    have bW := bW.st hbn; have BP := BP.below hbn BP.lt; have p0 := BP.cell 0 (v := .string nm) rfl; have p1 := BP.cell 1 (v := .string sy) rfl; have p2 := BP.cell 2 (v := .int .i64 dy) rfl; have p3 := BP.cell 3 (v := .int .i64 ct) rfl
    go_wp2_with fail
    go_ret
    exact ⟨rfl, bW⟩
  · rw [hn] at CN
    cases he : emp sy
    · obtain ⟨n1, n2, n3⟩ := toList_neE he
      cases hs : nameB sy
      · rw [capE_6b he hs]
        rw [hs] at CS
        clear he hs hn n1
        go_enter Tryd.func63, Tryd.ntmps63
        go_wp2_with fail
        refine (CN.out _).mono ?_
        rintro e w2 ⟨rfl, hbn⟩
        have bW := bW.st hbn; have BP := BP.below hbn BP.lt; have p0 := BP.cell 0 (v := .string nm) rfl; have p1 := BP.cell 1 (v := .string sy) rfl; have p2 := BP.cell 2 (v := .int .i64 dy) rfl; have p3 := BP.cell 3 (v := .int .i64 ct) rfl
        go_wp2_with fail
        refine (CS.out _).mono ?_
        rintro e w3 ⟨rfl, hbn⟩
        have bW := bW.st hbn; have BP := BP.below hbn BP.lt; have p0 := BP.cell 0 (v := .string nm) rfl; have p1 := BP.cell 1 (v := .string sy) rfl; have p2 := BP.cell 2 (v := .int .i64 dy) rfl; have p3 := BP.cell 3 (v := .int .i64 ct) rfl
        go_wp2_with fail
        go_ret
        exact ⟨rfl, bW⟩
      · rw [capE_T hn (.inr hs)]
        rw [hs] at CS
        clear he hs hn n1
        go_enter Tryd.func63, Tryd.ntmps63
        go_wp2_with fail
        refine (CN.out _).mono ?_
        rintro e w2 ⟨rfl, hbn⟩
        have bW := bW.st hbn; have BP := BP.below hbn BP.lt; have p0 := BP.cell 0 (v := .string nm) rfl; have p1 := BP.cell 1 (v := .string sy) rfl; have p2 := BP.cell 2 (v := .int .i64 dy) rfl; have p3 := BP.cell 3 (v := .int .i64 ct) rfl
        go_wp2_with fail
        refine (CS.out _).mono ?_
        rintro e w3 ⟨rfl, hbn⟩
        have bW := bW.st hbn; have BP := BP.below hbn BP.lt; have p0 := BP.cell 0 (v := .string nm) rfl; have p1 := BP.cell 1 (v := .string sy) rfl; have p2 := BP.cell 2 (v := .int .i64 dy) rfl; have p3 := BP.cell 3 (v := .int .i64 ct) rfl
        (by_cases d0 : dy = 0 ∨ dy = 1); (focus (by_cases a1 : ct < 0); (focus (have R : Hid (capT dy ct = 13) := Lib.hid (by unfold capT amB; rw [if_neg (by omega), if_pos (by simp; omega)])); clear CN; rcases d0 with rfl | rfl; all_goals (go_wp2_with fail; all_goals (first | (go_ret; exact ⟨ret_i R.out.symm, bW⟩) | (exfalso; omega)))); (focus (by_cases a2 : 1125899906842624 < ct); (focus (have R : Hid (capT dy ct = 13) := Lib.hid (by unfold capT amB; rw [if_neg (by omega), if_pos (by simp; omega)])); clear CN; rcases d0 with rfl | rfl; all_goals (go_wp2_with fail; all_goals (first | (go_ret; exact ⟨ret_i R.out.symm, bW⟩) | (exfalso; omega)))); (focus (have R : Hid (capT dy ct = 0) := Lib.hid (by unfold capT amB; rw [if_neg (by omega), if_neg (by simp; omega)])); clear CN; rcases d0 with rfl | rfl; all_goals (go_wp2_with fail; all_goals (first | (go_ret; exact ⟨ret_i R.out.symm, bW⟩) | (exfalso; omega)))))); (focus (have R : Hid (capT dy ct = 1) := Lib.hid (by unfold capT; rw [if_pos (by omega)])); (have k0 : (dy != 0) = true := by simp; omega); (have k1 : (dy != 1) = true := by simp; omega); clear CN; (go_wp2_with fail; all_goals (first | (go_ret; exact ⟨ret_i R.out.symm, bW⟩) | (exfalso; omega))))
    · obtain ⟨n1, n2, n3⟩ := toList_eE he
      rw [capE_T hn (.inl he)]
      clear he hn n1 CS
      go_enter Tryd.func63, Tryd.ntmps63
      go_wp2_with fail
      refine (CN.out _).mono ?_
      rintro e w2 ⟨rfl, hbn⟩
      have bW := bW.st hbn; have BP := BP.below hbn BP.lt; have p0 := BP.cell 0 (v := .string nm) rfl; have p1 := BP.cell 1 (v := .string sy) rfl; have p2 := BP.cell 2 (v := .int .i64 dy) rfl; have p3 := BP.cell 3 (v := .int .i64 ct) rfl
      (by_cases d0 : dy = 0 ∨ dy = 1); (focus (by_cases a1 : ct < 0); (focus (have R : Hid (capT dy ct = 13) := Lib.hid (by unfold capT amB; rw [if_neg (by omega), if_pos (by simp; omega)])); clear CN; rcases d0 with rfl | rfl; all_goals (go_wp2_with fail; all_goals (first | (go_ret; exact ⟨ret_i R.out.symm, bW⟩) | (exfalso; omega)))); (focus (by_cases a2 : 1125899906842624 < ct); (focus (have R : Hid (capT dy ct = 13) := Lib.hid (by unfold capT amB; rw [if_neg (by omega), if_pos (by simp; omega)])); clear CN; rcases d0 with rfl | rfl; all_goals (go_wp2_with fail; all_goals (first | (go_ret; exact ⟨ret_i R.out.symm, bW⟩) | (exfalso; omega)))); (focus (have R : Hid (capT dy ct = 0) := Lib.hid (by unfold capT amB; rw [if_neg (by omega), if_neg (by simp; omega)])); clear CN; rcases d0 with rfl | rfl; all_goals (go_wp2_with fail; all_goals (first | (go_ret; exact ⟨ret_i R.out.symm, bW⟩) | (exfalso; omega)))))); (focus (have R : Hid (capT dy ct = 1) := Lib.hid (by unfold capT; rw [if_pos (by omega)])); (have k0 : (dy != 0) = true := by simp; omega); (have k1 : (dy != 1) = true := by simp; omega); clear CN; (go_wp2_with fail; all_goals (first | (go_ret; exact ⟨ret_i R.out.symm, bW⟩) | (exfalso; omega))))

set_option maxRecDepth 100000 in
set_option maxHeartbeats 8000000 in
theorem rcheck25_any (nm sy : ByteArray) (dy ct : Int) (w : World) :
    Calls Tryd.prog 90 #[.agg #[.string nm, .string sy, .int .i64 dy, .int .i64 ct]] w fun e w' => e = .returned (.int .i64 (capE ⟨nm, sy, dy, ct⟩)) ∧ Below w.heap.size w w' := by
  have CN := Lib.hid (fun (X : World) => r1name_any nm X)
  have CS := Lib.hid (fun (X : World) => r1name_any sy X)
  have CA := Lib.hid (fun (X : World) => ram_any ct X)
  obtain ⟨Y, hY⟩ : ∃ Y, w.alloc (.cells #[.string nm, .string sy, .int .i64 dy, .int .i64 ct] 97) = Y := ⟨_, rfl⟩; have bW : Below w.heap.size w Y := (by rw [← hY]; exact (Below.refl _ w).al _); have BP : Blk Y w.heap.size #[.string nm, .string sy, .int .i64 dy, .int .i64 ct] 97 := (by rw [← hY]; exact Blk.new w _ _)
  have p0 := BP.cell 0 (v := .string nm) rfl; have p1 := BP.cell 1 (v := .string sy) rfl; have p2 := BP.cell 2 (v := .int .i64 dy) rfl; have p3 := BP.cell 3 (v := .int .i64 ct) rfl
  cases hn : nameB nm
  · rw [capE_6a hn]
    rw [hn] at CN
    clear CS hn
    go_enter Tryd.func90, Tryd.ntmps90
    go_wp2_with fail
    refine (CN.out _).mono ?_
    rintro e w2 ⟨rfl, rfl⟩
    go_wp2_with fail
    go_ret
    exact ⟨rfl, bW⟩
  · rw [hn] at CN
    cases he : emp sy
    · obtain ⟨n1, n2, n3⟩ := toList_neE he
      cases hs : nameB sy
      · rw [capE_6b he hs]
        rw [hs] at CS
        clear he hs hn n1
        go_enter Tryd.func90, Tryd.ntmps90
        go_wp2_with fail
        refine (CN.out _).mono ?_
        rintro e w2 ⟨rfl, rfl⟩
        go_wp2_with fail
        refine (CS.out _).mono ?_
        rintro e w3 ⟨rfl, rfl⟩
        go_wp2_with fail
        go_ret
        exact ⟨rfl, bW⟩
      · rw [capE_T hn (.inr hs)]
        rw [hs] at CS
        clear he hs hn n1
        go_enter Tryd.func90, Tryd.ntmps90
        go_wp2_with fail
        refine (CN.out _).mono ?_
        rintro e w2 ⟨rfl, rfl⟩
        go_wp2_with fail
        refine (CS.out _).mono ?_
        rintro e w3 ⟨rfl, rfl⟩
        (by_cases d0 : dy = 0 ∨ dy = 1); (focus (cases ha : amB ct); (focus (have R : Hid (capT dy ct = 13) := Lib.hid (by unfold capT; rw [if_neg (by omega), if_pos ha])); rw [ha] at CA; clear CN ha; rcases d0 with rfl | rfl; all_goals (go_wp2_with fail; all_goals (first | (go_ret; exact ⟨ret_i R.out.symm, bW⟩) | (refine (CA.out _).mono ?_; rintro e w7 ⟨rfl, rfl⟩; go_wp2_with fail; go_ret; exact ⟨ret_i R.out.symm, bW⟩)))); (focus (have R : Hid (capT dy ct = 0) := Lib.hid (by unfold capT; rw [if_neg (by omega), if_neg (by rw [ha]; simp)])); rw [ha] at CA; clear CN ha; rcases d0 with rfl | rfl; all_goals (go_wp2_with fail; all_goals (first | (go_ret; exact ⟨ret_i R.out.symm, bW⟩) | (refine (CA.out _).mono ?_; rintro e w7 ⟨rfl, rfl⟩; go_wp2_with fail; go_ret; exact ⟨ret_i R.out.symm, bW⟩))))); (focus (have R : Hid (capT dy ct = 1) := Lib.hid (by unfold capT; rw [if_pos (by omega)])); (have k0 : (dy != 0) = true := by simp; omega); (have k1 : (dy != 1) = true := by simp; omega); clear CN; go_wp2_with fail; all_goals (first | (go_ret; exact ⟨ret_i R.out.symm, bW⟩) | (refine (CA.out _).mono ?_; rintro e w7 ⟨rfl, rfl⟩; go_wp2_with fail; go_ret; exact ⟨ret_i R.out.symm, bW⟩)))
    · obtain ⟨n1, n2, n3⟩ := toList_eE he
      rw [capE_T hn (.inl he)]
      clear he hn n1 CS
      go_enter Tryd.func90, Tryd.ntmps90
      go_wp2_with fail
      refine (CN.out _).mono ?_
      rintro e w2 ⟨rfl, rfl⟩
      (by_cases d0 : dy = 0 ∨ dy = 1); (focus (cases ha : amB ct); (focus (have R : Hid (capT dy ct = 13) := Lib.hid (by unfold capT; rw [if_neg (by omega), if_pos ha])); rw [ha] at CA; clear CN ha; rcases d0 with rfl | rfl; all_goals (go_wp2_with fail; all_goals (first | (go_ret; exact ⟨ret_i R.out.symm, bW⟩) | (refine (CA.out _).mono ?_; rintro e w7 ⟨rfl, rfl⟩; go_wp2_with fail; go_ret; exact ⟨ret_i R.out.symm, bW⟩)))); (focus (have R : Hid (capT dy ct = 0) := Lib.hid (by unfold capT; rw [if_neg (by omega), if_neg (by rw [ha]; simp)])); rw [ha] at CA; clear CN ha; rcases d0 with rfl | rfl; all_goals (go_wp2_with fail; all_goals (first | (go_ret; exact ⟨ret_i R.out.symm, bW⟩) | (refine (CA.out _).mono ?_; rintro e w7 ⟨rfl, rfl⟩; go_wp2_with fail; go_ret; exact ⟨ret_i R.out.symm, bW⟩))))); (focus (have R : Hid (capT dy ct = 1) := Lib.hid (by unfold capT; rw [if_pos (by omega)])); (have k0 : (dy != 0) = true := by simp; omega); (have k1 : (dy != 1) = true := by simp; omega); clear CN; go_wp2_with fail; all_goals (first | (go_ret; exact ⟨ret_i R.out.symm, bW⟩) | (refine (CA.out _).mono ?_; rintro e w7 ⟨rfl, rfl⟩; go_wp2_with fail; go_ret; exact ⟨ret_i R.out.symm, bW⟩)))
end Go.Proofs.YtlnnbkpcnhlfcaaDoor
/- What the walks of both Applies share. -/
set_option linter.unusedSimpArgs false
namespace Go.Proofs.YtlnnbkpcnhlfcaaDoor
open Go.RowKit Go.Lib

theorem firstI_yes {l : List Int} {k : Nat} {x : Int} (h : ∀ y ∈ l.take k, y = 0) (hx : l[k]? = some x) (h0 : x ≠ 0) : firstI l = x := by
  induction l generalizing k with
  | nil => simp at hx
  | cons y l ih =>
    cases k with
    | zero => simp at hx; subst hx; unfold firstI; rw [if_pos h0]
    | succ k =>
      have hy : y = 0 := h y (by simp)
      unfold firstI
      rw [if_neg (by simp [hy])]
      exact ih (fun z hz => h z (by rw [List.take_succ_cons]; exact List.mem_cons_of_mem _ hz)) (by simpa using hx)
theorem firstI_app {a b : List Int} (h : firstI a = 0) : firstI (a ++ b) = firstI b := by
  induction a with
  | nil => rfl
  | cons x a ih =>
    unfold firstI at h
    split at h
    · rename_i q; exact absurd h q
    · rename_i q
      rw [List.cons_append, firstI, if_neg q]
      exact ih h
theorem zero_succ {α : Type} {f : α → Int} {l : List α} {k : Nat} {x : α} (hx : l[k]? = some x) (h : ∀ y ∈ (l.map f).take k, y = 0) (h0 : f x = 0) : ∀ y ∈ (l.map f).take (k + 1), y = 0 := by
  intro y hy
  rw [take_snoc (x := f x) (by rw [List.getElem?_map, hx]; rfl)] at hy
  rcases List.mem_append.1 hy with hy | hy
  · exact h y hy
  · rw [List.mem_singleton] at hy; rw [hy, h0]
theorem zero_all {l : List Int} (h : ∀ y ∈ l.take l.length, y = 0) : firstI l = 0 := by rw [List.take_length] at h; exact firstI_zero.2 h
theorem capE_ok {c : Cp} (h : capE c = 0) : 0 ≤ c.ct ∧ c.ct ≤ 1125899906842624 := by
  unfold capE at h
  split at h
  · exact absurd h (by decide)
  · split at h
    · exact absurd h (by decide)
    · split at h
      · exact absurd h (by decide)
      · rename_i q; unfold amB at q; simpa using q
theorem chE_ok {x : CV} (h : chE x = 0) : (0 ≤ x.ct ∧ x.ct ≤ 1125899906842624) ∧ btmB x.tm = true := by
  unfold chE at h
  split at h
  · exact absurd h (by decide)
  · split at h
    · exact absurd h (by decide)
    · rename_i q q2; unfold amB at q; exact ⟨by simpa using q, by simpa using q2⟩
/-- all but block mb lies as it lay -/
structure KeepM (mb : Nat) (W W' : World) : Prop where
  bel : Below mb W W'
  oth : ∀ b, b < W.heap.size → b ≠ mb → W'.heap[b]? = W.heap[b]?
theorem KeepM.refl (mb : Nat) (W : World) : KeepM mb W W := ⟨Below.refl _ _, fun _ _ _ => rfl⟩
theorem KeepM.st {mb : Nat} {W W' W2 : World} (h : KeepM mb W W') (hb : Below W'.heap.size W' W2) (hm : mb ≤ W'.heap.size) : KeepM mb W W2 :=
  ⟨h.bel.trans (hb.mono hm), fun b hb1 hne => (hb.block b (Nat.lt_of_lt_of_le hb1 h.bel.size)).trans (h.oth b hb1 hne)⟩
theorem KeepM.add {mb : Nat} {W W' W2 : World} (h : KeepM mb W W') (hb : Below mb W' W2) (ho : ∀ b, b < W'.heap.size → b ≠ mb → W2.heap[b]? = W'.heap[b]?) : KeepM mb W W2 :=
  ⟨h.bel.trans hb, fun b hb1 hne => (ho b (Nat.lt_of_lt_of_le hb1 h.bel.size) hne).trans (h.oth b hb1 hne)⟩
theorem KeepM.blk {mb : Nat} {W W' : World} (h : KeepM mb W W') {b : Nat} {cs : Array Value} {t : TypeId} (B : Blk W b cs t) (hne : b ≠ mb) : Blk W' b cs t := (h.oth b B.lt hne).trans B
/-- what Apply hands back -/
def PaidR (caps : List Cp) (cs : List CV) (w w' : World) (e : Ending) : Prop :=
  ∃ A c r, e = .returned (.tuple #[.slice A r.length c, .int .i64 (applyE caps cs)]) ∧ (applyE caps cs = 0 → r = paidL caps cs) ∧ (applyE caps cs ≠ 0 → r = []) ∧ Own 3 encI 1 w' w.heap.size A c r ∧ Below w.heap.size w w'

theorem applyE_ok {caps : List Cp} {cs : List CV} (h : applyE caps cs = 0) : caps.length ≤ 12 ∧ cs.length ≤ 1024 ∧ (∀ c ∈ caps, capE c = 0) ∧ ∀ x ∈ cs, chE x = 0 := by
  unfold applyE at h
  split at h
  · exact absurd h (by decide)
  · rename_i q
    split at h
    · rename_i q2; exact absurd h q2
    · rename_i q2
      have q3 : firstI (caps.map capE) = 0 := by omega
      exact ⟨by omega, by omega, fun c hc => firstI_zero.1 q3 _ (List.mem_map.2 ⟨c, hc, rfl⟩), fun x hx => firstI_zero.1 h _ (List.mem_map.2 ⟨x, hx, rfl⟩)⟩
theorem runF_pay {caps : List Cp} {cs : List CV} {M : Int} (hc : ∀ c ∈ caps, 0 ≤ c.ct) (hx : ∀ x ∈ cs, 0 ≤ x.ct ∧ x.ct ≤ M) (l : List Nat) (hl : ∀ i ∈ l, i < cs.length) : ∀ y ∈ (runF caps cs l).1, 0 ≤ y.2 ∧ y.2 ≤ M := by
  unfold runF
  suffices h : ∀ (l : List Nat) (a : Hs × List Int), (∀ i ∈ l, i < cs.length) → HInv caps a.1 → (∀ y ∈ a.1, 0 ≤ y.2 ∧ y.2 ≤ M) → ∀ y ∈ (l.foldl (stp caps cs) a).1, 0 ≤ y.2 ∧ y.2 ≤ M by exact h l _ hl (HInv.nil hc) (by simp)
  clear hl l
  intro l
  induction l with
  | nil => intro a _ _ h; exact h
  | cons i l ih =>
    intro a hl h hy
    rw [List.foldl_cons]
    have hi : i < cs.length := hl i (by simp)
    have hxi : chAt cs i ∈ cs := by rw [chAt_of (List.getElem?_eq_getElem hi)]; exact List.getElem_mem hi
    have hb := hx _ hxi
    have hp := payN_bounds (x := chAt cs i) h hb.1
    refine ih _ (fun j hj => hl j (List.mem_cons_of_mem _ hj)) (h.snoc hb.1) (fun y hyy => ?_)
    unfold stp at hyy
    rcases List.mem_append.1 hyy with q | q
    · exact hy y q
    · rw [List.mem_singleton] at q; subst q; exact ⟨hp.1, by simp only; omega⟩
end Go.Proofs.YtlnnbkpcnhlfcaaDoor
