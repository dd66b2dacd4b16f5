/- The law TopCaps, walked. -/
import Derived.Test.YtelchfijalkibaaGreatDoorTopFar
import Derived.Test.YtelchfijalkibaaGreatDoorTopAwk
import Derived.Test.YtelchfijalkibaaGreatDoorJCapRMath
import Derived.Test.YtelchfijalkibaaGreatDoorTarTrip
import Derived.Test.YtelchfijalkibaaGreatDoorJTrip
import Derived.Deep.DeepCutAuto
set_option linter.unusedSimpArgs false
set_option linter.unusedSimpArgs false
namespace Go.Proofs.YtelchfijalkibaaGreatDoor
open Go.RowKit Go.Lib

theorem capE_ct {c : Cp} (h : capE c = 0) : 0 ≤ c.ct ∧ c.ct ≤ 1125899906842624 := by
  unfold capE at h
  split at h
  · cases h
  · split at h
    · cases h
    · split at h
      · cases h
      · rename_i q
        have q2 : cmB c.ct = true := by cases e : cmB c.ct; exact absurd e q; rfl
        exact of_decide_eq_true q2
theorem reachB_succ {caps : List Cp} {cs : List CV} {i j : Nat} {c : Cp} (h : caps[j]? = some c) : reachB caps cs i (j + 1) = (reachB caps cs i j || (matB c (chAt cs i) && decide (sumC caps cs c (perN c.days (chAt cs i).tm) cs.length = c.ct))) := by
  unfold reachB
  rw [take_snoc h, List.any_append, Bool.or_assoc]
  simp
theorem paid_at {caps : List Cp} {cs : List CV} {i : Nat} (h : i < cs.length) : (paidL caps cs)[i]? = some (pdAt caps cs i) := by
  have hl : (paidL caps cs).length = cs.length := runF_len caps cs _
  unfold pdAt
  rw [List.getElem?_eq_getElem (by omega)]
  rfl
theorem sumC_bnd {caps : List Cp} {cs : List CV} (hc : ∀ c ∈ caps, 0 ≤ c.ct) (hx : ∀ x ∈ cs, 0 ≤ x.ct ∧ x.ct ≤ 1125899906842624) (c : Cp) (p : Int) : ∀ k, k ≤ cs.length → 0 ≤ sumC caps cs c p k ∧ sumC caps cs c p k ≤ 1125899906842624 * k
  | 0, _ => by rw [sumC_zero]; omega
  | k + 1, h => by
    have h1 := sumC_bnd hc hx c p k (by omega)
    have h2 := pdAt_bnd hc (fun x hx1 => (hx x hx1).1) (show k < cs.length by omega)
    have h3 := (hx _ (chAt_mem (show k < cs.length by omega))).2
    rw [sumC_succ]
    split <;> omega
/-- a charge in a box of its own -/
def ChC (W : World) (s9 s10 : Value) (wx : World) : Prop := ∃ (g : Nat) (v : CV) (vA : Option Addr) (vc : Nat) (er : Int), s9 = .pointer (some ⟨g, 0, none⟩) ∧ s10 = .int .i64 er ∧ Blk wx g #[.string v.key, .string v.veh, .string v.sys, .int .i64 v.cls, .int .i64 v.tm, .slice vA v.lns.length vc, .int .i64 v.ct] 57 ∧ Below W.heap.size W wx
theorem far_ta {w : World} {ts : List Ta} (h : ts.length ≤ 3 ∧ ∀ y ∈ ts, y.rs.length ≤ 60 ∧ y.bs.length ≤ 6) (hk : ∀ x ∈ ts, TaOk w x) : (∀ y ∈ ts, TaOk w y ∧ TaSm y) ∧ ts.length ≤ 1000000 :=
  ⟨fun y hy => ⟨hk y hy, by have := h.2 y hy; unfold TaSm; omega⟩, by have := h.1; omega⟩
set_option maxRecDepth 100000 in
set_option maxHeartbeats 32000000 in
theorem topCaps_walk {pA lA sA tA uA dA qA kA cA xA : Option Addr} (pc lc sc tc uc dc qc kc cc xc : Nat) (pe : Int) (o3 o4 o5 o6 o7 o15 o16 o17 o18 o19 o20 o21 o22 o23 o24 : Value) (lv : Int) {pts : List Pt} {lks : List Lk} {sys : List Sy} {ts : List Ta} {us ds qs : List Int} {dcs : List Dc} {caps : List Cp} {xs : List Trp} {w : World}
    (h : CfTop w pA lA sA tA uA dA qA kA cA pts lks sys ts us ds qs dcs caps sc) (hx : Rd encTr 5 w w.heap.size xA xs) (hxo : ∀ x ∈ xs, TrOk w x ∧ x.id.size ≤ 1000000000000000000) (hl0 : 0 ≤ lv) (hl1 : lv ≤ 255) (hm : Mon w) :
    Calls Tryz.prog 3 #[.agg #[.slice pA pts.length pc, .slice lA lks.length lc, .slice sA sys.length sc, o3, o4, o5, o6, o7, .slice tA ts.length tc, .int .i64 pe, .slice uA us.length uc, .slice dA ds.length dc, .slice qA qs.length qc, .slice kA dcs.length kc, .slice cA caps.length cc, o15, o16, o17, o18, o19, o20, o21, o22, o23, o24], .slice xA xs.length xc, .int .u8 lv] w fun e w' => e = .returned (.bool true) ∧ Below w.heap.size w w' := by
  obtain ⟨Y, hY⟩ : ∃ Y, w.alloc (.cells #[.slice pA pts.length pc, .slice lA lks.length lc, .slice sA sys.length sc, o3, o4, o5, o6, o7, .slice tA ts.length tc, .int .i64 pe, .slice uA us.length uc, .slice dA ds.length dc, .slice qA qs.length qc, .slice kA dcs.length kc, .slice cA caps.length cc, o15, o16, o17, o18, o19, o20, o21, o22, o23, o24] 46) = Y := ⟨_, rfl⟩
  have bW : Below w.heap.size w Y := by rw [← hY]; exact (Below.refl _ w).al _
  have BP : Blk Y w.heap.size #[.slice pA pts.length pc, .slice lA lks.length lc, .slice sA sys.length sc, o3, o4, o5, o6, o7, .slice tA ts.length tc, .int .i64 pe, .slice uA us.length uc, .slice dA ds.length dc, .slice qA qs.length qc, .slice kA dcs.length kc, .slice cA caps.length cc, o15, o16, o17, o18, o19, o20, o21, o22, o23, o24] 46 := by rw [← hY]; exact Blk.new w _ _
  have CR := Lib.hid (fares_any pc lc sc tc uc dc qc kc cc pe o3 o4 o5 o6 o7 o15 o16 o17 o18 o19 o20 o21 o22 o23 o24 (h.st bW))
  have CJ := Lib.hid (fun (x : Trp) (hx1 : x ∈ xs) (hx3 : x.ss.length ≤ 1000000) (X : World) (hX : Below w.heap.size w X) => tripchk_any pc lc sc x.sc x.id x.vh x.sy x.cl (h.st hX).top h.sc ((hxo x hx1).1.1.st hX) hx3)
  have CT := Lib.hid (fun (x : Trp) (hx1 : x ∈ xs) (hx3 : x.ss.length ≤ 1000000) (hx4 : 0 < x.ss.length) (er : Int) (hr : FareA pe us ds qs ts dcs caps) (X : World) (hX : Below w.heap.size w X) => ptrip_any tc uc dc qc kc x.sc pe (.slice pA pts.length pc) (.slice lA lks.length lc) (.slice sA sys.length sc) o3 o4 o5 o6 o7 (.slice cA caps.length cc) o15 o16 o17 o18 o19 o20 o21 o22 o23 o24 x.id x.vh x.sy x.cl lv er (h.st hX).t (far_ta hr.t (h.st hX).ta).1 (far_ta hr.t (h.st hX).ta).2 hr.c hr.s (h.st hX).u (h.st hX).d (h.st hX).q (h.st hX).k hr.k ((hxo x hx1).1.1.st hX) hx3 hx4 (hxo x hx1).2)
  have HC := Lib.hid (fun (X : World) (hX : Below w.heap.size w X) => (h.st hX).c)
  have HX := Lib.hid hx
  have HM := Lib.hid hm
  have hcl := h.cl
  have wl : IntKind.i64.wrap lv = lv := IntWalk.i64_in _ (by omega)
  clear h hx hm hxo
  go_enter Tryz.func3, Tryz.ntmps3
  go_wp2_with (first | (refine wpList_boxLoad rfl (ty := 46) (x := .tmp 3) (cs := #[.slice pA pts.length pc, .slice lA lks.length lc, .slice sA sys.length sc, o3, o4, o5, o6, o7, .slice tA ts.length tc, .int .i64 pe, .slice uA us.length uc, .slice dA ds.length dc, .slice qA qs.length qc, .slice kA dcs.length kc, .slice cA caps.length cc, o15, o16, o17, o18, o19, o20, o21, o22, o23, o24]) rfl (BP) rfl ⟨_, Tryz.underlying46, by kernel_rfl⟩ ?_))
  refine CR.out.mono ?_
  rintro e W2 ⟨⟨b, rfl, hr⟩, hbn⟩
  have bW := bW.st hbn
  have BP := BP.below hbn BP.lt
  clear hbn CR hY
  cases b with
  | false =>
    clear hr
    go_wp2_with fail; refine (awake16_any (HM.out.st (bW) HM.out.1)).mono ?_; rintro e wl ⟨rfl, hbl⟩; have bL := Below.st (bW) hbl; go_wp2_with fail; go_ret; exact ⟨rfl, bL⟩
  | true =>
    have HR := Lib.hid (hr rfl)
    clear hr
    by_cases q1 : 8 < xs.length
    · have q1z : (8 : Int) < (xs.length : Int) := by omega
      have q1d : decide ((8 : Int) < (xs.length : Int)) = true := decide_eq_true q1z
      go_wp2_with fail; refine (awake16_any (HM.out.st (bW) HM.out.1)).mono ?_; rintro e wl ⟨rfl, hbl⟩; have bL := Below.st (bW) hbl; go_wp2_with fail; go_ret; exact ⟨rfl, bL⟩
    have q1z : ¬ (8 : Int) < (xs.length : Int) := by omega
    have q1d : decide ((8 : Int) < (xs.length : Int)) = false := decide_eq_false q1z
    by_cases q2 : 8 < lv
    · go_wp2_with fail; refine (awake16_any (HM.out.st (bW) HM.out.1)).mono ?_; rintro e wl ⟨rfl, hbl⟩; have bL := Below.st (bW) hbl; go_wp2_with fail; go_ret; exact ⟨rfl, bL⟩
    have q2d : decide (8 < lv) = false := decide_eq_false q2
    obtain ⟨W3, hW3⟩ : ∃ X, W2.alloc (.cells #[] 57) = X := ⟨_, rfl⟩
    have b3 : Below W2.heap.size W2 W3 := by rw [← hW3]; exact (Below.refl _ _).al _
    have HO3 : Hid (Own 57 encCg 7 W3 W2.heap.size (some ⟨W2.heap.size, 0, none⟩) 0 ([] : List Cg)) := Lib.hid (by rw [← hW3]; exact Own.lit W2 _ [] encCg_ok rfl rfl (Nat.le_refl _) (by simp))
    have HBW := Lib.hid (bW.st b3)
    have HBP := Lib.hid (BP.below b3 BP.lt)
    have HW2 : Hid (w.heap.size < W2.heap.size ∧ w.heap.size ≤ W2.heap.size) := Lib.hid ⟨BP.lt, bW.size⟩
    clear bW BP b3
    go_wp2_with fail
    go_loopw [8, 7] (fun sk sl wr => ∃ (k : Nat) (gA : Option Addr) (gc : Nat) (l : List Cg), k ≤ xs.length ∧ sk = .int .i64 k ∧ sl = .slice gA l.length gc ∧ Own 57 encCg 7 wr W2.heap.size gA gc l ∧ l.length ≤ k ∧ Below W2.heap.size W3 wr) (fun sk _ _ => xs.length - (RowKit.intOf sk).toNat)
    case atStart => exact ⟨0, _, 0, [], Nat.zero_le _, rfl, rfl, HO3.out, Nat.le_refl _, Below.refl _ _⟩
    case round =>
      obtain ⟨k, gA, gc, l, hk, rfl, rfl, hown, hlk, hbn⟩ := hrel
      have k1 : (0 : Int) ≤ (k : Int) := by omega
      have HOW := Lib.hid hown
      have HBN := Lib.hid hbn
      have bW := HBW.out.trans (hbn.mono HW2.out.2)
      have BP := HBP.out.below hbn HW2.out.1
      have HLK := Lib.hid hlk
      clear hown hbn
      by_cases hi : k < xs.length
      · have k2 : (k : Int) < (xs.length : Int) := by omega
        have kn : decide (k < xs.length) = true := decide_eq_true hi
        have HI := Lib.hid hi
        obtain ⟨xb, xo, x, hxA, hxb, hxx, d0, d1, d2, d3, d4⟩ := (HX.out.keep bW).tp hi
        subst hxA
        have hxm := List.mem_of_getElem? hxx
        have KS7 : Hid (∀ X, Below wr.heap.size wr X → (fun w' : World => w'.cell? ⟨w.heap.size, 0, none⟩ = some (.slice pA pts.length pc) ∧ w'.cell? ⟨w.heap.size, 1, none⟩ = some (.slice lA lks.length lc) ∧ w'.cell? ⟨w.heap.size, 2, none⟩ = some (.slice sA sys.length sc) ∧ w'.cell? ⟨xb, xo + k * 5, none⟩ = some (.string x.id) ∧ w'.cell? ⟨xb, xo + k * 5 + 1, none⟩ = some (.string x.vh) ∧ w'.cell? ⟨xb, xo + k * 5 + 2, none⟩ = some (.string x.sy) ∧ w'.cell? ⟨xb, xo + k * 5 + 3, none⟩ = some (.int .i64 x.cl) ∧ w'.cell? ⟨xb, xo + k * 5 + 4, none⟩ = some (.slice x.sA x.ss.length x.sc)) X) := Lib.hid (fun X hX => by
          have tr : ∀ j (v : Value), wr.cell? ⟨xb, j, none⟩ = some v → X.cell? ⟨xb, j, none⟩ = some v := fun j v hv => (hX.cell (p := ⟨xb, j, none⟩) (Nat.lt_of_lt_of_le hxb bW.size)).trans hv
          exact ⟨(BP.below hX BP.lt).cell 0 rfl, (BP.below hX BP.lt).cell 1 rfl, (BP.below hX BP.lt).cell 2 rfl, tr _ _ d0, tr _ _ d1, tr _ _ d2, tr _ _ d3, tr _ _ d4⟩)
        have KS9 : Hid (∀ X, Below wr.heap.size wr X → (fun w' : World => Blk w' w.heap.size #[.slice pA pts.length pc, .slice lA lks.length lc, .slice sA sys.length sc, o3, o4, o5, o6, o7, .slice tA ts.length tc, .int .i64 pe, .slice uA us.length uc, .slice dA ds.length dc, .slice qA qs.length qc, .slice kA dcs.length kc, .slice cA caps.length cc, o15, o16, o17, o18, o19, o20, o21, o22, o23, o24] 46 ∧ w'.cell? ⟨xb, xo + k * 5, none⟩ = some (.string x.id) ∧ w'.cell? ⟨xb, xo + k * 5 + 1, none⟩ = some (.string x.vh) ∧ w'.cell? ⟨xb, xo + k * 5 + 2, none⟩ = some (.string x.sy) ∧ w'.cell? ⟨xb, xo + k * 5 + 3, none⟩ = some (.int .i64 x.cl) ∧ w'.cell? ⟨xb, xo + k * 5 + 4, none⟩ = some (.slice x.sA x.ss.length x.sc)) X) := Lib.hid (fun X hX => by
          have tr : ∀ j (v : Value), wr.cell? ⟨xb, j, none⟩ = some v → X.cell? ⟨xb, j, none⟩ = some v := fun j v hv => (hX.cell (p := ⟨xb, j, none⟩) (Nat.lt_of_lt_of_le hxb bW.size)).trans hv
          exact ⟨BP.below hX BP.lt, tr _ _ d0, tr _ _ d1, tr _ _ d2, tr _ _ d3, tr _ _ d4⟩)
        have CJX := Lib.hid (fun (q : x.ss.length ≤ 1000000) => CJ.out x hxm q)
        have CTX := Lib.hid (fun (q : x.ss.length ≤ 1000000) (q2 : 0 < x.ss.length) => CT.out x hxm q q2 (k : Int) HR.out)
        have HBW1 := Lib.hid bW
        clear d0 d1 d2 d3 d4 hxb hxx hxm BP bW hi hk hlk
        go_upto_region 7 with fail
        by_cases h30 : 30 < x.ss.length
        · have h30d : decide ((30 : Int) < (x.ss.length : Int)) = true := decide_eq_true (by omega)
          have h30z : (30 : Int) < (x.ss.length : Int) := by omega
          refine wp_region_held_drew (S := (fun w' : World => w'.cell? ⟨w.heap.size, 0, none⟩ = some (.slice pA pts.length pc) ∧ w'.cell? ⟨w.heap.size, 1, none⟩ = some (.slice lA lks.length lc) ∧ w'.cell? ⟨w.heap.size, 2, none⟩ = some (.slice sA sys.length sc) ∧ w'.cell? ⟨xb, xo + k * 5, none⟩ = some (.string x.id) ∧ w'.cell? ⟨xb, xo + k * 5 + 1, none⟩ = some (.string x.vh) ∧ w'.cell? ⟨xb, xo + k * 5 + 2, none⟩ = some (.string x.sy) ∧ w'.cell? ⟨xb, xo + k * 5 + 3, none⟩ = some (.int .i64 x.cl) ∧ w'.cell? ⟨xb, xo + k * 5 + 4, none⟩ = some (.slice x.sA x.ss.length x.sc))) (by kernel_rfl) ?_ (fun hHeld => ?_)
          focus exact KS7.out _ (Below.refl _ _).drew
          have hSS := KS7.out _ (Below.refl wr.heap.size wr).drew
          have bX := below_drewN HBW1.out 1
          change Below _ _ wr.drew at bX
          obtain ⟨V0, hV0⟩ : ∃ V, World.drew wr = V := ⟨_, rfl⟩
          rw [hV0] at hHeld hSS bX ⊢
          clear hV0
          change wpAnyH _ _ _ _ _ 17 _ _ _
          refine wpAnyH_take (i := 0) (v := ?_) (by simp only [List.getElem?_toArray, List.getElem?_cons_zero, List.getElem?_cons_succ]; rfl) (by kernel_rfl) (by kernel_rfl) (by kernel_rfl) (by intro _ _ _ h; exact h) (Or.inl ⟨by rfl, ?_⟩) (by assumption) ?_; rotate_left; (focus (intro w1 hSw; (try dsimp only at hSw); go_simp; (try with_reducible rfl))); (try simp only [Act.put, List.setIfInBounds_toArray, List.set_cons_zero, List.set_cons_succ, List.getElem_toArray, List.getElem_cons_zero, List.getElem_cons_succ])
          refine wpAnyH_take (i := 1) (v := ?_) (by simp only [List.getElem?_toArray, List.getElem?_cons_zero, List.getElem?_cons_succ]; rfl) (by kernel_rfl) (by kernel_rfl) (by kernel_rfl) (by intro _ _ _ h; exact h) (Or.inl ⟨by rfl, ?_⟩) (by assumption) ?_; rotate_left; (focus (intro w1 hSw; (try dsimp only at hSw); go_simp; (try with_reducible rfl))); (try simp only [Act.put, List.setIfInBounds_toArray, List.set_cons_zero, List.set_cons_succ, List.getElem_toArray, List.getElem_cons_zero, List.getElem_cons_succ])
          refine wpAnyH_take (i := 2) (v := ?_) (by simp only [List.getElem?_toArray, List.getElem?_cons_zero, List.getElem?_cons_succ]; rfl) (by kernel_rfl) (by kernel_rfl) (by kernel_rfl) (by intro _ _ _ h; exact h) (Or.inl ⟨by rfl, ?_⟩) (by assumption) ?_; rotate_left; (focus (intro w1 hSw; (try dsimp only at hSw); go_simp; (try with_reducible rfl))); (try simp only [Act.put, List.setIfInBounds_toArray, List.set_cons_zero, List.set_cons_succ, List.getElem_toArray, List.getElem_cons_zero, List.getElem_cons_succ])
          refine wpAnyH_take (i := 3) (v := ?_) (by simp only [List.getElem?_toArray, List.getElem?_cons_zero, List.getElem?_cons_succ]; rfl) (by kernel_rfl) (by kernel_rfl) (by kernel_rfl) (by intro _ _ _ h; exact h) (Or.inl ⟨by rfl, ?_⟩) (by assumption) ?_; rotate_left; (focus (intro w1 hSw; (try dsimp only at hSw); go_simp; (try with_reducible rfl))); (try simp only [Act.put, List.setIfInBounds_toArray, List.set_cons_zero, List.set_cons_succ, List.getElem_toArray, List.getElem_cons_zero, List.getElem_cons_succ])
          refine wpAnyH_take (i := 4) (v := ?_) (by simp only [List.getElem?_toArray, List.getElem?_cons_zero, List.getElem?_cons_succ]; rfl) (by kernel_rfl) (by kernel_rfl) (by kernel_rfl) (by intro _ _ _ h; exact h) (Or.inl ⟨by rfl, ?_⟩) (by assumption) ?_; rotate_left; (focus (intro w1 hSw; (try dsimp only at hSw); go_simp; (try with_reducible rfl))); (try simp only [Act.put, List.setIfInBounds_toArray, List.set_cons_zero, List.set_cons_succ, List.getElem_toArray, List.getElem_cons_zero, List.getElem_cons_succ])
          refine wpAnyH_take (i := 5) (v := ?_) (by simp only [List.getElem?_toArray, List.getElem?_cons_zero, List.getElem?_cons_succ]; rfl) (by kernel_rfl) (by kernel_rfl) (by kernel_rfl) (by intro _ _ _ h; exact h) (Or.inl ⟨by rfl, ?_⟩) (by assumption) ?_; rotate_left; (focus (intro w1 hSw; (try dsimp only at hSw); go_simp; (try with_reducible rfl))); (try simp only [Act.put, List.setIfInBounds_toArray, List.set_cons_zero, List.set_cons_succ, List.getElem_toArray, List.getElem_cons_zero, List.getElem_cons_succ])
          refine wpAnyH_take (i := 6) (v := ?_) (by simp only [List.getElem?_toArray, List.getElem?_cons_zero, List.getElem?_cons_succ]; rfl) (by kernel_rfl) (by kernel_rfl) (by kernel_rfl) (by intro _ _ _ h; exact h) (Or.inl ⟨by rfl, ?_⟩) (by assumption) ?_; rotate_left; (focus (intro w1 hSw; (try dsimp only at hSw); go_simp; (try with_reducible rfl))); (try simp only [Act.put, List.setIfInBounds_toArray, List.set_cons_zero, List.set_cons_succ, List.getElem_toArray, List.getElem_cons_zero, List.getElem_cons_succ])
          refine wpAnyH_take (i := 7) (v := ?_) (by simp only [List.getElem?_toArray, List.getElem?_cons_zero, List.getElem?_cons_succ]; rfl) (by kernel_rfl) (by kernel_rfl) (by kernel_rfl) (by intro _ _ _ h; exact h) (Or.inl ⟨by rfl, ?_⟩) (by assumption) ?_; rotate_left; (focus (intro w1 hSw; (try dsimp only at hSw); go_simp; (try with_reducible rfl))); (try simp only [Act.put, List.setIfInBounds_toArray, List.set_cons_zero, List.set_cons_succ, List.getElem_toArray, List.getElem_cons_zero, List.getElem_cons_succ])
          refine wpAnyH_take (i := 8) (v := undef) (by simp only [List.getElem?_toArray, List.getElem?_cons_zero, List.getElem?_cons_succ]; rfl) (by kernel_rfl) (by kernel_rfl) (by kernel_rfl) (by intro _ _ _ h; exact h) (Or.inr ⟨by rfl, rfl⟩) (by assumption) ?_; (try simp only [Act.put, List.setIfInBounds_toArray, List.set_cons_zero, List.set_cons_succ, List.getElem_toArray, List.getElem_cons_zero, List.getElem_cons_succ])
          refine wpAnyH_take (i := 9) (v := undef) (by simp only [List.getElem?_toArray, List.getElem?_cons_zero, List.getElem?_cons_succ]; rfl) (by kernel_rfl) (by kernel_rfl) (by kernel_rfl) (by intro _ _ _ h; exact h) (Or.inr ⟨by rfl, rfl⟩) (by assumption) ?_; (try simp only [Act.put, List.setIfInBounds_toArray, List.set_cons_zero, List.set_cons_succ, List.getElem_toArray, List.getElem_cons_zero, List.getElem_cons_succ])
          refine wpAnyH_take (i := 10) (v := undef) (by simp only [List.getElem?_toArray, List.getElem?_cons_zero, List.getElem?_cons_succ]; rfl) (by kernel_rfl) (by kernel_rfl) (by kernel_rfl) (by intro _ _ _ h; exact h) (Or.inr ⟨by rfl, rfl⟩) (by assumption) ?_; (try simp only [Act.put, List.setIfInBounds_toArray, List.set_cons_zero, List.set_cons_succ, List.getElem_toArray, List.getElem_cons_zero, List.getElem_cons_succ])
          refine wpAnyH_take (i := 11) (v := undef) (by simp only [List.getElem?_toArray, List.getElem?_cons_zero, List.getElem?_cons_succ]; rfl) (by kernel_rfl) (by kernel_rfl) (by kernel_rfl) (by intro _ _ _ h; exact h) (Or.inr ⟨by rfl, rfl⟩) (by assumption) ?_; (try simp only [Act.put, List.setIfInBounds_toArray, List.set_cons_zero, List.set_cons_succ, List.getElem_toArray, List.getElem_cons_zero, List.getElem_cons_succ])
          refine wpAnyH_take (i := 12) (v := undef) (by simp only [List.getElem?_toArray, List.getElem?_cons_zero, List.getElem?_cons_succ]; rfl) (by kernel_rfl) (by kernel_rfl) (by kernel_rfl) (by intro _ _ _ h; exact h) (Or.inr ⟨by rfl, rfl⟩) (by assumption) ?_; (try simp only [Act.put, List.setIfInBounds_toArray, List.set_cons_zero, List.set_cons_succ, List.getElem_toArray, List.getElem_cons_zero, List.getElem_cons_succ])
          refine wpAnyH_take (i := 13) (v := undef) (by simp only [List.getElem?_toArray, List.getElem?_cons_zero, List.getElem?_cons_succ]; rfl) (by kernel_rfl) (by kernel_rfl) (by kernel_rfl) (by intro _ _ _ h; exact h) (Or.inr ⟨by rfl, rfl⟩) (by assumption) ?_; (try simp only [Act.put, List.setIfInBounds_toArray, List.set_cons_zero, List.set_cons_succ, List.getElem_toArray, List.getElem_cons_zero, List.getElem_cons_succ])
          refine wpAnyH_take (i := 14) (v := undef) (by simp only [List.getElem?_toArray, List.getElem?_cons_zero, List.getElem?_cons_succ]; rfl) (by kernel_rfl) (by kernel_rfl) (by kernel_rfl) (by intro _ _ _ h; exact h) (Or.inr ⟨by rfl, rfl⟩) (by assumption) ?_; (try simp only [Act.put, List.setIfInBounds_toArray, List.set_cons_zero, List.set_cons_succ, List.getElem_toArray, List.getElem_cons_zero, List.getElem_cons_succ])
          refine wpAnyH_take (i := 15) (v := undef) (by simp only [List.getElem?_toArray, List.getElem?_cons_zero, List.getElem?_cons_succ]; rfl) (by kernel_rfl) (by kernel_rfl) (by kernel_rfl) (by intro _ _ _ h; exact h) (Or.inr ⟨by rfl, rfl⟩) (by assumption) ?_; (try simp only [Act.put, List.setIfInBounds_toArray, List.set_cons_zero, List.set_cons_succ, List.getElem_toArray, List.getElem_cons_zero, List.getElem_cons_succ])
          refine wpAnyH_take (i := 16) (v := ?_) (by simp only [List.getElem?_toArray, List.getElem?_cons_zero, List.getElem?_cons_succ]; rfl) (by kernel_rfl) (by kernel_rfl) (by kernel_rfl) (by intro _ _ _ h; exact h) (Or.inl ⟨by rfl, ?_⟩) (by assumption) ?_; rotate_left; (focus (intro w1 hSw; (try dsimp only at hSw); go_simp; (try with_reducible rfl))); (try simp only [Act.put, List.setIfInBounds_toArray, List.set_cons_zero, List.set_cons_succ, List.getElem_toArray, List.getElem_cons_zero, List.getElem_cons_succ])
          refine wpAnyH_done (by kernel_rfl) ?_ _
          clear hHeld hSS
          go_wp2_with fail; refine (awake16_any (HM.out.st (bX) HM.out.1)).mono ?_; rintro e wl ⟨rfl, hbl⟩; have bL := Below.st (bX) hbl; go_wp2_with fail; go_ret; exact ⟨rfl, bL⟩
        · have h30d : decide ((30 : Int) < (x.ss.length : Int)) = false := decide_eq_false (by omega)
          have h30z : ¬ (30 : Int) < (x.ss.length : Int) := by omega
          refine wp_region_held_drew (S := (fun w' : World => w'.cell? ⟨w.heap.size, 0, none⟩ = some (.slice pA pts.length pc) ∧ w'.cell? ⟨w.heap.size, 1, none⟩ = some (.slice lA lks.length lc) ∧ w'.cell? ⟨w.heap.size, 2, none⟩ = some (.slice sA sys.length sc) ∧ w'.cell? ⟨xb, xo + k * 5, none⟩ = some (.string x.id) ∧ w'.cell? ⟨xb, xo + k * 5 + 1, none⟩ = some (.string x.vh) ∧ w'.cell? ⟨xb, xo + k * 5 + 2, none⟩ = some (.string x.sy) ∧ w'.cell? ⟨xb, xo + k * 5 + 3, none⟩ = some (.int .i64 x.cl) ∧ w'.cell? ⟨xb, xo + k * 5 + 4, none⟩ = some (.slice x.sA x.ss.length x.sc))) (by kernel_rfl) ?_ (fun hHeld => ?_)
          focus exact KS7.out _ (Below.refl _ _).drew
          have hSS := KS7.out _ (Below.refl wr.heap.size wr).drew
          have bR := (Below.refl wr.heap.size wr).drew
          obtain ⟨V0, hV0⟩ : ∃ V, World.drew wr = V := ⟨_, rfl⟩
          rw [hV0] at hHeld hSS bR ⊢
          clear hV0
          change wpAnyH _ _ _ _ _ 17 _ _ _
          refine wpAnyH_take (i := 0) (v := ?_) (by simp only [List.getElem?_toArray, List.getElem?_cons_zero, List.getElem?_cons_succ]; rfl) (by kernel_rfl) (by kernel_rfl) (by kernel_rfl) (by intro _ _ _ h; exact h) (Or.inl ⟨by rfl, ?_⟩) (by assumption) ?_; rotate_left; (focus (intro w1 hSw; (try dsimp only at hSw); go_simp; (try with_reducible rfl))); (try simp only [Act.put, List.setIfInBounds_toArray, List.set_cons_zero, List.set_cons_succ, List.getElem_toArray, List.getElem_cons_zero, List.getElem_cons_succ])
          refine wpAnyH_take (i := 1) (v := ?_) (by simp only [List.getElem?_toArray, List.getElem?_cons_zero, List.getElem?_cons_succ]; rfl) (by kernel_rfl) (by kernel_rfl) (by kernel_rfl) (by intro _ _ _ h; exact h) (Or.inl ⟨by rfl, ?_⟩) (by assumption) ?_; rotate_left; (focus (intro w1 hSw; (try dsimp only at hSw); go_simp; (try with_reducible rfl))); (try simp only [Act.put, List.setIfInBounds_toArray, List.set_cons_zero, List.set_cons_succ, List.getElem_toArray, List.getElem_cons_zero, List.getElem_cons_succ])
          refine wpAnyH_take (i := 2) (v := ?_) (by simp only [List.getElem?_toArray, List.getElem?_cons_zero, List.getElem?_cons_succ]; rfl) (by kernel_rfl) (by kernel_rfl) (by kernel_rfl) (by intro _ _ _ h; exact h) (Or.inl ⟨by rfl, ?_⟩) (by assumption) ?_; rotate_left; (focus (intro w1 hSw; (try dsimp only at hSw); go_simp; (try with_reducible rfl))); (try simp only [Act.put, List.setIfInBounds_toArray, List.set_cons_zero, List.set_cons_succ, List.getElem_toArray, List.getElem_cons_zero, List.getElem_cons_succ])
          refine wpAnyH_take (i := 3) (v := ?_) (by simp only [List.getElem?_toArray, List.getElem?_cons_zero, List.getElem?_cons_succ]; rfl) (by kernel_rfl) (by kernel_rfl) (by kernel_rfl) (by intro _ _ _ h; exact h) (Or.inl ⟨by rfl, ?_⟩) (by assumption) ?_; rotate_left; (focus (intro w1 hSw; (try dsimp only at hSw); go_simp; (try with_reducible rfl))); (try simp only [Act.put, List.setIfInBounds_toArray, List.set_cons_zero, List.set_cons_succ, List.getElem_toArray, List.getElem_cons_zero, List.getElem_cons_succ])
          refine wpAnyH_take (i := 4) (v := ?_) (by simp only [List.getElem?_toArray, List.getElem?_cons_zero, List.getElem?_cons_succ]; rfl) (by kernel_rfl) (by kernel_rfl) (by kernel_rfl) (by intro _ _ _ h; exact h) (Or.inl ⟨by rfl, ?_⟩) (by assumption) ?_; rotate_left; (focus (intro w1 hSw; (try dsimp only at hSw); go_simp; (try with_reducible rfl))); (try simp only [Act.put, List.setIfInBounds_toArray, List.set_cons_zero, List.set_cons_succ, List.getElem_toArray, List.getElem_cons_zero, List.getElem_cons_succ])
          refine wpAnyH_take (i := 5) (v := ?_) (by simp only [List.getElem?_toArray, List.getElem?_cons_zero, List.getElem?_cons_succ]; rfl) (by kernel_rfl) (by kernel_rfl) (by kernel_rfl) (by intro _ _ _ h; exact h) (Or.inl ⟨by rfl, ?_⟩) (by assumption) ?_; rotate_left; (focus (intro w1 hSw; (try dsimp only at hSw); go_simp; (try with_reducible rfl))); (try simp only [Act.put, List.setIfInBounds_toArray, List.set_cons_zero, List.set_cons_succ, List.getElem_toArray, List.getElem_cons_zero, List.getElem_cons_succ])
          refine wpAnyH_take (i := 6) (v := ?_) (by simp only [List.getElem?_toArray, List.getElem?_cons_zero, List.getElem?_cons_succ]; rfl) (by kernel_rfl) (by kernel_rfl) (by kernel_rfl) (by intro _ _ _ h; exact h) (Or.inl ⟨by rfl, ?_⟩) (by assumption) ?_; rotate_left; (focus (intro w1 hSw; (try dsimp only at hSw); go_simp; (try with_reducible rfl))); (try simp only [Act.put, List.setIfInBounds_toArray, List.set_cons_zero, List.set_cons_succ, List.getElem_toArray, List.getElem_cons_zero, List.getElem_cons_succ])
          refine wpAnyH_take (i := 7) (v := ?_) (by simp only [List.getElem?_toArray, List.getElem?_cons_zero, List.getElem?_cons_succ]; rfl) (by kernel_rfl) (by kernel_rfl) (by kernel_rfl) (by intro _ _ _ h; exact h) (Or.inl ⟨by rfl, ?_⟩) (by assumption) ?_; rotate_left; (focus (intro w1 hSw; (try dsimp only at hSw); go_simp; (try with_reducible rfl))); (try simp only [Act.put, List.setIfInBounds_toArray, List.set_cons_zero, List.set_cons_succ, List.getElem_toArray, List.getElem_cons_zero, List.getElem_cons_succ])
          refine wpAnyH_take (i := 8) (v := ?_) (by simp only [List.getElem?_toArray, List.getElem?_cons_zero, List.getElem?_cons_succ]; rfl) (by kernel_rfl) (by kernel_rfl) (by kernel_rfl) (by intro _ _ _ h; exact h) (Or.inl ⟨by rfl, ?_⟩) (by assumption) ?_; rotate_left; (focus (intro w1 hSw; (try dsimp only at hSw); go_simp; (try with_reducible rfl))); (try simp only [Act.put, List.setIfInBounds_toArray, List.set_cons_zero, List.set_cons_succ, List.getElem_toArray, List.getElem_cons_zero, List.getElem_cons_succ])
          refine wpAnyH_take (i := 9) (v := ?_) (by simp only [List.getElem?_toArray, List.getElem?_cons_zero, List.getElem?_cons_succ]; rfl) (by kernel_rfl) (by kernel_rfl) (by kernel_rfl) (by intro _ _ _ h; exact h) (Or.inl ⟨by rfl, ?_⟩) (by assumption) ?_; rotate_left; (focus (intro w1 hSw; (try dsimp only at hSw); go_simp; (try with_reducible rfl))); (try simp only [Act.put, List.setIfInBounds_toArray, List.set_cons_zero, List.set_cons_succ, List.getElem_toArray, List.getElem_cons_zero, List.getElem_cons_succ])
          refine wpAnyH_take (i := 10) (v := ?_) (by simp only [List.getElem?_toArray, List.getElem?_cons_zero, List.getElem?_cons_succ]; rfl) (by kernel_rfl) (by kernel_rfl) (by kernel_rfl) (by intro _ _ _ h; exact h) (Or.inl ⟨by rfl, ?_⟩) (by assumption) ?_; rotate_left; (focus (intro w1 hSw; (try dsimp only at hSw); go_simp; (try with_reducible rfl))); (try simp only [Act.put, List.setIfInBounds_toArray, List.set_cons_zero, List.set_cons_succ, List.getElem_toArray, List.getElem_cons_zero, List.getElem_cons_succ])
          refine wpAnyH_take (i := 11) (v := ?_) (by simp only [List.getElem?_toArray, List.getElem?_cons_zero, List.getElem?_cons_succ]; rfl) (by kernel_rfl) (by kernel_rfl) (by kernel_rfl) (by intro _ _ _ h; exact h) (Or.inl ⟨by rfl, ?_⟩) (by assumption) ?_; rotate_left; (focus (intro w1 hSw; (try dsimp only at hSw); go_simp; (try with_reducible rfl))); (try simp only [Act.put, List.setIfInBounds_toArray, List.set_cons_zero, List.set_cons_succ, List.getElem_toArray, List.getElem_cons_zero, List.getElem_cons_succ])
          refine wpAnyH_take (i := 12) (v := ?_) (by simp only [List.getElem?_toArray, List.getElem?_cons_zero, List.getElem?_cons_succ]; rfl) (by kernel_rfl) (by kernel_rfl) (by kernel_rfl) (by intro _ _ _ h; exact h) (Or.inl ⟨by rfl, ?_⟩) (by assumption) ?_; rotate_left; (focus (intro w1 hSw; (try dsimp only at hSw); go_simp; (try with_reducible rfl))); (try simp only [Act.put, List.setIfInBounds_toArray, List.set_cons_zero, List.set_cons_succ, List.getElem_toArray, List.getElem_cons_zero, List.getElem_cons_succ])
          refine wpAnyH_take (i := 13) (v := ?_) (by simp only [List.getElem?_toArray, List.getElem?_cons_zero, List.getElem?_cons_succ]; rfl) (by kernel_rfl) (by kernel_rfl) (by kernel_rfl) (by intro _ _ _ h; exact h) (Or.inl ⟨by rfl, ?_⟩) (by assumption) ?_; rotate_left; (focus (intro w1 hSw; (try dsimp only at hSw); go_simp; (try with_reducible rfl))); (try simp only [Act.put, List.setIfInBounds_toArray, List.set_cons_zero, List.set_cons_succ, List.getElem_toArray, List.getElem_cons_zero, List.getElem_cons_succ])
          refine wpAnyH_ready (rs := [14]) (by kernel_rfl) (by simp) ?_; refine AllReadyH.cons (by simp only [List.getElem?_toArray, List.getElem?_cons_zero, List.getElem?_cons_succ]; rfl) (fun K hK => ?_) AllReadyH.nil
          rw [if_pos (by rfl)]; go_wp2_with fail
          refine (CJX.out (by omega) V0 (HBW1.out.st bR)).mono ?_
          rintro e W6 ⟨⟨n, rfl, hz⟩, hbn⟩
          have HZ := Lib.hid hz
          have HB6 := Lib.hid (bR.st hbn)
          go_wp2_with fail
          refine hK.out _ _ (KS7.out _ HB6.out) (fun hHeld => ?_); clear hK K; (try simp only [Act.put, List.setIfInBounds_toArray, List.set_cons_zero, List.set_cons_succ, List.getElem_toArray, List.getElem_cons_zero, List.getElem_cons_succ])
          refine wpAnyH_take (i := 15) (v := ?_) (by simp only [List.getElem?_toArray, List.getElem?_cons_zero, List.getElem?_cons_succ]; rfl) (by kernel_rfl) (by kernel_rfl) (by kernel_rfl) (by intro _ _ _ h; exact h) (Or.inl ⟨by rfl, ?_⟩) (by assumption) ?_; rotate_left; (focus (intro w1 hSw; (try dsimp only at hSw); go_simp; (try with_reducible rfl))); (try simp only [Act.put, List.setIfInBounds_toArray, List.set_cons_zero, List.set_cons_succ, List.getElem_toArray, List.getElem_cons_zero, List.getElem_cons_succ])
          refine wpAnyH_take (i := 16) (v := ?_) (by simp only [List.getElem?_toArray, List.getElem?_cons_zero, List.getElem?_cons_succ]; rfl) (by kernel_rfl) (by kernel_rfl) (by kernel_rfl) (by intro _ _ _ h; exact h) (Or.inl ⟨by rfl, ?_⟩) (by assumption) ?_; rotate_left; (focus (intro w1 hSw; (try dsimp only at hSw); go_simp; (try with_reducible rfl))); (try simp only [Act.put, List.setIfInBounds_toArray, List.set_cons_zero, List.set_cons_succ, List.getElem_toArray, List.getElem_cons_zero, List.getElem_cons_succ])
          refine wpAnyH_done (by kernel_rfl) ?_ _
          clear hHeld hSS bR hbn hz
          by_cases hn : n = 0
          case' neg =>
            have hn2 : (n != 0) = true := by simp [hn]
            go_wp2_with fail; refine (awake16_any (HM.out.st ((HBW1.out.st HB6.out)) HM.out.1)).mono ?_; rintro e wl ⟨rfl, hbl⟩; have bL := Below.st ((HBW1.out.st HB6.out)) hbl; go_wp2_with fail; go_ret; exact ⟨rfl, bL⟩
          have HJ := Lib.hid (HZ.out hn)
          subst hn
          have CTZ := Lib.hid (CTX.out (by omega) HJ.out.2.2.1)
          clear HZ CTX CJX
          have bR := HB6.out
          have HB9 := Lib.hid (fun (X : World) (hX : Below W6.heap.size W6 X) => KS9.out X (HB6.out.st hX))
          have HBW6 := Lib.hid (HBW1.out.st bR)
          have HOW6 := Lib.hid (HOW.out.keep bR (Nat.le_refl _))
          have HWL : Hid (W2.heap.size ≤ wr.heap.size) := Lib.hid (Nat.le_trans (show W2.heap.size ≤ W3.heap.size by rw [← hW3]; simp) HBN.out.size)
          have HBN6 := Lib.hid (HBN.out.trans (bR.mono HWL.out))
          have HB66 : Hid (wr.heap.size ≤ W6.heap.size) := Lib.hid bR.size
          clear bR KS7 KS9
          go_upto_region 9 with fail
          go_cut [9, 10] (fun s9 s10 wx => ChC W6 s9 s10 wx)
          case first =>
            refine wp_region_held_drew (S := (fun w' : World => Blk w' w.heap.size #[.slice pA pts.length pc, .slice lA lks.length lc, .slice sA sys.length sc, o3, o4, o5, o6, o7, .slice tA ts.length tc, .int .i64 pe, .slice uA us.length uc, .slice dA ds.length dc, .slice qA qs.length qc, .slice kA dcs.length kc, .slice cA caps.length cc, o15, o16, o17, o18, o19, o20, o21, o22, o23, o24] 46 ∧ w'.cell? ⟨xb, xo + k * 5, none⟩ = some (.string x.id) ∧ w'.cell? ⟨xb, xo + k * 5 + 1, none⟩ = some (.string x.vh) ∧ w'.cell? ⟨xb, xo + k * 5 + 2, none⟩ = some (.string x.sy) ∧ w'.cell? ⟨xb, xo + k * 5 + 3, none⟩ = some (.int .i64 x.cl) ∧ w'.cell? ⟨xb, xo + k * 5 + 4, none⟩ = some (.slice x.sA x.ss.length x.sc))) (by kernel_rfl) ?_ (fun hHeld => ?_)
            focus exact HB9.out _ (Below.refl _ _).drew
            have hSS := HB9.out _ (Below.refl W6.heap.size W6).drew
            have bR := (Below.refl W6.heap.size W6).drew
            obtain ⟨V0, hV0⟩ : ∃ V, World.drew W6 = V := ⟨_, rfl⟩
            rw [hV0] at hHeld hSS bR ⊢
            have HSZ : Hid (W6.heap.size ≤ V0.heap.size) := Lib.hid bR.size
            clear hV0
            change wpAnyH _ _ _ _ _ 15 _ _ _
            refine wpAnyH_take (i := 0) (v := .agg #[.slice pA pts.length pc, .slice lA lks.length lc, .slice sA sys.length sc, o3, o4, o5, o6, o7, .slice tA ts.length tc, .int .i64 pe, .slice uA us.length uc, .slice dA ds.length dc, .slice qA qs.length qc, .slice kA dcs.length kc, .slice cA caps.length cc, o15, o16, o17, o18, o19, o20, o21, o22, o23, o24]) (by simp only [List.getElem?_toArray, List.getElem?_cons_zero, List.getElem?_cons_succ]; rfl) (by kernel_rfl) (by kernel_rfl) (by kernel_rfl) (by intro _ _ _ h; exact h) (yieldsIf_boxLoad (by rfl) rfl rfl (fun _ hw => hw.1) ⟨_, Tryz.underlying46, by kernel_rfl⟩) (by assumption) ?_; (try simp only [Act.put, List.setIfInBounds_toArray, List.set_cons_zero, List.set_cons_succ, List.getElem_toArray, List.getElem_cons_zero, List.getElem_cons_succ])
            refine wpAnyH_take (i := 1) (v := ?_) (by simp only [List.getElem?_toArray, List.getElem?_cons_zero, List.getElem?_cons_succ]; rfl) (by kernel_rfl) (by kernel_rfl) (by kernel_rfl) (by intro _ _ _ h; exact h) (Or.inl ⟨by rfl, ?_⟩) (by assumption) ?_; rotate_left; (focus (intro w1 hSw; (try dsimp only at hSw); go_simp; (try with_reducible rfl))); (try simp only [Act.put, List.setIfInBounds_toArray, List.set_cons_zero, List.set_cons_succ, List.getElem_toArray, List.getElem_cons_zero, List.getElem_cons_succ])
            refine wpAnyH_take (i := 2) (v := ?_) (by simp only [List.getElem?_toArray, List.getElem?_cons_zero, List.getElem?_cons_succ]; rfl) (by kernel_rfl) (by kernel_rfl) (by kernel_rfl) (by intro _ _ _ h; exact h) (Or.inl ⟨by rfl, ?_⟩) (by assumption) ?_; rotate_left; (focus (intro w1 hSw; (try dsimp only at hSw); go_simp; (try with_reducible rfl))); (try simp only [Act.put, List.setIfInBounds_toArray, List.set_cons_zero, List.set_cons_succ, List.getElem_toArray, List.getElem_cons_zero, List.getElem_cons_succ])
            refine wpAnyH_take (i := 3) (v := ?_) (by simp only [List.getElem?_toArray, List.getElem?_cons_zero, List.getElem?_cons_succ]; rfl) (by kernel_rfl) (by kernel_rfl) (by kernel_rfl) (by intro _ _ _ h; exact h) (Or.inl ⟨by rfl, ?_⟩) (by assumption) ?_; rotate_left; (focus (intro w1 hSw; (try dsimp only at hSw); go_simp; (try with_reducible rfl))); (try simp only [Act.put, List.setIfInBounds_toArray, List.set_cons_zero, List.set_cons_succ, List.getElem_toArray, List.getElem_cons_zero, List.getElem_cons_succ])
            refine wpAnyH_take (i := 4) (v := ?_) (by simp only [List.getElem?_toArray, List.getElem?_cons_zero, List.getElem?_cons_succ]; rfl) (by kernel_rfl) (by kernel_rfl) (by kernel_rfl) (by intro _ _ _ h; exact h) (Or.inl ⟨by rfl, ?_⟩) (by assumption) ?_; rotate_left; (focus (intro w1 hSw; (try dsimp only at hSw); go_simp; (try with_reducible rfl))); (try simp only [Act.put, List.setIfInBounds_toArray, List.set_cons_zero, List.set_cons_succ, List.getElem_toArray, List.getElem_cons_zero, List.getElem_cons_succ])
            refine wpAnyH_take (i := 5) (v := ?_) (by simp only [List.getElem?_toArray, List.getElem?_cons_zero, List.getElem?_cons_succ]; rfl) (by kernel_rfl) (by kernel_rfl) (by kernel_rfl) (by intro _ _ _ h; exact h) (Or.inl ⟨by rfl, ?_⟩) (by assumption) ?_; rotate_left; (focus (intro w1 hSw; (try dsimp only at hSw); go_simp; (try with_reducible rfl))); (try simp only [Act.put, List.setIfInBounds_toArray, List.set_cons_zero, List.set_cons_succ, List.getElem_toArray, List.getElem_cons_zero, List.getElem_cons_succ])
            refine wpAnyH_take (i := 6) (v := ?_) (by simp only [List.getElem?_toArray, List.getElem?_cons_zero, List.getElem?_cons_succ]; rfl) (by kernel_rfl) (by kernel_rfl) (by kernel_rfl) (by intro _ _ _ h; exact h) (Or.inl ⟨by rfl, ?_⟩) (by assumption) ?_; rotate_left; (focus (intro w1 hSw; (try dsimp only at hSw); go_simp; (try with_reducible rfl))); (try simp only [Act.put, List.setIfInBounds_toArray, List.set_cons_zero, List.set_cons_succ, List.getElem_toArray, List.getElem_cons_zero, List.getElem_cons_succ])
            refine wpAnyH_take (i := 7) (v := ?_) (by simp only [List.getElem?_toArray, List.getElem?_cons_zero, List.getElem?_cons_succ]; rfl) (by kernel_rfl) (by kernel_rfl) (by kernel_rfl) (by intro _ _ _ h; exact h) (Or.inl ⟨by rfl, ?_⟩) (by assumption) ?_; rotate_left; (focus (intro w1 hSw; (try dsimp only at hSw); go_simp; (try with_reducible rfl))); (try simp only [Act.put, List.setIfInBounds_toArray, List.set_cons_zero, List.set_cons_succ, List.getElem_toArray, List.getElem_cons_zero, List.getElem_cons_succ])
            have hbs := bR.size
            refine wpAnyH_ready (rs := [8, 12]) (by kernel_rfl) (by simp) ?_; refine AllReadyH.cons (by simp only [List.getElem?_toArray, List.getElem?_cons_zero, List.getElem?_cons_succ]; rfl) (fun K hK => ?_) (AllReadyH.cons (by simp only [List.getElem?_toArray, List.getElem?_cons_zero, List.getElem?_cons_succ]; rfl) (fun K hK => ?_) AllReadyH.nil)
            · rw [if_pos (by rfl)]; go_wp2_with fail; (refine (CTZ.out _ (HBW6.out.st bR)).mono ?_); (rintro e V1 ⟨v, er, vA, vc, -, rfl, -, hbn⟩); (simp only [CHV]); (have bR := bR.st hbn); (have hbs := bR.size); go_wp2_with fail
              refine hK.out _ _ (HB9.out _ bR) (fun hHeld => ?_); clear hK K; (try simp only [Act.put, List.setIfInBounds_toArray, List.set_cons_zero, List.set_cons_succ, List.getElem_toArray, List.getElem_cons_zero, List.getElem_cons_succ])
              clear hbn
              refine wpAnyH_take (i := 9) (v := ?_) (by simp only [List.getElem?_toArray, List.getElem?_cons_zero, List.getElem?_cons_succ]; rfl) (by kernel_rfl) (by kernel_rfl) (by kernel_rfl) (by intro _ _ _ h; exact h) (Or.inl ⟨by rfl, ?_⟩) (by assumption) ?_; rotate_left; (focus (intro w1 hSw; (try dsimp only at hSw); go_simp; (try with_reducible rfl))); (try simp only [Act.put, List.setIfInBounds_toArray, List.set_cons_zero, List.set_cons_succ, List.getElem_toArray, List.getElem_cons_zero, List.getElem_cons_succ])
              refine wpAnyH_take (i := 10) (v := ?_) (by simp only [List.getElem?_toArray, List.getElem?_cons_zero, List.getElem?_cons_succ]; rfl) (by kernel_rfl) (by kernel_rfl) (by kernel_rfl) (by intro _ _ _ h; exact h) (Or.inl ⟨by rfl, ?_⟩) (by assumption) ?_; rotate_left; (focus (intro w1 hSw; (try dsimp only at hSw); go_simp; (try with_reducible rfl))); (try simp only [Act.put, List.setIfInBounds_toArray, List.set_cons_zero, List.set_cons_succ, List.getElem_toArray, List.getElem_cons_zero, List.getElem_cons_succ])
              refine wpAnyH_take (i := 11) (v := ?_) (by simp only [List.getElem?_toArray, List.getElem?_cons_zero, List.getElem?_cons_succ]; rfl) (by kernel_rfl) (by kernel_rfl) (by kernel_rfl) (by intro _ _ _ h; exact h) (Or.inl ⟨by rfl, ?_⟩) (by assumption) ?_; rotate_left; (focus (intro w1 hSw; (try dsimp only at hSw); go_simp; (try with_reducible rfl))); (try simp only [Act.put, List.setIfInBounds_toArray, List.set_cons_zero, List.set_cons_succ, List.getElem_toArray, List.getElem_cons_zero, List.getElem_cons_succ])
              refine wpAnyH_ready (rs := [12]) (by kernel_rfl) (by simp) ?_; refine AllReadyH.cons (by simp only [List.getElem?_toArray, List.getElem?_cons_zero, List.getElem?_cons_succ]; rfl) (fun K hK => ?_) AllReadyH.nil
              (obtain ⟨V2, hV⟩ : ∃ V, World.alloc V1 (.cells #[.string ⟨#[]⟩, .string ⟨#[]⟩, .string ⟨#[]⟩, .int .i64 0, .int .i64 0, .slice none 0 0, .int .i64 0] 57) = V := ⟨_, rfl⟩); (have hbn : Below (World.heap V1).size V1 V2 := (by rw [← hV]; exact (Below.refl _ _).al _)); (have C5 : Blk V2 (World.heap V1).size #[.string ⟨#[]⟩, .string ⟨#[]⟩, .string ⟨#[]⟩, .int .i64 0, .int .i64 0, .slice none 0 0, .int .i64 0] 57 := (by rw [← hV]; exact Blk.new _ _ _)); (have bR := bR.st hbn)
              have hl5 := C5.lt
              rw [if_pos (by rfl)]; go_wp2_with fail
              refine hK.out _ _ (HB9.out _ bR) (fun hHeld => ?_); clear hK K; (try simp only [Act.put, List.setIfInBounds_toArray, List.set_cons_zero, List.set_cons_succ, List.getElem_toArray, List.getElem_cons_zero, List.getElem_cons_succ])
              clear hV hbn
              refine wpAnyH_ready (rs := [13]) (by kernel_rfl) (by simp) ?_; refine AllReadyH.cons (by simp only [List.getElem?_toArray, List.getElem?_cons_zero, List.getElem?_cons_succ]; rfl) (fun K hK => ?_) AllReadyH.nil
              rw [if_pos (by rfl)]; refine wp_boxStore rfl C5 rfl rfl (by kernel_rfl) rfl (by kernel_rfl) ?_; intro V3 C5 hoz hbz; (have bR := hbz _ _ (by have := HSZ.out; omega) bR)
              refine hK.out _ _ (HB9.out _ bR) (fun hHeld => ?_); clear hK K; (try simp only [Act.put, List.setIfInBounds_toArray, List.set_cons_zero, List.set_cons_succ, List.getElem_toArray, List.getElem_cons_zero, List.getElem_cons_succ])
              clear hoz hbz
              refine wpAnyH_take (i := 14) (v := ?_) (by simp only [List.getElem?_toArray, List.getElem?_cons_zero, List.getElem?_cons_succ]; rfl) (by kernel_rfl) (by kernel_rfl) (by kernel_rfl) (by intro _ _ _ h; exact h) (Or.inl ⟨by rfl, ?_⟩) (by assumption) ?_; rotate_left; (focus (intro w1 hSw; (try dsimp only at hSw); go_simp; (try with_reducible rfl))); (try simp only [Act.put, List.setIfInBounds_toArray, List.set_cons_zero, List.set_cons_succ, List.getElem_toArray, List.getElem_cons_zero, List.getElem_cons_succ])
              refine wpAnyH_done (by kernel_rfl) ?_ _; go_wp2_with fail; go_meet; exact ⟨_, v, vA, vc, er, rfl, rfl, C5, bR⟩
            · (obtain ⟨V1, hV⟩ : ∃ V, World.alloc V0 (.cells #[.string ⟨#[]⟩, .string ⟨#[]⟩, .string ⟨#[]⟩, .int .i64 0, .int .i64 0, .slice none 0 0, .int .i64 0] 57) = V := ⟨_, rfl⟩); (have hbn : Below (World.heap V0).size V0 V1 := (by rw [← hV]; exact (Below.refl _ _).al _)); (have C5 : Blk V1 (World.heap V0).size #[.string ⟨#[]⟩, .string ⟨#[]⟩, .string ⟨#[]⟩, .int .i64 0, .int .i64 0, .slice none 0 0, .int .i64 0] 57 := (by rw [← hV]; exact Blk.new _ _ _)); (have bR := bR.st hbn)
              have hl5 := C5.lt
              rw [if_pos (by rfl)]; go_wp2_with fail
              refine hK.out _ _ (HB9.out _ bR) (fun hHeld => ?_); clear hK K; (try simp only [Act.put, List.setIfInBounds_toArray, List.set_cons_zero, List.set_cons_succ, List.getElem_toArray, List.getElem_cons_zero, List.getElem_cons_succ])
              clear hV hbn
              refine wpAnyH_ready (rs := [8]) (by kernel_rfl) (by simp) ?_; refine AllReadyH.cons (by simp only [List.getElem?_toArray, List.getElem?_cons_zero, List.getElem?_cons_succ]; rfl) (fun K hK => ?_) AllReadyH.nil
              rw [if_pos (by rfl)]; go_wp2_with fail; (refine (CTZ.out _ (HBW6.out.st bR)).mono ?_); (rintro e V2 ⟨v, er, vA, vc, -, rfl, -, hbn⟩); (simp only [CHV]); (have bR := bR.st hbn); (have hbs := bR.size); go_wp2_with fail
              have C5 := C5.below hbn C5.lt
              refine hK.out _ _ (HB9.out _ bR) (fun hHeld => ?_); clear hK K; (try simp only [Act.put, List.setIfInBounds_toArray, List.set_cons_zero, List.set_cons_succ, List.getElem_toArray, List.getElem_cons_zero, List.getElem_cons_succ])
              clear hbn
              refine wpAnyH_take (i := 9) (v := ?_) (by simp only [List.getElem?_toArray, List.getElem?_cons_zero, List.getElem?_cons_succ]; rfl) (by kernel_rfl) (by kernel_rfl) (by kernel_rfl) (by intro _ _ _ h; exact h) (Or.inl ⟨by rfl, ?_⟩) (by assumption) ?_; rotate_left; (focus (intro w1 hSw; (try dsimp only at hSw); go_simp; (try with_reducible rfl))); (try simp only [Act.put, List.setIfInBounds_toArray, List.set_cons_zero, List.set_cons_succ, List.getElem_toArray, List.getElem_cons_zero, List.getElem_cons_succ])
              refine wpAnyH_take (i := 10) (v := ?_) (by simp only [List.getElem?_toArray, List.getElem?_cons_zero, List.getElem?_cons_succ]; rfl) (by kernel_rfl) (by kernel_rfl) (by kernel_rfl) (by intro _ _ _ h; exact h) (Or.inl ⟨by rfl, ?_⟩) (by assumption) ?_; rotate_left; (focus (intro w1 hSw; (try dsimp only at hSw); go_simp; (try with_reducible rfl))); (try simp only [Act.put, List.setIfInBounds_toArray, List.set_cons_zero, List.set_cons_succ, List.getElem_toArray, List.getElem_cons_zero, List.getElem_cons_succ])
              refine wpAnyH_take (i := 11) (v := ?_) (by simp only [List.getElem?_toArray, List.getElem?_cons_zero, List.getElem?_cons_succ]; rfl) (by kernel_rfl) (by kernel_rfl) (by kernel_rfl) (by intro _ _ _ h; exact h) (Or.inl ⟨by rfl, ?_⟩) (by assumption) ?_; rotate_left; (focus (intro w1 hSw; (try dsimp only at hSw); go_simp; (try with_reducible rfl))); (try simp only [Act.put, List.setIfInBounds_toArray, List.set_cons_zero, List.set_cons_succ, List.getElem_toArray, List.getElem_cons_zero, List.getElem_cons_succ])
              refine wpAnyH_ready (rs := [13]) (by kernel_rfl) (by simp) ?_; refine AllReadyH.cons (by simp only [List.getElem?_toArray, List.getElem?_cons_zero, List.getElem?_cons_succ]; rfl) (fun K hK => ?_) AllReadyH.nil
              rw [if_pos (by rfl)]; refine wp_boxStore rfl C5 rfl rfl (by kernel_rfl) rfl (by kernel_rfl) ?_; intro V3 C5 hoz hbz; (have bR := hbz _ _ (by have := HSZ.out; omega) bR)
              refine hK.out _ _ (HB9.out _ bR) (fun hHeld => ?_); clear hK K; (try simp only [Act.put, List.setIfInBounds_toArray, List.set_cons_zero, List.set_cons_succ, List.getElem_toArray, List.getElem_cons_zero, List.getElem_cons_succ])
              clear hoz hbz
              refine wpAnyH_take (i := 14) (v := ?_) (by simp only [List.getElem?_toArray, List.getElem?_cons_zero, List.getElem?_cons_succ]; rfl) (by kernel_rfl) (by kernel_rfl) (by kernel_rfl) (by intro _ _ _ h; exact h) (Or.inl ⟨by rfl, ?_⟩) (by assumption) ?_; rotate_left; (focus (intro w1 hSw; (try dsimp only at hSw); go_simp; (try with_reducible rfl))); (try simp only [Act.put, List.setIfInBounds_toArray, List.set_cons_zero, List.set_cons_succ, List.getElem_toArray, List.getElem_cons_zero, List.getElem_cons_succ])
              refine wpAnyH_done (by kernel_rfl) ?_ _; go_wp2_with fail; go_meet; exact ⟨_, v, vA, vc, er, rfl, rfl, C5, bR⟩
          case rest =>
            obtain ⟨g9, v, vA, vc, er, rfl, rfl, C5, bc⟩ := hcut
            have HB10 := Lib.hid (HBN6.out.trans (bc.mono (Nat.le_trans HWL.out HB66.out)))
            have hown := HOW6.out.keep bc (Nat.le_refl _)
            have hbs : W2.heap.size ≤ wc.heap.size := Nat.le_trans HWL.out (Nat.le_trans HB66.out bc.size)
            have hll : l.length ≤ 8 := by have := HLK.out; have := HI.out; omega
            clear bc
            by_cases he : er = 0
            · have heb : (er == 0) = true := by simp [he]
              clear he
              go_wp2_with (first | (refine wpList_boxLoad rfl (ty := 57) (x := .tmp 9) (cs := #[.string v.key, .string v.veh, .string v.sys, .int .i64 v.cls, .int .i64 v.tm, .slice vA v.lns.length vc, .int .i64 v.ct]) rfl C5 rfl ⟨_, Tryz.underlying57, by kernel_rfl⟩ ?_) | (at_builtin; refine wpList_app1 rfl (.tmp 70) (.tmp 72) tyCg encCg_ok rfl (⟨v, vA, vc⟩ : Cg) rfl _ rfl (by simp) hown rfl (by first | rfl | simp) (by first | omega | (simp; omega)) (by first | omega | (simp; omega)) hbs ?_; intro A9 c9 w9 hown9 hb9 hs9 hf9))
              go_roundw
              case rel => exact ⟨k + 1, A9, c9, l ++ [⟨v, vA, vc⟩], HI.out, by go_num, by simp, hown9, by have := HLK.out; simp; omega, HB10.out.trans hb9⟩
              case measure => have := HI.out; simp [RowKit.intOf]; omega
            · have heb : (er == 0) = false := by simp [he]
              have HOX := Lib.hid hown
              clear he hown
              go_wp2_with fail
              go_roundw
              case rel => exact ⟨k + 1, gA, gc, l, HI.out, by go_num, rfl, HOX.out, Nat.le_succ_of_le HLK.out, HB10.out⟩
              case measure => have := HI.out; simp [RowKit.intOf]; omega
      · obtain rfl : k = xs.length := by omega
        have hl8 : l.length ≤ 8 := by omega
        have HRL := Lib.hid (HOW.out.rd encCg_ok)
        have CAP := Lib.hid (apply_any cc gc (HC.out wr bW) HRL.out (HM.out.st bW HM.out.1) hcl (by omega))
        have g14 := BP.cell 14 (v := .slice cA caps.length cc) rfl
        have HBW1 := Lib.hid bW
        have HBP1 := Lib.hid BP
        have hcvl : (cvs l).length = l.length := cvs_len l
        obtain ⟨cs, hcs⟩ : ∃ cs, cvs l = cs := ⟨_, rfl⟩
        have HCS := Lib.hid (fun (i : Nat) (x : Cg) (h : l[i]? = some x) => cvs_at h)
        rw [hcs] at CAP hcvl HCS
        have HLEN := Lib.hid hcvl
        clear hcs hi hk hlk bW BP CJ CT hcvl
        go_wp2_with fail
        refine CAP.out.mono ?_
        rintro e W5 ⟨rA, rc, r, rfl, hp0, -, hown2, hbn⟩
        have HBW5 := Lib.hid (HBW1.out.st hbn)
        have HBP5 := Lib.hid (HBP1.out.below hbn HBP1.out.lt)
        have HRL5 := Lib.hid (HRL.out.st hbn)
        have HRP := Lib.hid (hown2.rd encI_ok)
        have HP0 := Lib.hid hp0
        have HAE := Lib.hid (fun (q : applyE caps cs = 0) => applyE_ok q)
        clear hown2 hbn hp0 CAP g14
        generalize applyE caps cs = ae at *
        by_cases he : ae = 0
        case' neg =>
          have hne : (ae != 0) = true := by simp [he]
          clear he
          go_wp2_with fail; refine (awake16_any (HM.out.st (HBW5.out) HM.out.1)).mono ?_; rintro e wl ⟨rfl, hbl⟩; have bL := Below.st (HBW5.out) hbl; go_wp2_with fail; go_ret; exact ⟨rfl, bL⟩
        subst he
        obtain ⟨-, -, hca, hcx⟩ := HAE.out rfl
        obtain rfl := HP0.out rfl
        have hrl : (paidL caps cs).length = l.length := (runF_len caps cs _).trans HLEN.out
        have HNC : Hid (∀ c ∈ caps, 0 ≤ c.ct) := Lib.hid (fun c hc => (capE_ct (hca c hc)).1)
        have HNX : Hid (∀ x ∈ cs, 0 ≤ x.ct ∧ x.ct ≤ 1125899906842624) := Lib.hid (fun x hx => (chE_ok (hcx x hx)).1)
        have HPD := Lib.hid (fun (i : Nat) (h : i < cs.length) => paid_at (caps := caps) h)
        obtain ⟨r, hr⟩ : ∃ r, paidL caps cs = r := ⟨_, rfl⟩
        rw [hr] at HRP HPD hrl ⊢
        have HRL0 := Lib.hid hrl
        rw [hrl]
        clear hca hcx hr HAE HP0 hrl
        have hz : ((l.length : Int) != (l.length : Int)) = false := by simp
        go_wp2_with fail
        go_loopw [13] (fun si wr => ∃ i : Nat, i ≤ l.length ∧ si = .int .i64 i ∧ Below W5.heap.size W5 wr) (fun si _ => l.length - (RowKit.intOf si).toNat)
        case atStart => exact ⟨0, Nat.zero_le _, rfl, Below.refl _ _⟩
        case round =>
          obtain ⟨wi, hwi⟩ : ∃ x, x = wr := ⟨_, rfl⟩
          rw [← hwi] at hrel ⊢
          clear hwi wr
          obtain ⟨i, hi0, rfl, hbi⟩ := hrel
          have i1 : (0 : Int) ≤ (i : Int) := by omega
          have HBI := Lib.hid hbi
          have HBWI := Lib.hid (HBW5.out.st hbi)
          clear hbi
          by_cases hi : i < l.length
          · have i2 : (i : Int) < (l.length : Int) := by omega
            have inn : decide (i < l.length) = true := decide_eq_true hi
            have HI := Lib.hid hi
            obtain ⟨lb, lo, x, hgA, hlb, hxx, e0, e1, e2, e3, e4, e5, e6⟩ := (HRL5.out.st HBI.out).cg hi
            obtain ⟨pb, po, y, hrA, hpb, hyy, hpc⟩ := (HRP.out.st HBI.out).at_ (i := i) (by rw [HRL0.out]; exact hi)
            subst hgA hrA
            have hic : i < cs.length := by rw [HLEN.out]; exact hi
            have hpd := HPD.out i hic
            rw [hyy] at hpd
            obtain rfl := Option.some.inj hpd
            have p0 := hpc 0 (.int .i64 (pdAt caps cs i)) rfl
            simp only [Nat.mul_one, Nat.add_zero] at p0
            have hch : chAt cs i = x.c := chAt_of (HCS.out i x hxx)
            have hb := pdAt_bnd HNC.out (fun x hx => (HNX.out x hx).1) hic
            rw [hch] at hb
            have HRB0 : Hid (reachB caps cs i 0 = (pdAt caps cs i == x.c.ct)) := Lib.hid (by unfold reachB; rw [hch]; simp only [List.take_zero, List.any_nil, Bool.or_false]; rfl)
            have HRA : Hid (reachB caps cs i caps.length = true) := Lib.hid (reach_all HNC.out (fun x hx => (HNX.out x hx).1) hic)
            obtain ⟨P, hP⟩ : ∃ P, pdAt caps cs i = P := ⟨_, rfl⟩
            rw [hP] at p0 hb HRB0
            have n1 : decide (P < 0) = false := decide_eq_false (by omega)
            have n2 : decide (x.c.ct < P) = false := decide_eq_false (by omega)
            have n1z : ¬ P < 0 := by omega
            have n2z : ¬ x.c.ct < P := by omega
            have HCH := Lib.hid hch
            have HEE := Lib.hid (And.intro e0 (And.intro e1 (And.intro e2 (And.intro e3 (And.intro e4 (And.intro e5 e6))))))
            have HLB := Lib.hid hlb
            clear hP hb hch hpd hyy hpc hxx hpb hlb hi hi0
            go_wp2_with fail
            go_quiet (fail)
            go_wp2_with fail
            go_quiet (fail)
            go_wp2_with fail
            go_loopw [15, 14] (fun sj sb wr => ∃ j : Nat, j ≤ caps.length ∧ sj = .int .i64 j ∧ sb = .bool (reachB caps cs i j) ∧ Below wi.heap.size wi wr) (fun sj _ _ => caps.length - (RowKit.intOf sj).toNat)
            case atStart => exact ⟨0, Nat.zero_le _, rfl, by rw [HRB0.out], below_drewN (below_drewN (Below.refl _ _) _) _⟩
            case round =>
              obtain ⟨wj, hwj⟩ : ∃ x, x = wr := ⟨_, rfl⟩
              rw [← hwj] at hrel ⊢
              clear hwj wr
              obtain ⟨j, hj0, rfl, rfl, hbj⟩ := hrel
              have j1 : (0 : Int) ≤ (j : Int) := by omega
              have HBJ := Lib.hid (HBI.out.st hbj)
              have HBIJ := Lib.hid hbj
              have HBWJ := Lib.hid (HBWI.out.st hbj)
              have BP := HBP5.out.below HBJ.out HBP5.out.lt
              have g14 := BP.cell 14 (v := .slice cA caps.length cc) rfl
              clear hbj
              by_cases hj : j < caps.length
              · have j2 : (j : Int) < (caps.length : Int) := by omega
                have jn : decide (j < caps.length) = true := decide_eq_true hj
                have HJ := Lib.hid hj
                obtain ⟨kb, ko, c, hkA, hkb, hcx, f0, f1, f2, f3⟩ := (HC.out wj HBWJ.out).cp hj
                have HKA := Lib.hid hkA
                rw [hkA] at g14
                have HRS := Lib.hid (reachB_succ (cs := cs) (i := i) hcx)
                rw [HCH.out] at HRS
                have HCM := Lib.hid (List.mem_of_getElem? hcx)
                have KX : Hid (∀ X, Below wj.heap.size wj X → (fun w' : World => w'.cell? ⟨w.heap.size, 14, none⟩ = some (.slice (some ⟨kb, ko, none⟩) caps.length cc) ∧ w'.cell? ⟨kb, ko + j * 4, none⟩ = some (.string c.name) ∧ w'.cell? ⟨kb, ko + j * 4 + 1, none⟩ = some (.string c.sys) ∧ w'.cell? ⟨kb, ko + j * 4 + 2, none⟩ = some (.int .i64 c.days) ∧ w'.cell? ⟨kb, ko + j * 4 + 3, none⟩ = some (.int .i64 c.ct) ∧ w'.cell? ⟨lb, lo + i * 7, none⟩ = some (.string x.c.key) ∧ w'.cell? ⟨lb, lo + i * 7 + 1, none⟩ = some (.string x.c.veh) ∧ w'.cell? ⟨lb, lo + i * 7 + 2, none⟩ = some (.string x.c.sys) ∧ w'.cell? ⟨lb, lo + i * 7 + 3, none⟩ = some (.int .i64 x.c.cls) ∧ w'.cell? ⟨lb, lo + i * 7 + 4, none⟩ = some (.int .i64 x.c.tm) ∧ w'.cell? ⟨lb, lo + i * 7 + 5, none⟩ = some (.slice x.lA x.c.lns.length x.lc) ∧ w'.cell? ⟨lb, lo + i * 7 + 6, none⟩ = some (.int .i64 x.c.ct)) X) := Lib.hid (fun X hX => by
                  have tr : ∀ o (v : Value), wi.cell? ⟨lb, o, none⟩ = some v → X.cell? ⟨lb, o, none⟩ = some v := fun o v hv => ((HBIJ.out.st hX).cell (p := ⟨lb, o, none⟩) HLB.out).trans hv
                  have tk : ∀ o (v : Value), wj.cell? ⟨kb, o, none⟩ = some v → X.cell? ⟨kb, o, none⟩ = some v := fun o v hv => (hX.cell (p := ⟨kb, o, none⟩) hkb).trans hv
                  have ee := HEE.out
                  exact ⟨by rw [← hkA]; exact (BP.below hX BP.lt).cell 14 rfl, tk _ _ f0, tk _ _ f1, tk _ _ f2, tk _ _ f3, tr _ _ ee.1, tr _ _ ee.2.1, tr _ _ ee.2.2.1, tr _ _ ee.2.2.2.1, tr _ _ ee.2.2.2.2.1, tr _ _ ee.2.2.2.2.2.1, tr _ _ ee.2.2.2.2.2.2⟩)
                have CMX := Lib.hid (fun (X : World) => cmat_any c x.c x.lA x.lc X)
                have HFF := Lib.hid (And.intro hkb (And.intro f0 (And.intro f1 (And.intro f2 f3))))
                obtain ⟨rb, hrb⟩ : ∃ b, reachB caps cs i j = b := ⟨_, rfl⟩
                rw [hrb] at HRS ⊢
                clear hkA hkb hcx f0 f1 f2 f3 BP hj hj0 hrb
                go_wp2_with fail
                refine wp_region_held_drew (S := (fun w' : World => w'.cell? ⟨w.heap.size, 14, none⟩ = some (.slice (some ⟨kb, ko, none⟩) caps.length cc) ∧ w'.cell? ⟨kb, ko + j * 4, none⟩ = some (.string c.name) ∧ w'.cell? ⟨kb, ko + j * 4 + 1, none⟩ = some (.string c.sys) ∧ w'.cell? ⟨kb, ko + j * 4 + 2, none⟩ = some (.int .i64 c.days) ∧ w'.cell? ⟨kb, ko + j * 4 + 3, none⟩ = some (.int .i64 c.ct) ∧ w'.cell? ⟨lb, lo + i * 7, none⟩ = some (.string x.c.key) ∧ w'.cell? ⟨lb, lo + i * 7 + 1, none⟩ = some (.string x.c.veh) ∧ w'.cell? ⟨lb, lo + i * 7 + 2, none⟩ = some (.string x.c.sys) ∧ w'.cell? ⟨lb, lo + i * 7 + 3, none⟩ = some (.int .i64 x.c.cls) ∧ w'.cell? ⟨lb, lo + i * 7 + 4, none⟩ = some (.int .i64 x.c.tm) ∧ w'.cell? ⟨lb, lo + i * 7 + 5, none⟩ = some (.slice x.lA x.c.lns.length x.lc) ∧ w'.cell? ⟨lb, lo + i * 7 + 6, none⟩ = some (.int .i64 x.c.ct))) (by kernel_rfl) ?_ (fun hHeld => ?_)
                focus exact KX.out _ (Below.refl _ _).drew
                have hSS := KX.out _ (Below.refl wj.heap.size wj).drew
                have bR := (Below.refl wj.heap.size wj).drew
                obtain ⟨V0, hV0⟩ : ∃ V, World.drew wj = V := ⟨_, rfl⟩
                rw [hV0] at hHeld hSS bR ⊢
                clear hV0 g14
                change wpAnyH _ _ _ _ _ 11 _ _ _
                refine wpAnyH_take (i := 0) (v := ?_) (by simp only [List.getElem?_toArray, List.getElem?_cons_zero, List.getElem?_cons_succ]; rfl) (by kernel_rfl) (by kernel_rfl) (by kernel_rfl) (by intro _ _ _ h; exact h) (Or.inl ⟨by rfl, ?_⟩) (by assumption) ?_; rotate_left; (focus (intro w1 hSw; (try dsimp only at hSw); go_simp; (try with_reducible rfl))); (try simp only [Act.put, List.setIfInBounds_toArray, List.set_cons_zero, List.set_cons_succ, List.getElem_toArray, List.getElem_cons_zero, List.getElem_cons_succ])
                refine wpAnyH_take (i := 1) (v := ?_) (by simp only [List.getElem?_toArray, List.getElem?_cons_zero, List.getElem?_cons_succ]; rfl) (by kernel_rfl) (by kernel_rfl) (by kernel_rfl) (by intro _ _ _ h; exact h) (Or.inl ⟨by rfl, ?_⟩) (by assumption) ?_; rotate_left; (focus (intro w1 hSw; (try dsimp only at hSw); go_simp; (try with_reducible rfl))); (try simp only [Act.put, List.setIfInBounds_toArray, List.set_cons_zero, List.set_cons_succ, List.getElem_toArray, List.getElem_cons_zero, List.getElem_cons_succ])
                refine wpAnyH_take (i := 2) (v := ?_) (by simp only [List.getElem?_toArray, List.getElem?_cons_zero, List.getElem?_cons_succ]; rfl) (by kernel_rfl) (by kernel_rfl) (by kernel_rfl) (by intro _ _ _ h; exact h) (Or.inl ⟨by rfl, ?_⟩) (by assumption) ?_; rotate_left; (focus (intro w1 hSw; (try dsimp only at hSw); go_simp; (try with_reducible rfl))); (try simp only [Act.put, List.setIfInBounds_toArray, List.set_cons_zero, List.set_cons_succ, List.getElem_toArray, List.getElem_cons_zero, List.getElem_cons_succ])
                refine wpAnyH_take (i := 3) (v := ?_) (by simp only [List.getElem?_toArray, List.getElem?_cons_zero, List.getElem?_cons_succ]; rfl) (by kernel_rfl) (by kernel_rfl) (by kernel_rfl) (by intro _ _ _ h; exact h) (Or.inl ⟨by rfl, ?_⟩) (by assumption) ?_; rotate_left; (focus (intro w1 hSw; (try dsimp only at hSw); go_simp; (try with_reducible rfl))); (try simp only [Act.put, List.setIfInBounds_toArray, List.set_cons_zero, List.set_cons_succ, List.getElem_toArray, List.getElem_cons_zero, List.getElem_cons_succ])
                refine wpAnyH_take (i := 4) (v := ?_) (by simp only [List.getElem?_toArray, List.getElem?_cons_zero, List.getElem?_cons_succ]; rfl) (by kernel_rfl) (by kernel_rfl) (by kernel_rfl) (by intro _ _ _ h; exact h) (Or.inl ⟨by rfl, ?_⟩) (by assumption) ?_; rotate_left; (focus (intro w1 hSw; (try dsimp only at hSw); go_simp; (try with_reducible rfl))); (try simp only [Act.put, List.setIfInBounds_toArray, List.set_cons_zero, List.set_cons_succ, List.getElem_toArray, List.getElem_cons_zero, List.getElem_cons_succ])
                refine wpAnyH_take (i := 5) (v := ?_) (by simp only [List.getElem?_toArray, List.getElem?_cons_zero, List.getElem?_cons_succ]; rfl) (by kernel_rfl) (by kernel_rfl) (by kernel_rfl) (by intro _ _ _ h; exact h) (Or.inl ⟨by rfl, ?_⟩) (by assumption) ?_; rotate_left; (focus (intro w1 hSw; (try dsimp only at hSw); go_simp; (try with_reducible rfl))); (try simp only [Act.put, List.setIfInBounds_toArray, List.set_cons_zero, List.set_cons_succ, List.getElem_toArray, List.getElem_cons_zero, List.getElem_cons_succ])
                refine wpAnyH_take (i := 6) (v := ?_) (by simp only [List.getElem?_toArray, List.getElem?_cons_zero, List.getElem?_cons_succ]; rfl) (by kernel_rfl) (by kernel_rfl) (by kernel_rfl) (by intro _ _ _ h; exact h) (Or.inl ⟨by rfl, ?_⟩) (by assumption) ?_; rotate_left; (focus (intro w1 hSw; (try dsimp only at hSw); go_simp; (try with_reducible rfl))); (try simp only [Act.put, List.setIfInBounds_toArray, List.set_cons_zero, List.set_cons_succ, List.getElem_toArray, List.getElem_cons_zero, List.getElem_cons_succ])
                refine wpAnyH_take (i := 7) (v := ?_) (by simp only [List.getElem?_toArray, List.getElem?_cons_zero, List.getElem?_cons_succ]; rfl) (by kernel_rfl) (by kernel_rfl) (by kernel_rfl) (by intro _ _ _ h; exact h) (Or.inl ⟨by rfl, ?_⟩) (by assumption) ?_; rotate_left; (focus (intro w1 hSw; (try dsimp only at hSw); go_simp; (try with_reducible rfl))); (try simp only [Act.put, List.setIfInBounds_toArray, List.set_cons_zero, List.set_cons_succ, List.getElem_toArray, List.getElem_cons_zero, List.getElem_cons_succ])
                refine wpAnyH_take (i := 8) (v := ?_) (by simp only [List.getElem?_toArray, List.getElem?_cons_zero, List.getElem?_cons_succ]; rfl) (by kernel_rfl) (by kernel_rfl) (by kernel_rfl) (by intro _ _ _ h; exact h) (Or.inl ⟨by rfl, ?_⟩) (by assumption) ?_; rotate_left; (focus (intro w1 hSw; (try dsimp only at hSw); go_simp; (try with_reducible rfl))); (try simp only [Act.put, List.setIfInBounds_toArray, List.set_cons_zero, List.set_cons_succ, List.getElem_toArray, List.getElem_cons_zero, List.getElem_cons_succ])
                refine wpAnyH_ready (rs := [9]) (by kernel_rfl) (by simp) ?_; refine AllReadyH.cons (by simp only [List.getElem?_toArray, List.getElem?_cons_zero, List.getElem?_cons_succ]; rfl) (fun K hK => ?_) AllReadyH.nil
                rw [if_pos (by rfl)]; go_wp2_with fail
                refine (CMX.out V0).mono ?_
                rintro e W6 ⟨rfl, hbn⟩
                have HB6 := Lib.hid (bR.st hbn)
                go_wp2_with fail
                refine hK.out _ _ (KX.out _ HB6.out) (fun hHeld => ?_); clear hK K; (try simp only [Act.put, List.setIfInBounds_toArray, List.set_cons_zero, List.set_cons_succ, List.getElem_toArray, List.getElem_cons_zero, List.getElem_cons_succ])
                refine wpAnyH_take (i := 10) (v := ?_) (by simp only [List.getElem?_toArray, List.getElem?_cons_zero, List.getElem?_cons_succ]; rfl) (by kernel_rfl) (by kernel_rfl) (by kernel_rfl) (by intro _ _ _ h; exact h) (Or.inl ⟨by rfl, ?_⟩) (by assumption) ?_; rotate_left; (focus (intro w1 hSw; (try dsimp only at hSw); go_simp; (try with_reducible rfl))); (try simp only [Act.put, List.setIfInBounds_toArray, List.set_cons_zero, List.set_cons_succ, List.getElem_toArray, List.getElem_cons_zero, List.getElem_cons_succ])
                refine wpAnyH_done (by kernel_rfl) ?_ _
                have HB6I := Lib.hid (HBIJ.out.st HB6.out)
                clear hHeld hSS bR hbn CMX KX
                cases hmat : matB c x.c
                · have HN : Hid (reachB caps cs i (j + 1) = rb) := Lib.hid (by rw [HRS.out, hmat]; simp)
                  clear hmat
                  go_wp2_with fail
                  go_roundw
                  case rel => exact ⟨j + 1, HJ.out, by go_num, by rw [HN.out], HB6I.out⟩
                  case measure => have := HJ.out; simp [RowKit.intOf]; omega
                · have HRS1 := HRS.out
                  rw [hmat, Bool.true_and] at HRS1
                  have HRS1 := Lib.hid HRS1
                  clear hmat HRS
                  go_wp2_with fail
                  have HB6W := Lib.hid (HBWJ.out.st HB6.out)
                  have HB6X := Lib.hid (HBI.out.st HB6I.out)
                  obtain ⟨p, hpe⟩ : ∃ p, perN c.days x.c.tm = p := ⟨_, rfl⟩
                  rw [hpe] at HRS1
                  have HPE := Lib.hid hpe
                  have CPX := Lib.hid (fun (X : World) (hX : Below w.heap.size w X) => cper_any c.name c.sys c.days c.ct x.c.tm (HM.out.st hX HM.out.1))
                  rw [hpe] at CPX
                  clear hpe
                  go_loopw [17, 16] (fun sm ss wr => ∃ m : Nat, m ≤ l.length ∧ sm = .int .i64 m ∧ ss = .int .i64 (sumC caps cs c p m) ∧ Below W6.heap.size W6 wr) (fun sm _ _ => l.length - (RowKit.intOf sm).toNat)
                  case atStart => exact ⟨0, Nat.zero_le _, rfl, rfl, Below.refl _ _⟩
                  case round =>
                    obtain ⟨wm, hwm⟩ : ∃ x, x = wr := ⟨_, rfl⟩
                    rw [← hwm] at hrel ⊢
                    clear hwm wr
                    obtain ⟨m, hm0, rfl, rfl, hbm⟩ := hrel
                    have m1 : (0 : Int) ≤ (m : Int) := by omega
                    have HBM6 := Lib.hid hbm
                    have HBWM := Lib.hid (HB6W.out.st hbm)
                    have HBMI := Lib.hid (HB6I.out.st hbm)
                    have HBMJ := Lib.hid (HB6.out.st hbm)
                    have HBM5 := Lib.hid (HB6X.out.st hbm)
                    have BP := HBP5.out.below HBM5.out HBP5.out.lt
                    have hsb := sumC_bnd HNC.out HNX.out c p m (by rw [HLEN.out]; exact hm0)
                    have hff := HFF.out
                    have f0 := (HBMJ.out.cell (p := ⟨kb, ko + j * 4, none⟩) hff.1).trans hff.2.1
                    have f1 := (HBMJ.out.cell (p := ⟨kb, ko + j * 4 + 1, none⟩) hff.1).trans hff.2.2.1
                    have f2 := (HBMJ.out.cell (p := ⟨kb, ko + j * 4 + 2, none⟩) hff.1).trans hff.2.2.2.1
                    have f3 := (HBMJ.out.cell (p := ⟨kb, ko + j * 4 + 3, none⟩) hff.1).trans hff.2.2.2.2
                    have g14 : wm.cell? ⟨w.heap.size, 14, none⟩ = some (.slice (some ⟨kb, ko, none⟩) caps.length cc) := by rw [← HKA.out]; exact BP.cell 14 rfl
                    obtain ⟨s, hs⟩ : ∃ s, sumC caps cs c p m = s := ⟨_, rfl⟩
                    rw [hs] at hsb ⊢
                    have HSM := Lib.hid hs
                    clear hs hff hbm
                    by_cases hmi : m < l.length
                    · have m2 : (m : Int) < (l.length : Int) := by omega
                      have HMI := Lib.hid hmi
                      obtain ⟨lb', lo', y, hgA, hlb', hyx, y0, y1, y2, y3, y4, y5, y6⟩ := (HRL5.out.st HBM5.out).cg hmi
                      obtain ⟨pb', po', z, hrA, hpb', hzz, hzc⟩ := (HRP.out.st HBM5.out).at_ (i := m) (by rw [HRL0.out]; exact hmi)
                      injection hgA with hgA
                      injection hgA with u1 u2
                      subst u1 u2
                      injection hrA with hrA
                      injection hrA with u1 u2
                      subst u1 u2
                      have hpd := HPD.out m (by rw [HLEN.out]; exact hmi)
                      rw [hzz] at hpd
                      have hqb := pdAt_bnd HNC.out (fun x hx => (HNX.out x hx).1) (show m < cs.length by rw [HLEN.out]; exact hmi)
                      have hqx := (HNX.out _ (chAt_mem (show m < cs.length by rw [HLEN.out]; exact hmi))).2
                      obtain rfl := Option.some.inj hpd
                      have z0 := hzc 0 (.int .i64 (pdAt caps cs m)) rfl
                      simp only [Nat.mul_one, Nat.add_zero] at z0
                      obtain ⟨q, hq⟩ : ∃ q, pdAt caps cs m = q := ⟨_, rfl⟩
                      rw [hq] at z0 hqb
                      have HQ := Lib.hid hq
                      have HZ0 := Lib.hid z0
                      have HPB := Lib.hid hpb'
                      have hch : chAt cs m = y.c := chAt_of (HCS.out m y hyx)
                      have w1 : IntKind.i64.wrap (s + q) = s + q := IntWalk.i64_in _ (by omega)
                      have KM : Hid (∀ X, Below wm.heap.size wm X → (fun w' : World => w'.cell? ⟨w.heap.size, 14, none⟩ = some (.slice (some ⟨kb, ko, none⟩) caps.length cc) ∧ w'.cell? ⟨kb, ko + j * 4, none⟩ = some (.string c.name) ∧ w'.cell? ⟨kb, ko + j * 4 + 1, none⟩ = some (.string c.sys) ∧ w'.cell? ⟨kb, ko + j * 4 + 2, none⟩ = some (.int .i64 c.days) ∧ w'.cell? ⟨kb, ko + j * 4 + 3, none⟩ = some (.int .i64 c.ct) ∧ w'.cell? ⟨lb, lo + i * 7 + 4, none⟩ = some (.int .i64 x.c.tm) ∧ w'.cell? ⟨lb, lo + m * 7, none⟩ = some (.string y.c.key) ∧ w'.cell? ⟨lb, lo + m * 7 + 1, none⟩ = some (.string y.c.veh) ∧ w'.cell? ⟨lb, lo + m * 7 + 2, none⟩ = some (.string y.c.sys) ∧ w'.cell? ⟨lb, lo + m * 7 + 3, none⟩ = some (.int .i64 y.c.cls) ∧ w'.cell? ⟨lb, lo + m * 7 + 4, none⟩ = some (.int .i64 y.c.tm) ∧ w'.cell? ⟨lb, lo + m * 7 + 5, none⟩ = some (.slice y.lA y.c.lns.length y.lc) ∧ w'.cell? ⟨lb, lo + m * 7 + 6, none⟩ = some (.int .i64 y.c.ct)) X) := Lib.hid (fun X hX => by
                        have tr : ∀ o (v : Value), wm.cell? ⟨lb, o, none⟩ = some v → X.cell? ⟨lb, o, none⟩ = some v := fun o v hv => (hX.cell (p := ⟨lb, o, none⟩) hlb').trans hv
                        have tk : ∀ o (v : Value), wm.cell? ⟨kb, o, none⟩ = some v → X.cell? ⟨kb, o, none⟩ = some v := fun o v hv => (hX.cell (p := ⟨kb, o, none⟩) (Nat.lt_of_lt_of_le HFF.out.1 HBMJ.out.size)).trans hv
                        exact ⟨by rw [← HKA.out]; exact (BP.below hX BP.lt).cell 14 rfl, tk _ _ f0, tk _ _ f1, tk _ _ f2, tk _ _ f3, ((HBMI.out.st hX).cell (p := ⟨lb, lo + i * 7 + 4, none⟩) HLB.out).trans HEE.out.2.2.2.2.1, tr _ _ y0, tr _ _ y1, tr _ _ y2, tr _ _ y3, tr _ _ y4, tr _ _ y5, tr _ _ y6⟩)
                      have CMY := Lib.hid (fun (X : World) => cmat_any c y.c y.lA y.lc X)
                      have CPY := Lib.hid (fun (X : World) (hX : Below w.heap.size w X) => cper_any c.name c.sys c.days c.ct y.c.tm (HM.out.st hX HM.out.1))
                      have HINP : Hid (inP c p (chAt cs m) = (matB c y.c && decide (perN c.days y.c.tm = p))) := Lib.hid (by unfold inP; rw [hch])
                      obtain ⟨a, haa⟩ : ∃ a, perN c.days y.c.tm = a := ⟨_, rfl⟩
                      rw [haa] at CPY HINP
                      clear hq hch haa hqx hzz hzc hpd hpb' hlb' hyx y0 y1 y2 y3 y4 y5 y6 f0 f1 f2 f3 BP hmi hm0 z0
                      go_upto_region 31 with fail
                      go_cut [180] (fun sv wx => sv = .bool (inP c p (chAt cs m)) ∧ Below wm.heap.size wm wx)
                      case first =>
                        try clear HBW
                        try clear HBP
                        try clear HW2
                        try clear HRL
                        try clear HBW1
                        try clear HBP1
                        try clear HCS
                        try clear HLEN
                        try clear HBW5
                        try clear HBP5
                        try clear HRL5
                        try clear HRP
                        try clear HNC
                        try clear HNX
                        try clear HPD
                        try clear HRL0
                        try clear HBI
                        try clear HBWI
                        try clear HI
                        try clear HRB0
                        try clear HRA
                        try clear n1
                        try clear n2
                        try clear n1z
                        try clear n2z
                        try clear HCH
                        try clear HEE
                        try clear HLB
                        try clear HBJ
                        try clear HBIJ
                        try clear HBWJ
                        try clear HJ
                        try clear HKA
                        try clear HRS1
                        try clear HCM
                        try clear HFF
                        try clear HB6
                        try clear HB6I
                        try clear HB6W
                        try clear HB6X
                        try clear HPE
                        try clear HBM6
                        try clear HBMI
                        try clear HBMJ
                        try clear HBM5
                        try clear HSM
                        try clear HMI
                        try clear HQ
                        try clear HZ0
                        try clear HPB
                        try clear w1
                        try clear hsb
                        try clear hqb
                        try clear HC
                        try clear HX
                        try clear HR
                        try clear HO3
                        try clear HBN
                        try clear HOW
                        try clear HLK
                        try clear hl8
                        try clear hz
                        try clear p0
                        try clear e0
                        try clear e1
                        try clear e2
                        try clear e3
                        try clear e4
                        try clear e5
                        try clear e6
                        cases hmy : matB c y.c
                        · rw [hmy] at CMY HINP
                          have HIN : Hid (inP c p (chAt cs m) = false) := Lib.hid (by rw [HINP.out]; rfl)
                          clear hmy HINP
                          (refine wp_region_held_drew (S := (fun w' : World => w'.cell? ⟨w.heap.size, 14, none⟩ = some (.slice (some ⟨kb, ko, none⟩) caps.length cc) ∧ w'.cell? ⟨kb, ko + j * 4, none⟩ = some (.string c.name) ∧ w'.cell? ⟨kb, ko + j * 4 + 1, none⟩ = some (.string c.sys) ∧ w'.cell? ⟨kb, ko + j * 4 + 2, none⟩ = some (.int .i64 c.days) ∧ w'.cell? ⟨kb, ko + j * 4 + 3, none⟩ = some (.int .i64 c.ct) ∧ w'.cell? ⟨lb, lo + i * 7 + 4, none⟩ = some (.int .i64 x.c.tm) ∧ w'.cell? ⟨lb, lo + m * 7, none⟩ = some (.string y.c.key) ∧ w'.cell? ⟨lb, lo + m * 7 + 1, none⟩ = some (.string y.c.veh) ∧ w'.cell? ⟨lb, lo + m * 7 + 2, none⟩ = some (.string y.c.sys) ∧ w'.cell? ⟨lb, lo + m * 7 + 3, none⟩ = some (.int .i64 y.c.cls) ∧ w'.cell? ⟨lb, lo + m * 7 + 4, none⟩ = some (.int .i64 y.c.tm) ∧ w'.cell? ⟨lb, lo + m * 7 + 5, none⟩ = some (.slice y.lA y.c.lns.length y.lc) ∧ w'.cell? ⟨lb, lo + m * 7 + 6, none⟩ = some (.int .i64 y.c.ct))) (by kernel_rfl) ?_ (fun hHeld => ?_)); (focus exact KM.out _ (Below.refl _ _).drew); (have hSS := KM.out _ (Below.refl (World.heap wm).size wm).drew); (have bR := (Below.refl (World.heap wm).size wm).drew); (obtain ⟨V0, hV0⟩ : ∃ V, World.drew wm = V := ⟨_, rfl⟩); (rw [hV0] at hHeld hSS bR ⊢); (clear hV0 g14); (change wpAnyH _ _ _ _ _ 35 _ _ _); refine wpAnyH_take (i := 0) (v := ?_) (by simp only [List.getElem?_toArray, List.getElem?_cons_zero, List.getElem?_cons_succ]; rfl) (by kernel_rfl) (by kernel_rfl) (by kernel_rfl) (by intro _ _ _ h; exact h) (Or.inl ⟨by rfl, ?_⟩) (by assumption) ?_; rotate_left; (focus (intro w1 hSw; (try dsimp only at hSw); go_simp; (try with_reducible rfl))); (try simp only [Act.put, List.setIfInBounds_toArray, List.set_cons_zero, List.set_cons_succ, List.getElem_toArray, List.getElem_cons_zero, List.getElem_cons_succ]); refine wpAnyH_take (i := 1) (v := ?_) (by simp only [List.getElem?_toArray, List.getElem?_cons_zero, List.getElem?_cons_succ]; rfl) (by kernel_rfl) (by kernel_rfl) (by kernel_rfl) (by intro _ _ _ h; exact h) (Or.inl ⟨by rfl, ?_⟩) (by assumption) ?_; rotate_left; (focus (intro w1 hSw; (try dsimp only at hSw); go_simp; (try with_reducible rfl))); (try simp only [Act.put, List.setIfInBounds_toArray, List.set_cons_zero, List.set_cons_succ, List.getElem_toArray, List.getElem_cons_zero, List.getElem_cons_succ]); refine wpAnyH_take (i := 2) (v := ?_) (by simp only [List.getElem?_toArray, List.getElem?_cons_zero, List.getElem?_cons_succ]; rfl) (by kernel_rfl) (by kernel_rfl) (by kernel_rfl) (by intro _ _ _ h; exact h) (Or.inl ⟨by rfl, ?_⟩) (by assumption) ?_; rotate_left; (focus (intro w1 hSw; (try dsimp only at hSw); go_simp; (try with_reducible rfl))); (try simp only [Act.put, List.setIfInBounds_toArray, List.set_cons_zero, List.set_cons_succ, List.getElem_toArray, List.getElem_cons_zero, List.getElem_cons_succ]); refine wpAnyH_take (i := 3) (v := ?_) (by simp only [List.getElem?_toArray, List.getElem?_cons_zero, List.getElem?_cons_succ]; rfl) (by kernel_rfl) (by kernel_rfl) (by kernel_rfl) (by intro _ _ _ h; exact h) (Or.inl ⟨by rfl, ?_⟩) (by assumption) ?_; rotate_left; (focus (intro w1 hSw; (try dsimp only at hSw); go_simp; (try with_reducible rfl))); (try simp only [Act.put, List.setIfInBounds_toArray, List.set_cons_zero, List.set_cons_succ, List.getElem_toArray, List.getElem_cons_zero, List.getElem_cons_succ]); refine wpAnyH_take (i := 4) (v := ?_) (by simp only [List.getElem?_toArray, List.getElem?_cons_zero, List.getElem?_cons_succ]; rfl) (by kernel_rfl) (by kernel_rfl) (by kernel_rfl) (by intro _ _ _ h; exact h) (Or.inl ⟨by rfl, ?_⟩) (by assumption) ?_; rotate_left; (focus (intro w1 hSw; (try dsimp only at hSw); go_simp; (try with_reducible rfl))); (try simp only [Act.put, List.setIfInBounds_toArray, List.set_cons_zero, List.set_cons_succ, List.getElem_toArray, List.getElem_cons_zero, List.getElem_cons_succ]); refine wpAnyH_take (i := 5) (v := ?_) (by simp only [List.getElem?_toArray, List.getElem?_cons_zero, List.getElem?_cons_succ]; rfl) (by kernel_rfl) (by kernel_rfl) (by kernel_rfl) (by intro _ _ _ h; exact h) (Or.inl ⟨by rfl, ?_⟩) (by assumption) ?_; rotate_left; (focus (intro w1 hSw; (try dsimp only at hSw); go_simp; (try with_reducible rfl))); (try simp only [Act.put, List.setIfInBounds_toArray, List.set_cons_zero, List.set_cons_succ, List.getElem_toArray, List.getElem_cons_zero, List.getElem_cons_succ]); refine wpAnyH_take (i := 6) (v := ?_) (by simp only [List.getElem?_toArray, List.getElem?_cons_zero, List.getElem?_cons_succ]; rfl) (by kernel_rfl) (by kernel_rfl) (by kernel_rfl) (by intro _ _ _ h; exact h) (Or.inl ⟨by rfl, ?_⟩) (by assumption) ?_; rotate_left; (focus (intro w1 hSw; (try dsimp only at hSw); go_simp; (try with_reducible rfl))); (try simp only [Act.put, List.setIfInBounds_toArray, List.set_cons_zero, List.set_cons_succ, List.getElem_toArray, List.getElem_cons_zero, List.getElem_cons_succ]); refine wpAnyH_take (i := 7) (v := ?_) (by simp only [List.getElem?_toArray, List.getElem?_cons_zero, List.getElem?_cons_succ]; rfl) (by kernel_rfl) (by kernel_rfl) (by kernel_rfl) (by intro _ _ _ h; exact h) (Or.inl ⟨by rfl, ?_⟩) (by assumption) ?_; rotate_left; (focus (intro w1 hSw; (try dsimp only at hSw); go_simp; (try with_reducible rfl))); (try simp only [Act.put, List.setIfInBounds_toArray, List.set_cons_zero, List.set_cons_succ, List.getElem_toArray, List.getElem_cons_zero, List.getElem_cons_succ]); refine wpAnyH_take (i := 8) (v := ?_) (by simp only [List.getElem?_toArray, List.getElem?_cons_zero, List.getElem?_cons_succ]; rfl) (by kernel_rfl) (by kernel_rfl) (by kernel_rfl) (by intro _ _ _ h; exact h) (Or.inl ⟨by rfl, ?_⟩) (by assumption) ?_; rotate_left; (focus (intro w1 hSw; (try dsimp only at hSw); go_simp; (try with_reducible rfl))); (try simp only [Act.put, List.setIfInBounds_toArray, List.set_cons_zero, List.set_cons_succ, List.getElem_toArray, List.getElem_cons_zero, List.getElem_cons_succ]); refine wpAnyH_ready (rs := [9]) (by kernel_rfl) (by simp) ?_; refine AllReadyH.cons (by simp only [List.getElem?_toArray, List.getElem?_cons_zero, List.getElem?_cons_succ]; rfl) (fun K hK => ?_) AllReadyH.nil; rw [if_pos (by rfl)]; go_wp2_with fail; (refine (CMY.out V0).mono ?_); (rintro e W7 ⟨rfl, hbn⟩); (have bR := bR.st hbn); (go_wp2_with fail); refine hK.out _ _ (KM.out _ bR) (fun hHeld => ?_); clear hK K; (try simp only [Act.put, List.setIfInBounds_toArray, List.set_cons_zero, List.set_cons_succ, List.getElem_toArray, List.getElem_cons_zero, List.getElem_cons_succ]); (clear hbn); refine wpAnyH_take (i := 10) (v := ?_) (by simp only [List.getElem?_toArray, List.getElem?_cons_zero, List.getElem?_cons_succ]; rfl) (by kernel_rfl) (by kernel_rfl) (by kernel_rfl) (by intro _ _ _ h; exact h) (Or.inl ⟨by rfl, ?_⟩) (by assumption) ?_; rotate_left; (focus (intro w1 hSw; (try dsimp only at hSw); go_simp; (try with_reducible rfl))); (try simp only [Act.put, List.setIfInBounds_toArray, List.set_cons_zero, List.set_cons_succ, List.getElem_toArray, List.getElem_cons_zero, List.getElem_cons_succ])
                          refine wpAnyH_take (i := 11) (v := undef) (by simp only [List.getElem?_toArray, List.getElem?_cons_zero, List.getElem?_cons_succ]; rfl) (by kernel_rfl) (by kernel_rfl) (by kernel_rfl) (by intro _ _ _ h; exact h) (Or.inr ⟨by rfl, rfl⟩) (by assumption) ?_; (try simp only [Act.put, List.setIfInBounds_toArray, List.set_cons_zero, List.set_cons_succ, List.getElem_toArray, List.getElem_cons_zero, List.getElem_cons_succ])
                          refine wpAnyH_take (i := 12) (v := undef) (by simp only [List.getElem?_toArray, List.getElem?_cons_zero, List.getElem?_cons_succ]; rfl) (by kernel_rfl) (by kernel_rfl) (by kernel_rfl) (by intro _ _ _ h; exact h) (Or.inr ⟨by rfl, rfl⟩) (by assumption) ?_; (try simp only [Act.put, List.setIfInBounds_toArray, List.set_cons_zero, List.set_cons_succ, List.getElem_toArray, List.getElem_cons_zero, List.getElem_cons_succ])
                          refine wpAnyH_take (i := 13) (v := undef) (by simp only [List.getElem?_toArray, List.getElem?_cons_zero, List.getElem?_cons_succ]; rfl) (by kernel_rfl) (by kernel_rfl) (by kernel_rfl) (by intro _ _ _ h; exact h) (Or.inr ⟨by rfl, rfl⟩) (by assumption) ?_; (try simp only [Act.put, List.setIfInBounds_toArray, List.set_cons_zero, List.set_cons_succ, List.getElem_toArray, List.getElem_cons_zero, List.getElem_cons_succ])
                          refine wpAnyH_take (i := 14) (v := undef) (by simp only [List.getElem?_toArray, List.getElem?_cons_zero, List.getElem?_cons_succ]; rfl) (by kernel_rfl) (by kernel_rfl) (by kernel_rfl) (by intro _ _ _ h; exact h) (Or.inr ⟨by rfl, rfl⟩) (by assumption) ?_; (try simp only [Act.put, List.setIfInBounds_toArray, List.set_cons_zero, List.set_cons_succ, List.getElem_toArray, List.getElem_cons_zero, List.getElem_cons_succ])
                          refine wpAnyH_take (i := 15) (v := undef) (by simp only [List.getElem?_toArray, List.getElem?_cons_zero, List.getElem?_cons_succ]; rfl) (by kernel_rfl) (by kernel_rfl) (by kernel_rfl) (by intro _ _ _ h; exact h) (Or.inr ⟨by rfl, rfl⟩) (by assumption) ?_; (try simp only [Act.put, List.setIfInBounds_toArray, List.set_cons_zero, List.set_cons_succ, List.getElem_toArray, List.getElem_cons_zero, List.getElem_cons_succ])
                          refine wpAnyH_take (i := 16) (v := undef) (by simp only [List.getElem?_toArray, List.getElem?_cons_zero, List.getElem?_cons_succ]; rfl) (by kernel_rfl) (by kernel_rfl) (by kernel_rfl) (by intro _ _ _ h; exact h) (Or.inr ⟨by rfl, rfl⟩) (by assumption) ?_; (try simp only [Act.put, List.setIfInBounds_toArray, List.set_cons_zero, List.set_cons_succ, List.getElem_toArray, List.getElem_cons_zero, List.getElem_cons_succ])
                          refine wpAnyH_take (i := 17) (v := undef) (by simp only [List.getElem?_toArray, List.getElem?_cons_zero, List.getElem?_cons_succ]; rfl) (by kernel_rfl) (by kernel_rfl) (by kernel_rfl) (by intro _ _ _ h; exact h) (Or.inr ⟨by rfl, rfl⟩) (by assumption) ?_; (try simp only [Act.put, List.setIfInBounds_toArray, List.set_cons_zero, List.set_cons_succ, List.getElem_toArray, List.getElem_cons_zero, List.getElem_cons_succ])
                          refine wpAnyH_take (i := 18) (v := undef) (by simp only [List.getElem?_toArray, List.getElem?_cons_zero, List.getElem?_cons_succ]; rfl) (by kernel_rfl) (by kernel_rfl) (by kernel_rfl) (by intro _ _ _ h; exact h) (Or.inr ⟨by rfl, rfl⟩) (by assumption) ?_; (try simp only [Act.put, List.setIfInBounds_toArray, List.set_cons_zero, List.set_cons_succ, List.getElem_toArray, List.getElem_cons_zero, List.getElem_cons_succ])
                          refine wpAnyH_take (i := 19) (v := undef) (by simp only [List.getElem?_toArray, List.getElem?_cons_zero, List.getElem?_cons_succ]; rfl) (by kernel_rfl) (by kernel_rfl) (by kernel_rfl) (by intro _ _ _ h; exact h) (Or.inr ⟨by rfl, rfl⟩) (by assumption) ?_; (try simp only [Act.put, List.setIfInBounds_toArray, List.set_cons_zero, List.set_cons_succ, List.getElem_toArray, List.getElem_cons_zero, List.getElem_cons_succ])
                          refine wpAnyH_take (i := 20) (v := undef) (by simp only [List.getElem?_toArray, List.getElem?_cons_zero, List.getElem?_cons_succ]; rfl) (by kernel_rfl) (by kernel_rfl) (by kernel_rfl) (by intro _ _ _ h; exact h) (Or.inr ⟨by rfl, rfl⟩) (by assumption) ?_; (try simp only [Act.put, List.setIfInBounds_toArray, List.set_cons_zero, List.set_cons_succ, List.getElem_toArray, List.getElem_cons_zero, List.getElem_cons_succ])
                          refine wpAnyH_take (i := 21) (v := undef) (by simp only [List.getElem?_toArray, List.getElem?_cons_zero, List.getElem?_cons_succ]; rfl) (by kernel_rfl) (by kernel_rfl) (by kernel_rfl) (by intro _ _ _ h; exact h) (Or.inr ⟨by rfl, rfl⟩) (by assumption) ?_; (try simp only [Act.put, List.setIfInBounds_toArray, List.set_cons_zero, List.set_cons_succ, List.getElem_toArray, List.getElem_cons_zero, List.getElem_cons_succ])
                          refine wpAnyH_take (i := 22) (v := undef) (by simp only [List.getElem?_toArray, List.getElem?_cons_zero, List.getElem?_cons_succ]; rfl) (by kernel_rfl) (by kernel_rfl) (by kernel_rfl) (by intro _ _ _ h; exact h) (Or.inr ⟨by rfl, rfl⟩) (by assumption) ?_; (try simp only [Act.put, List.setIfInBounds_toArray, List.set_cons_zero, List.set_cons_succ, List.getElem_toArray, List.getElem_cons_zero, List.getElem_cons_succ])
                          refine wpAnyH_take (i := 23) (v := undef) (by simp only [List.getElem?_toArray, List.getElem?_cons_zero, List.getElem?_cons_succ]; rfl) (by kernel_rfl) (by kernel_rfl) (by kernel_rfl) (by intro _ _ _ h; exact h) (Or.inr ⟨by rfl, rfl⟩) (by assumption) ?_; (try simp only [Act.put, List.setIfInBounds_toArray, List.set_cons_zero, List.set_cons_succ, List.getElem_toArray, List.getElem_cons_zero, List.getElem_cons_succ])
                          refine wpAnyH_take (i := 24) (v := undef) (by simp only [List.getElem?_toArray, List.getElem?_cons_zero, List.getElem?_cons_succ]; rfl) (by kernel_rfl) (by kernel_rfl) (by kernel_rfl) (by intro _ _ _ h; exact h) (Or.inr ⟨by rfl, rfl⟩) (by assumption) ?_; (try simp only [Act.put, List.setIfInBounds_toArray, List.set_cons_zero, List.set_cons_succ, List.getElem_toArray, List.getElem_cons_zero, List.getElem_cons_succ])
                          refine wpAnyH_take (i := 25) (v := undef) (by simp only [List.getElem?_toArray, List.getElem?_cons_zero, List.getElem?_cons_succ]; rfl) (by kernel_rfl) (by kernel_rfl) (by kernel_rfl) (by intro _ _ _ h; exact h) (Or.inr ⟨by rfl, rfl⟩) (by assumption) ?_; (try simp only [Act.put, List.setIfInBounds_toArray, List.set_cons_zero, List.set_cons_succ, List.getElem_toArray, List.getElem_cons_zero, List.getElem_cons_succ])
                          refine wpAnyH_take (i := 26) (v := undef) (by simp only [List.getElem?_toArray, List.getElem?_cons_zero, List.getElem?_cons_succ]; rfl) (by kernel_rfl) (by kernel_rfl) (by kernel_rfl) (by intro _ _ _ h; exact h) (Or.inr ⟨by rfl, rfl⟩) (by assumption) ?_; (try simp only [Act.put, List.setIfInBounds_toArray, List.set_cons_zero, List.set_cons_succ, List.getElem_toArray, List.getElem_cons_zero, List.getElem_cons_succ])
                          refine wpAnyH_take (i := 27) (v := undef) (by simp only [List.getElem?_toArray, List.getElem?_cons_zero, List.getElem?_cons_succ]; rfl) (by kernel_rfl) (by kernel_rfl) (by kernel_rfl) (by intro _ _ _ h; exact h) (Or.inr ⟨by rfl, rfl⟩) (by assumption) ?_; (try simp only [Act.put, List.setIfInBounds_toArray, List.set_cons_zero, List.set_cons_succ, List.getElem_toArray, List.getElem_cons_zero, List.getElem_cons_succ])
                          refine wpAnyH_take (i := 28) (v := undef) (by simp only [List.getElem?_toArray, List.getElem?_cons_zero, List.getElem?_cons_succ]; rfl) (by kernel_rfl) (by kernel_rfl) (by kernel_rfl) (by intro _ _ _ h; exact h) (Or.inr ⟨by rfl, rfl⟩) (by assumption) ?_; (try simp only [Act.put, List.setIfInBounds_toArray, List.set_cons_zero, List.set_cons_succ, List.getElem_toArray, List.getElem_cons_zero, List.getElem_cons_succ])
                          refine wpAnyH_take (i := 29) (v := undef) (by simp only [List.getElem?_toArray, List.getElem?_cons_zero, List.getElem?_cons_succ]; rfl) (by kernel_rfl) (by kernel_rfl) (by kernel_rfl) (by intro _ _ _ h; exact h) (Or.inr ⟨by rfl, rfl⟩) (by assumption) ?_; (try simp only [Act.put, List.setIfInBounds_toArray, List.set_cons_zero, List.set_cons_succ, List.getElem_toArray, List.getElem_cons_zero, List.getElem_cons_succ])
                          refine wpAnyH_take (i := 30) (v := undef) (by simp only [List.getElem?_toArray, List.getElem?_cons_zero, List.getElem?_cons_succ]; rfl) (by kernel_rfl) (by kernel_rfl) (by kernel_rfl) (by intro _ _ _ h; exact h) (Or.inr ⟨by rfl, rfl⟩) (by assumption) ?_; (try simp only [Act.put, List.setIfInBounds_toArray, List.set_cons_zero, List.set_cons_succ, List.getElem_toArray, List.getElem_cons_zero, List.getElem_cons_succ])
                          refine wpAnyH_take (i := 31) (v := undef) (by simp only [List.getElem?_toArray, List.getElem?_cons_zero, List.getElem?_cons_succ]; rfl) (by kernel_rfl) (by kernel_rfl) (by kernel_rfl) (by intro _ _ _ h; exact h) (Or.inr ⟨by rfl, rfl⟩) (by assumption) ?_; (try simp only [Act.put, List.setIfInBounds_toArray, List.set_cons_zero, List.set_cons_succ, List.getElem_toArray, List.getElem_cons_zero, List.getElem_cons_succ])
                          refine wpAnyH_take (i := 32) (v := undef) (by simp only [List.getElem?_toArray, List.getElem?_cons_zero, List.getElem?_cons_succ]; rfl) (by kernel_rfl) (by kernel_rfl) (by kernel_rfl) (by intro _ _ _ h; exact h) (Or.inr ⟨by rfl, rfl⟩) (by assumption) ?_; (try simp only [Act.put, List.setIfInBounds_toArray, List.set_cons_zero, List.set_cons_succ, List.getElem_toArray, List.getElem_cons_zero, List.getElem_cons_succ])
                          refine wpAnyH_take (i := 33) (v := undef) (by simp only [List.getElem?_toArray, List.getElem?_cons_zero, List.getElem?_cons_succ]; rfl) (by kernel_rfl) (by kernel_rfl) (by kernel_rfl) (by intro _ _ _ h; exact h) (Or.inr ⟨by rfl, rfl⟩) (by assumption) ?_; (try simp only [Act.put, List.setIfInBounds_toArray, List.set_cons_zero, List.set_cons_succ, List.getElem_toArray, List.getElem_cons_zero, List.getElem_cons_succ])
                          refine wpAnyH_take (i := 34) (v := ?_) (by simp only [List.getElem?_toArray, List.getElem?_cons_zero, List.getElem?_cons_succ]; rfl) (by kernel_rfl) (by kernel_rfl) (by kernel_rfl) (by intro _ _ _ h; exact h) (Or.inl ⟨by rfl, ?_⟩) (by assumption) ?_; rotate_left; (focus (intro w1 hSw; (try dsimp only at hSw); go_simp; (try with_reducible rfl))); (try simp only [Act.put, List.setIfInBounds_toArray, List.set_cons_zero, List.set_cons_succ, List.getElem_toArray, List.getElem_cons_zero, List.getElem_cons_succ])
                          refine wpAnyH_done (by kernel_rfl) ?_ _
                          go_wp2_with fail
                          go_meet
                          exact ⟨by rw [HIN.out], bR⟩
                        · rw [hmy] at CMY HINP
                          have HIN : Hid (inP c p (chAt cs m) = (a == p)) := Lib.hid (by rw [HINP.out, Bool.true_and]; rfl)
                          clear hmy HINP
                          (refine wp_region_held_drew (S := (fun w' : World => w'.cell? ⟨w.heap.size, 14, none⟩ = some (.slice (some ⟨kb, ko, none⟩) caps.length cc) ∧ w'.cell? ⟨kb, ko + j * 4, none⟩ = some (.string c.name) ∧ w'.cell? ⟨kb, ko + j * 4 + 1, none⟩ = some (.string c.sys) ∧ w'.cell? ⟨kb, ko + j * 4 + 2, none⟩ = some (.int .i64 c.days) ∧ w'.cell? ⟨kb, ko + j * 4 + 3, none⟩ = some (.int .i64 c.ct) ∧ w'.cell? ⟨lb, lo + i * 7 + 4, none⟩ = some (.int .i64 x.c.tm) ∧ w'.cell? ⟨lb, lo + m * 7, none⟩ = some (.string y.c.key) ∧ w'.cell? ⟨lb, lo + m * 7 + 1, none⟩ = some (.string y.c.veh) ∧ w'.cell? ⟨lb, lo + m * 7 + 2, none⟩ = some (.string y.c.sys) ∧ w'.cell? ⟨lb, lo + m * 7 + 3, none⟩ = some (.int .i64 y.c.cls) ∧ w'.cell? ⟨lb, lo + m * 7 + 4, none⟩ = some (.int .i64 y.c.tm) ∧ w'.cell? ⟨lb, lo + m * 7 + 5, none⟩ = some (.slice y.lA y.c.lns.length y.lc) ∧ w'.cell? ⟨lb, lo + m * 7 + 6, none⟩ = some (.int .i64 y.c.ct))) (by kernel_rfl) ?_ (fun hHeld => ?_)); (focus exact KM.out _ (Below.refl _ _).drew); (have hSS := KM.out _ (Below.refl (World.heap wm).size wm).drew); (have bR := (Below.refl (World.heap wm).size wm).drew); (obtain ⟨V0, hV0⟩ : ∃ V, World.drew wm = V := ⟨_, rfl⟩); (rw [hV0] at hHeld hSS bR ⊢); (clear hV0 g14); (change wpAnyH _ _ _ _ _ 35 _ _ _); refine wpAnyH_take (i := 0) (v := ?_) (by simp only [List.getElem?_toArray, List.getElem?_cons_zero, List.getElem?_cons_succ]; rfl) (by kernel_rfl) (by kernel_rfl) (by kernel_rfl) (by intro _ _ _ h; exact h) (Or.inl ⟨by rfl, ?_⟩) (by assumption) ?_; rotate_left; (focus (intro w1 hSw; (try dsimp only at hSw); go_simp; (try with_reducible rfl))); (try simp only [Act.put, List.setIfInBounds_toArray, List.set_cons_zero, List.set_cons_succ, List.getElem_toArray, List.getElem_cons_zero, List.getElem_cons_succ]); refine wpAnyH_take (i := 1) (v := ?_) (by simp only [List.getElem?_toArray, List.getElem?_cons_zero, List.getElem?_cons_succ]; rfl) (by kernel_rfl) (by kernel_rfl) (by kernel_rfl) (by intro _ _ _ h; exact h) (Or.inl ⟨by rfl, ?_⟩) (by assumption) ?_; rotate_left; (focus (intro w1 hSw; (try dsimp only at hSw); go_simp; (try with_reducible rfl))); (try simp only [Act.put, List.setIfInBounds_toArray, List.set_cons_zero, List.set_cons_succ, List.getElem_toArray, List.getElem_cons_zero, List.getElem_cons_succ]); refine wpAnyH_take (i := 2) (v := ?_) (by simp only [List.getElem?_toArray, List.getElem?_cons_zero, List.getElem?_cons_succ]; rfl) (by kernel_rfl) (by kernel_rfl) (by kernel_rfl) (by intro _ _ _ h; exact h) (Or.inl ⟨by rfl, ?_⟩) (by assumption) ?_; rotate_left; (focus (intro w1 hSw; (try dsimp only at hSw); go_simp; (try with_reducible rfl))); (try simp only [Act.put, List.setIfInBounds_toArray, List.set_cons_zero, List.set_cons_succ, List.getElem_toArray, List.getElem_cons_zero, List.getElem_cons_succ]); refine wpAnyH_take (i := 3) (v := ?_) (by simp only [List.getElem?_toArray, List.getElem?_cons_zero, List.getElem?_cons_succ]; rfl) (by kernel_rfl) (by kernel_rfl) (by kernel_rfl) (by intro _ _ _ h; exact h) (Or.inl ⟨by rfl, ?_⟩) (by assumption) ?_; rotate_left; (focus (intro w1 hSw; (try dsimp only at hSw); go_simp; (try with_reducible rfl))); (try simp only [Act.put, List.setIfInBounds_toArray, List.set_cons_zero, List.set_cons_succ, List.getElem_toArray, List.getElem_cons_zero, List.getElem_cons_succ]); refine wpAnyH_take (i := 4) (v := ?_) (by simp only [List.getElem?_toArray, List.getElem?_cons_zero, List.getElem?_cons_succ]; rfl) (by kernel_rfl) (by kernel_rfl) (by kernel_rfl) (by intro _ _ _ h; exact h) (Or.inl ⟨by rfl, ?_⟩) (by assumption) ?_; rotate_left; (focus (intro w1 hSw; (try dsimp only at hSw); go_simp; (try with_reducible rfl))); (try simp only [Act.put, List.setIfInBounds_toArray, List.set_cons_zero, List.set_cons_succ, List.getElem_toArray, List.getElem_cons_zero, List.getElem_cons_succ]); refine wpAnyH_take (i := 5) (v := ?_) (by simp only [List.getElem?_toArray, List.getElem?_cons_zero, List.getElem?_cons_succ]; rfl) (by kernel_rfl) (by kernel_rfl) (by kernel_rfl) (by intro _ _ _ h; exact h) (Or.inl ⟨by rfl, ?_⟩) (by assumption) ?_; rotate_left; (focus (intro w1 hSw; (try dsimp only at hSw); go_simp; (try with_reducible rfl))); (try simp only [Act.put, List.setIfInBounds_toArray, List.set_cons_zero, List.set_cons_succ, List.getElem_toArray, List.getElem_cons_zero, List.getElem_cons_succ]); refine wpAnyH_take (i := 6) (v := ?_) (by simp only [List.getElem?_toArray, List.getElem?_cons_zero, List.getElem?_cons_succ]; rfl) (by kernel_rfl) (by kernel_rfl) (by kernel_rfl) (by intro _ _ _ h; exact h) (Or.inl ⟨by rfl, ?_⟩) (by assumption) ?_; rotate_left; (focus (intro w1 hSw; (try dsimp only at hSw); go_simp; (try with_reducible rfl))); (try simp only [Act.put, List.setIfInBounds_toArray, List.set_cons_zero, List.set_cons_succ, List.getElem_toArray, List.getElem_cons_zero, List.getElem_cons_succ]); refine wpAnyH_take (i := 7) (v := ?_) (by simp only [List.getElem?_toArray, List.getElem?_cons_zero, List.getElem?_cons_succ]; rfl) (by kernel_rfl) (by kernel_rfl) (by kernel_rfl) (by intro _ _ _ h; exact h) (Or.inl ⟨by rfl, ?_⟩) (by assumption) ?_; rotate_left; (focus (intro w1 hSw; (try dsimp only at hSw); go_simp; (try with_reducible rfl))); (try simp only [Act.put, List.setIfInBounds_toArray, List.set_cons_zero, List.set_cons_succ, List.getElem_toArray, List.getElem_cons_zero, List.getElem_cons_succ]); refine wpAnyH_take (i := 8) (v := ?_) (by simp only [List.getElem?_toArray, List.getElem?_cons_zero, List.getElem?_cons_succ]; rfl) (by kernel_rfl) (by kernel_rfl) (by kernel_rfl) (by intro _ _ _ h; exact h) (Or.inl ⟨by rfl, ?_⟩) (by assumption) ?_; rotate_left; (focus (intro w1 hSw; (try dsimp only at hSw); go_simp; (try with_reducible rfl))); (try simp only [Act.put, List.setIfInBounds_toArray, List.set_cons_zero, List.set_cons_succ, List.getElem_toArray, List.getElem_cons_zero, List.getElem_cons_succ]); refine wpAnyH_ready (rs := [9]) (by kernel_rfl) (by simp) ?_; refine AllReadyH.cons (by simp only [List.getElem?_toArray, List.getElem?_cons_zero, List.getElem?_cons_succ]; rfl) (fun K hK => ?_) AllReadyH.nil; rw [if_pos (by rfl)]; go_wp2_with fail; (refine (CMY.out V0).mono ?_); (rintro e W7 ⟨rfl, hbn⟩); (have bR := bR.st hbn); (go_wp2_with fail); refine hK.out _ _ (KM.out _ bR) (fun hHeld => ?_); clear hK K; (try simp only [Act.put, List.setIfInBounds_toArray, List.set_cons_zero, List.set_cons_succ, List.getElem_toArray, List.getElem_cons_zero, List.getElem_cons_succ]); (clear hbn); refine wpAnyH_take (i := 10) (v := ?_) (by simp only [List.getElem?_toArray, List.getElem?_cons_zero, List.getElem?_cons_succ]; rfl) (by kernel_rfl) (by kernel_rfl) (by kernel_rfl) (by intro _ _ _ h; exact h) (Or.inl ⟨by rfl, ?_⟩) (by assumption) ?_; rotate_left; (focus (intro w1 hSw; (try dsimp only at hSw); go_simp; (try with_reducible rfl))); (try simp only [Act.put, List.setIfInBounds_toArray, List.set_cons_zero, List.set_cons_succ, List.getElem_toArray, List.getElem_cons_zero, List.getElem_cons_succ])
                          refine wpAnyH_take (i := 11) (v := ?_) (by simp only [List.getElem?_toArray, List.getElem?_cons_zero, List.getElem?_cons_succ]; rfl) (by kernel_rfl) (by kernel_rfl) (by kernel_rfl) (by intro _ _ _ h; exact h) (Or.inl ⟨by rfl, ?_⟩) (by assumption) ?_; rotate_left; (focus (intro w1 hSw; (try dsimp only at hSw); go_simp; (try with_reducible rfl))); (try simp only [Act.put, List.setIfInBounds_toArray, List.set_cons_zero, List.set_cons_succ, List.getElem_toArray, List.getElem_cons_zero, List.getElem_cons_succ]); refine wpAnyH_take (i := 12) (v := ?_) (by simp only [List.getElem?_toArray, List.getElem?_cons_zero, List.getElem?_cons_succ]; rfl) (by kernel_rfl) (by kernel_rfl) (by kernel_rfl) (by intro _ _ _ h; exact h) (Or.inl ⟨by rfl, ?_⟩) (by assumption) ?_; rotate_left; (focus (intro w1 hSw; (try dsimp only at hSw); go_simp; (try with_reducible rfl))); (try simp only [Act.put, List.setIfInBounds_toArray, List.set_cons_zero, List.set_cons_succ, List.getElem_toArray, List.getElem_cons_zero, List.getElem_cons_succ]); refine wpAnyH_take (i := 13) (v := ?_) (by simp only [List.getElem?_toArray, List.getElem?_cons_zero, List.getElem?_cons_succ]; rfl) (by kernel_rfl) (by kernel_rfl) (by kernel_rfl) (by intro _ _ _ h; exact h) (Or.inl ⟨by rfl, ?_⟩) (by assumption) ?_; rotate_left; (focus (intro w1 hSw; (try dsimp only at hSw); go_simp; (try with_reducible rfl))); (try simp only [Act.put, List.setIfInBounds_toArray, List.set_cons_zero, List.set_cons_succ, List.getElem_toArray, List.getElem_cons_zero, List.getElem_cons_succ]); refine wpAnyH_take (i := 14) (v := ?_) (by simp only [List.getElem?_toArray, List.getElem?_cons_zero, List.getElem?_cons_succ]; rfl) (by kernel_rfl) (by kernel_rfl) (by kernel_rfl) (by intro _ _ _ h; exact h) (Or.inl ⟨by rfl, ?_⟩) (by assumption) ?_; rotate_left; (focus (intro w1 hSw; (try dsimp only at hSw); go_simp; (try with_reducible rfl))); (try simp only [Act.put, List.setIfInBounds_toArray, List.set_cons_zero, List.set_cons_succ, List.getElem_toArray, List.getElem_cons_zero, List.getElem_cons_succ]); refine wpAnyH_take (i := 15) (v := ?_) (by simp only [List.getElem?_toArray, List.getElem?_cons_zero, List.getElem?_cons_succ]; rfl) (by kernel_rfl) (by kernel_rfl) (by kernel_rfl) (by intro _ _ _ h; exact h) (Or.inl ⟨by rfl, ?_⟩) (by assumption) ?_; rotate_left; (focus (intro w1 hSw; (try dsimp only at hSw); go_simp; (try with_reducible rfl))); (try simp only [Act.put, List.setIfInBounds_toArray, List.set_cons_zero, List.set_cons_succ, List.getElem_toArray, List.getElem_cons_zero, List.getElem_cons_succ]); refine wpAnyH_take (i := 16) (v := ?_) (by simp only [List.getElem?_toArray, List.getElem?_cons_zero, List.getElem?_cons_succ]; rfl) (by kernel_rfl) (by kernel_rfl) (by kernel_rfl) (by intro _ _ _ h; exact h) (Or.inl ⟨by rfl, ?_⟩) (by assumption) ?_; rotate_left; (focus (intro w1 hSw; (try dsimp only at hSw); go_simp; (try with_reducible rfl))); (try simp only [Act.put, List.setIfInBounds_toArray, List.set_cons_zero, List.set_cons_succ, List.getElem_toArray, List.getElem_cons_zero, List.getElem_cons_succ]); refine wpAnyH_take (i := 17) (v := ?_) (by simp only [List.getElem?_toArray, List.getElem?_cons_zero, List.getElem?_cons_succ]; rfl) (by kernel_rfl) (by kernel_rfl) (by kernel_rfl) (by intro _ _ _ h; exact h) (Or.inl ⟨by rfl, ?_⟩) (by assumption) ?_; rotate_left; (focus (intro w1 hSw; (try dsimp only at hSw); go_simp; (try with_reducible rfl))); (try simp only [Act.put, List.setIfInBounds_toArray, List.set_cons_zero, List.set_cons_succ, List.getElem_toArray, List.getElem_cons_zero, List.getElem_cons_succ]); refine wpAnyH_take (i := 18) (v := ?_) (by simp only [List.getElem?_toArray, List.getElem?_cons_zero, List.getElem?_cons_succ]; rfl) (by kernel_rfl) (by kernel_rfl) (by kernel_rfl) (by intro _ _ _ h; exact h) (Or.inl ⟨by rfl, ?_⟩) (by assumption) ?_; rotate_left; (focus (intro w1 hSw; (try dsimp only at hSw); go_simp; (try with_reducible rfl))); (try simp only [Act.put, List.setIfInBounds_toArray, List.set_cons_zero, List.set_cons_succ, List.getElem_toArray, List.getElem_cons_zero, List.getElem_cons_succ]); refine wpAnyH_take (i := 19) (v := ?_) (by simp only [List.getElem?_toArray, List.getElem?_cons_zero, List.getElem?_cons_succ]; rfl) (by kernel_rfl) (by kernel_rfl) (by kernel_rfl) (by intro _ _ _ h; exact h) (Or.inl ⟨by rfl, ?_⟩) (by assumption) ?_; rotate_left; (focus (intro w1 hSw; (try dsimp only at hSw); go_simp; (try with_reducible rfl))); (try simp only [Act.put, List.setIfInBounds_toArray, List.set_cons_zero, List.set_cons_succ, List.getElem_toArray, List.getElem_cons_zero, List.getElem_cons_succ]); refine wpAnyH_take (i := 20) (v := ?_) (by simp only [List.getElem?_toArray, List.getElem?_cons_zero, List.getElem?_cons_succ]; rfl) (by kernel_rfl) (by kernel_rfl) (by kernel_rfl) (by intro _ _ _ h; exact h) (Or.inl ⟨by rfl, ?_⟩) (by assumption) ?_; rotate_left; (focus (intro w1 hSw; (try dsimp only at hSw); go_simp; (try with_reducible rfl))); (try simp only [Act.put, List.setIfInBounds_toArray, List.set_cons_zero, List.set_cons_succ, List.getElem_toArray, List.getElem_cons_zero, List.getElem_cons_succ]); refine wpAnyH_take (i := 22) (v := ?_) (by simp only [List.getElem?_toArray, List.getElem?_cons_zero, List.getElem?_cons_succ]; rfl) (by kernel_rfl) (by kernel_rfl) (by kernel_rfl) (by intro _ _ _ h; exact h) (Or.inl ⟨by rfl, ?_⟩) (by assumption) ?_; rotate_left; (focus (intro w1 hSw; (try dsimp only at hSw); go_simp; (try with_reducible rfl))); (try simp only [Act.put, List.setIfInBounds_toArray, List.set_cons_zero, List.set_cons_succ, List.getElem_toArray, List.getElem_cons_zero, List.getElem_cons_succ]); refine wpAnyH_take (i := 23) (v := ?_) (by simp only [List.getElem?_toArray, List.getElem?_cons_zero, List.getElem?_cons_succ]; rfl) (by kernel_rfl) (by kernel_rfl) (by kernel_rfl) (by intro _ _ _ h; exact h) (Or.inl ⟨by rfl, ?_⟩) (by assumption) ?_; rotate_left; (focus (intro w1 hSw; (try dsimp only at hSw); go_simp; (try with_reducible rfl))); (try simp only [Act.put, List.setIfInBounds_toArray, List.set_cons_zero, List.set_cons_succ, List.getElem_toArray, List.getElem_cons_zero, List.getElem_cons_succ]); refine wpAnyH_take (i := 24) (v := ?_) (by simp only [List.getElem?_toArray, List.getElem?_cons_zero, List.getElem?_cons_succ]; rfl) (by kernel_rfl) (by kernel_rfl) (by kernel_rfl) (by intro _ _ _ h; exact h) (Or.inl ⟨by rfl, ?_⟩) (by assumption) ?_; rotate_left; (focus (intro w1 hSw; (try dsimp only at hSw); go_simp; (try with_reducible rfl))); (try simp only [Act.put, List.setIfInBounds_toArray, List.set_cons_zero, List.set_cons_succ, List.getElem_toArray, List.getElem_cons_zero, List.getElem_cons_succ]); refine wpAnyH_take (i := 25) (v := ?_) (by simp only [List.getElem?_toArray, List.getElem?_cons_zero, List.getElem?_cons_succ]; rfl) (by kernel_rfl) (by kernel_rfl) (by kernel_rfl) (by intro _ _ _ h; exact h) (Or.inl ⟨by rfl, ?_⟩) (by assumption) ?_; rotate_left; (focus (intro w1 hSw; (try dsimp only at hSw); go_simp; (try with_reducible rfl))); (try simp only [Act.put, List.setIfInBounds_toArray, List.set_cons_zero, List.set_cons_succ, List.getElem_toArray, List.getElem_cons_zero, List.getElem_cons_succ]); refine wpAnyH_take (i := 26) (v := ?_) (by simp only [List.getElem?_toArray, List.getElem?_cons_zero, List.getElem?_cons_succ]; rfl) (by kernel_rfl) (by kernel_rfl) (by kernel_rfl) (by intro _ _ _ h; exact h) (Or.inl ⟨by rfl, ?_⟩) (by assumption) ?_; rotate_left; (focus (intro w1 hSw; (try dsimp only at hSw); go_simp; (try with_reducible rfl))); (try simp only [Act.put, List.setIfInBounds_toArray, List.set_cons_zero, List.set_cons_succ, List.getElem_toArray, List.getElem_cons_zero, List.getElem_cons_succ]); refine wpAnyH_take (i := 27) (v := ?_) (by simp only [List.getElem?_toArray, List.getElem?_cons_zero, List.getElem?_cons_succ]; rfl) (by kernel_rfl) (by kernel_rfl) (by kernel_rfl) (by intro _ _ _ h; exact h) (Or.inl ⟨by rfl, ?_⟩) (by assumption) ?_; rotate_left; (focus (intro w1 hSw; (try dsimp only at hSw); go_simp; (try with_reducible rfl))); (try simp only [Act.put, List.setIfInBounds_toArray, List.set_cons_zero, List.set_cons_succ, List.getElem_toArray, List.getElem_cons_zero, List.getElem_cons_succ]); refine wpAnyH_take (i := 28) (v := ?_) (by simp only [List.getElem?_toArray, List.getElem?_cons_zero, List.getElem?_cons_succ]; rfl) (by kernel_rfl) (by kernel_rfl) (by kernel_rfl) (by intro _ _ _ h; exact h) (Or.inl ⟨by rfl, ?_⟩) (by assumption) ?_; rotate_left; (focus (intro w1 hSw; (try dsimp only at hSw); go_simp; (try with_reducible rfl))); (try simp only [Act.put, List.setIfInBounds_toArray, List.set_cons_zero, List.set_cons_succ, List.getElem_toArray, List.getElem_cons_zero, List.getElem_cons_succ]); refine wpAnyH_take (i := 29) (v := ?_) (by simp only [List.getElem?_toArray, List.getElem?_cons_zero, List.getElem?_cons_succ]; rfl) (by kernel_rfl) (by kernel_rfl) (by kernel_rfl) (by intro _ _ _ h; exact h) (Or.inl ⟨by rfl, ?_⟩) (by assumption) ?_; rotate_left; (focus (intro w1 hSw; (try dsimp only at hSw); go_simp; (try with_reducible rfl))); (try simp only [Act.put, List.setIfInBounds_toArray, List.set_cons_zero, List.set_cons_succ, List.getElem_toArray, List.getElem_cons_zero, List.getElem_cons_succ]); refine wpAnyH_take (i := 30) (v := ?_) (by simp only [List.getElem?_toArray, List.getElem?_cons_zero, List.getElem?_cons_succ]; rfl) (by kernel_rfl) (by kernel_rfl) (by kernel_rfl) (by intro _ _ _ h; exact h) (Or.inl ⟨by rfl, ?_⟩) (by assumption) ?_; rotate_left; (focus (intro w1 hSw; (try dsimp only at hSw); go_simp; (try with_reducible rfl))); (try simp only [Act.put, List.setIfInBounds_toArray, List.set_cons_zero, List.set_cons_succ, List.getElem_toArray, List.getElem_cons_zero, List.getElem_cons_succ]); refine wpAnyH_take (i := 31) (v := ?_) (by simp only [List.getElem?_toArray, List.getElem?_cons_zero, List.getElem?_cons_succ]; rfl) (by kernel_rfl) (by kernel_rfl) (by kernel_rfl) (by intro _ _ _ h; exact h) (Or.inl ⟨by rfl, ?_⟩) (by assumption) ?_; rotate_left; (focus (intro w1 hSw; (try dsimp only at hSw); go_simp; (try with_reducible rfl))); (try simp only [Act.put, List.setIfInBounds_toArray, List.set_cons_zero, List.set_cons_succ, List.getElem_toArray, List.getElem_cons_zero, List.getElem_cons_succ]); refine wpAnyH_ready (rs := [21]) (by kernel_rfl) (by simp) ?_; refine AllReadyH.cons (by simp only [List.getElem?_toArray, List.getElem?_cons_zero, List.getElem?_cons_succ]; rfl) (fun K hK => ?_) AllReadyH.nil
                          rw [if_pos (by rfl)]; go_wp2_with fail; (refine ((CPY).out _ (HBWM.out.st bR)).mono ?_); (rintro e W8 ⟨rfl, hbn⟩); (have bR := bR.st hbn); (go_wp2_with fail); refine hK.out _ _ (KM.out _ bR) (fun hHeld => ?_); clear hK K; (try simp only [Act.put, List.setIfInBounds_toArray, List.set_cons_zero, List.set_cons_succ, List.getElem_toArray, List.getElem_cons_zero, List.getElem_cons_succ]); (clear hbn)
                          refine wpAnyH_ready (rs := [32]) (by kernel_rfl) (by simp) ?_; refine AllReadyH.cons (by simp only [List.getElem?_toArray, List.getElem?_cons_zero, List.getElem?_cons_succ]; rfl) (fun K hK => ?_) AllReadyH.nil
                          rw [if_pos (by rfl)]; go_wp2_with fail; (refine ((CPX).out _ (HBWM.out.st bR)).mono ?_); (rintro e W9 ⟨rfl, hbn⟩); (have bR := bR.st hbn); (go_wp2_with fail); refine hK.out _ _ (KM.out _ bR) (fun hHeld => ?_); clear hK K; (try simp only [Act.put, List.setIfInBounds_toArray, List.set_cons_zero, List.set_cons_succ, List.getElem_toArray, List.getElem_cons_zero, List.getElem_cons_succ]); (clear hbn)
                          refine wpAnyH_take (i := 33) (v := ?_) (by simp only [List.getElem?_toArray, List.getElem?_cons_zero, List.getElem?_cons_succ]; rfl) (by kernel_rfl) (by kernel_rfl) (by kernel_rfl) (by intro _ _ _ h; exact h) (Or.inl ⟨by rfl, ?_⟩) (by assumption) ?_; rotate_left; (focus (intro w1 hSw; (try dsimp only at hSw); go_simp; (try with_reducible rfl))); (try simp only [Act.put, List.setIfInBounds_toArray, List.set_cons_zero, List.set_cons_succ, List.getElem_toArray, List.getElem_cons_zero, List.getElem_cons_succ]); refine wpAnyH_take (i := 34) (v := ?_) (by simp only [List.getElem?_toArray, List.getElem?_cons_zero, List.getElem?_cons_succ]; rfl) (by kernel_rfl) (by kernel_rfl) (by kernel_rfl) (by intro _ _ _ h; exact h) (Or.inl ⟨by rfl, ?_⟩) (by assumption) ?_; rotate_left; (focus (intro w1 hSw; (try dsimp only at hSw); go_simp; (try with_reducible rfl))); (try simp only [Act.put, List.setIfInBounds_toArray, List.set_cons_zero, List.set_cons_succ, List.getElem_toArray, List.getElem_cons_zero, List.getElem_cons_succ]); refine wpAnyH_done (by kernel_rfl) ?_ _
                          go_wp2_with fail
                          go_meet
                          exact ⟨by rw [HIN.out], bR⟩
                      case rest =>
                        obtain ⟨rfl, hbx⟩ := hcut
                        have HBX := Lib.hid (HBM6.out.st hbx)
                        have z0 := (hbx.cell (p := ⟨pb, po + m, none⟩) HPB.out).trans HZ0.out
                        clear hbx g14 KM CMY CPY CPX HINP
                        cases hin : inP c p (chAt cs m)
                        · have HN : Hid (sumC caps cs c p (m + 1) = s) := Lib.hid (by rw [sumC_succ, HSM.out, hin]; simp)
                          clear hin
                          go_wp2_with fail
                          go_roundw
                          case rel => exact ⟨m + 1, HMI.out, by go_num, by rw [HN.out], HBX.out⟩
                          case measure => have := HMI.out; simp [RowKit.intOf]; omega
                        · have HN : Hid (sumC caps cs c p (m + 1) = s + q) := Lib.hid (by rw [sumC_succ, HSM.out, hin, if_pos rfl, HQ.out])
                          clear hin
                          go_wp2_with fail
                          go_roundw
                          case rel => exact ⟨m + 1, HMI.out, by go_num, by rw [HN.out], HBX.out⟩
                          case measure => have := HMI.out; simp [RowKit.intOf]; omega
                    · obtain rfl : m = l.length := by omega
                      have hk := cap_kept HNC.out (fun x hx => (HNX.out x hx).1) HCM.out p
                      rw [HLEN.out, HSM.out] at hk
                      have HRS2 := HRS1.out
                      rw [HLEN.out, HSM.out] at HRS2
                      have HRS2 := Lib.hid HRS2
                      have hk1 : ¬ c.ct < s := by omega
                      have HBME := Lib.hid (HBIJ.out.trans (HBMJ.out.mono HBIJ.out.size))
                      clear hk HSM HRS1 BP
                      cases rb
                      · have HN : Hid (reachB caps cs i (j + 1) = (s == c.ct)) := Lib.hid (by rw [HRS2.out, Bool.false_or]; rfl)
                        go_wp2_with fail
                        go_roundw
                        case rel => exact ⟨j + 1, HJ.out, by go_num, by rw [HN.out], HBME.out⟩
                        case measure => have := HJ.out; simp [RowKit.intOf]; omega
                      · have HN : Hid (reachB caps cs i (j + 1) = true) := Lib.hid (by rw [HRS2.out, Bool.true_or])
                        go_wp2_with fail
                        go_roundw
                        case rel => exact ⟨j + 1, HJ.out, by go_num, by rw [HN.out], HBME.out⟩
                        case measure => have := HJ.out; simp [RowKit.intOf]; omega
              · obtain rfl : j = caps.length := by omega
                rw [HRA.out]
                go_wp2_with fail
                go_roundw
                case rel => exact ⟨i + 1, HI.out, by go_num, HBJ.out⟩
                case measure => have := HI.out; simp [RowKit.intOf]; omega
          · obtain rfl : i = l.length := by omega
            go_wp2_with fail; refine (awake16_any (HM.out.st (HBWI.out) HM.out.1)).mono ?_; rintro e wl ⟨rfl, hbl⟩; have bL := Below.st (HBWI.out) hbl; go_wp2_with fail; go_ret; exact ⟨rfl, bL⟩
end Go.Proofs.YtelchfijalkibaaGreatDoor
