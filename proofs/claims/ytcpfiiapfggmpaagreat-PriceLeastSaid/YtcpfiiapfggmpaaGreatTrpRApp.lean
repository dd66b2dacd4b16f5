/- The reference's Applying, walked. -/
import Derived.Test.YtcpfiiapfggmpaaGreatJTrpM
import Derived.Test.YtcpfiiapfggmpaaGreatDisRApp
set_option linter.unusedSimpArgs false
set_option linter.unusedSimpArgs false
namespace Go.Proofs.YtcpfiiapfggmpaaGreat
open Go.RowKit Go.Lib

set_option maxRecDepth 100000 in
set_option maxHeartbeats 16000000 in
theorem rappl_any {tA uA dA qA kA xA : Option Addr} (tc uc dc qc kc xc : Nat) (pe : Int) (o0 o1 o2 o3 o4 o5 o6 o7 o14 o15 o16 o17 o18 o19 o20 o21 o22 o23 o24 : Value) (xi xv xy : ByteArray) (cl er : Int) {ts : List Ta} {us ds qs : List Int} {dcs : List Dc} {ss : List Stp} {s0 : Stp} {w : World}
    (hk : Rd encDc 10 w w.heap.size kA dcs) (hkl : LOk dcs) (hs : Rd encSp 3 w w.heap.size xA ss) (hsl : ss.length ≤ 1000000) (hss0 : ss[0]? = some s0) :
    Calls Tryz.prog 24 #[.agg #[o0, o1, o2, o3, o4, o5, o6, o7, .slice tA ts.length tc, .int .i64 pe, .slice uA us.length uc, .slice dA ds.length dc, .slice qA qs.length qc, .slice kA dcs.length kc, o14, o15, o16, o17, o18, o19, o20, o21, o22, o23, o24], .agg #[.string xi, .string xv, .string xy, .int .i64 cl, .slice xA ss.length xc], .int .i64 er] w fun e w' => ∃ A c, e = .returned (.slice A (appL xy cl s0.t er dcs).length c) ∧ Own 93 encDc 10 w' w.heap.size A c (appL xy cl s0.t er dcs) ∧ Below w.heap.size w w' := by
  obtain ⟨Y1, hY1⟩ : ∃ Y, w.alloc (.cells #[o0, o1, o2, o3, o4, o5, o6, o7, .slice tA ts.length tc, .int .i64 pe, .slice uA us.length uc, .slice dA ds.length dc, .slice qA qs.length qc, .slice kA dcs.length kc, o14, o15, o16, o17, o18, o19, o20, o21, o22, o23, o24] 46) = Y := ⟨_, rfl⟩
  obtain ⟨Y2, hY2⟩ : ∃ Y, Y1.alloc (.cells #[.string xi, .string xv, .string xy, .int .i64 cl, .slice xA ss.length xc] 49) = Y := ⟨_, rfl⟩
  obtain ⟨Y3, hY3⟩ : ∃ Y, Y2.alloc (.cells #[] 93) = Y := ⟨_, rfl⟩
  have b1 : Below w.heap.size w Y1 := by rw [← hY1]; exact (Below.refl _ w).al _
  have b2 : Below w.heap.size w Y2 := by rw [← hY2]; exact b1.al _
  have b3 : Below w.heap.size w Y3 := by rw [← hY3]; exact b2.al _
  have s1 : Y1.heap.size = w.heap.size + 1 := by rw [← hY1]; simp
  have s2 : Y2.heap.size = w.heap.size + 2 := by rw [← hY2]; simp [s1]
  have HB1 : Hid (Blk Y3 w.heap.size #[o0, o1, o2, o3, o4, o5, o6, o7, .slice tA ts.length tc, .int .i64 pe, .slice uA us.length uc, .slice dA ds.length dc, .slice qA qs.length qc, .slice kA dcs.length kc, o14, o15, o16, o17, o18, o19, o20, o21, o22, o23, o24] 46) := Lib.hid (by rw [← hY3, ← hY2, ← hY1]; exact ((Blk.new w _ _).alloc _).alloc _)
  have HB2 : Hid (Blk Y3 (w.heap.size + 1) #[.string xi, .string xv, .string xy, .int .i64 cl, .slice xA ss.length xc] 49) := Lib.hid (by rw [← s1, ← hY3, ← hY2]; exact (Blk.new Y1 _ _).alloc _)
  have hown0 := Own.lit (e := 93) (cs := #[]) Y2 Y2.heap.size ([] : List Dc) (g := Y2.heap.size) encDc_ok rfl rfl (Nat.le_refl _) (by simp)
  rw [hY3, s2] at hown0
  have HO0 := Lib.hid hown0
  have CA := Lib.hid (fun (x : Dc) (hx : x ∈ dcs) (X : World) (hX : Below w.heap.size w X) => rapplies_any (hkl.mem hx) (tr := ⟨xi, xv, xy, cl, xA, xc, ss⟩) er ⟨hs.st hX, by show ss.length ≤ _; omega⟩ hss0)
  have HBW := Lib.hid b3
  have HK := Lib.hid hk
  have hf12 : dcs.length ≤ 12 := hkl.few
  have HZ : Hid (w.heap.size + 2 ≤ Y3.heap.size) := Lib.hid (by have := HB2.out.lt; omega)
  clear hk hs hkl b1 b2 b3 hown0 hss0
  go_enter Tryz.func24, Tryz.ntmps24
  go_wp2_with fail
  go_loopw [8, 7] (fun sk so wr => ∃ (k : Nat) (A : Option Addr) (c : Nat), k ≤ dcs.length ∧ sk = .int .i64 k ∧ so = .slice A (appL xy cl s0.t er (dcs.take k)).length c ∧ Own 93 encDc 10 wr (w.heap.size + 2) A c (appL xy cl s0.t er (dcs.take k)) ∧ Below (w.heap.size + 2) Y3 wr) (fun sk _ _ => dcs.length - (RowKit.intOf sk).toNat)
  case atStart => exact ⟨0, _, 0, Nat.zero_le _, rfl, rfl, HO0.out, Below.refl _ _⟩
  case round =>
    obtain ⟨k, A, c, hk, rfl, rfl, hown, hbn⟩ := hrel
    have k1 : (0 : Int) ≤ (k : Int) := by omega
    have HOW := Lib.hid hown
    have HBN := Lib.hid hbn
    have B1 := HB1.out.below hbn (by omega)
    have B2 := HB2.out.below hbn (by omega)
    have HBR := Lib.hid (HBW.out.trans (hbn.mono (by omega)))
    have g13 := B1.cell 13 (v := .slice kA dcs.length kc) rfl
    clear hown hbn
    by_cases hi : k < dcs.length
    · have k2 : (k : Int) < (dcs.length : Int) := by omega
      have kn : decide (k < dcs.length) = true := decide_eq_true hi
      have HI := Lib.hid hi
      obtain ⟨lb, lo, x, hA2, hlb, hxl, hc⟩ := (HK.out.keep HBR.out).at_ hi
      subst hA2
      have d0 := hc 0 _ rfl
      have d1 := hc 1 _ rfl
      have d2 := hc 2 _ rfl
      have d3 := hc 3 _ rfl
      have d4 := hc 4 _ rfl
      have d5 := hc 5 _ rfl
      have d6 := hc 6 _ rfl
      have d7 := hc 7 _ rfl
      have d8 := hc 8 _ rfl
      have d9 := hc 9 _ rfl
      simp only [Nat.add_zero] at d0
      have KS : Hid (∀ X, Below wr.heap.size wr X → (fun w' : World => w'.cell? ⟨w.heap.size, 13, none⟩ = some (.slice (some ⟨lb, lo, none⟩) dcs.length kc) ∧ Blk w' (w.heap.size + 1) #[.string xi, .string xv, .string xy, .int .i64 cl, .slice xA ss.length xc] 49 ∧ w'.cell? ⟨lb, lo + k * 10, none⟩ = some (.string x.nm) ∧ w'.cell? ⟨lb, lo + k * 10 + 1, none⟩ = some (.int .i64 x.kd) ∧ w'.cell? ⟨lb, lo + k * 10 + 2, none⟩ = some (.int .i64 x.am) ∧ w'.cell? ⟨lb, lo + k * 10 + 3, none⟩ = some (.string x.gr) ∧ w'.cell? ⟨lb, lo + k * 10 + 4, none⟩ = some (.string x.sy) ∧ w'.cell? ⟨lb, lo + k * 10 + 5, none⟩ = some (.int .i64 x.cl) ∧ w'.cell? ⟨lb, lo + k * 10 + 6, none⟩ = some (.int .i64 x.wd) ∧ w'.cell? ⟨lb, lo + k * 10 + 7, none⟩ = some (.int .i64 x.wf) ∧ w'.cell? ⟨lb, lo + k * 10 + 8, none⟩ = some (.int .i64 x.wt) ∧ w'.cell? ⟨lb, lo + k * 10 + 9, none⟩ = some (.int .i64 x.le)) X) := Lib.hid (fun X hX => by
        have tr : ∀ j (v : Value), wr.cell? ⟨lb, j, none⟩ = some v → X.cell? ⟨lb, j, none⟩ = some v := fun j v hv => (hX.cell (p := ⟨lb, j, none⟩) (Nat.lt_of_lt_of_le hlb HBR.out.size)).trans hv
        exact ⟨(B1.below hX B1.lt).cell 13 rfl, B2.below hX B2.lt, tr _ _ d0, tr _ _ d1, tr _ _ d2, tr _ _ d3, tr _ _ d4, tr _ _ d5, tr _ _ d6, tr _ _ d7, tr _ _ d8, tr _ _ d9⟩)
      have HSN := Lib.hid (appL_snoc (sy := xy) (cl := cl) (t := s0.t) (er := er) hxl)
      have HAL := Lib.hid (Nat.le_trans (appL_len xy cl s0.t er (dcs.take k)) (by rw [List.length_take]; exact Nat.min_le_left _ _))
      have CAX := Lib.hid (CA.out x (List.mem_of_getElem? hxl))
      obtain ⟨L, hL⟩ : ∃ L, appL xy cl s0.t er (dcs.take k) = L := ⟨_, rfl⟩
      rw [hL] at HSN HAL HOW ⊢
      clear hc hlb hxl hi hL B1 B2 d0 d1 d2 d3 d4 d5 d6 d7 d8 d9
      go_wp2_with fail
      refine wp_region_held_drew (S := (fun w' : World => w'.cell? ⟨w.heap.size, 13, none⟩ = some (.slice (some ⟨lb, lo, none⟩) dcs.length kc) ∧ Blk w' (w.heap.size + 1) #[.string xi, .string xv, .string xy, .int .i64 cl, .slice xA ss.length xc] 49 ∧ w'.cell? ⟨lb, lo + k * 10, none⟩ = some (.string x.nm) ∧ w'.cell? ⟨lb, lo + k * 10 + 1, none⟩ = some (.int .i64 x.kd) ∧ w'.cell? ⟨lb, lo + k * 10 + 2, none⟩ = some (.int .i64 x.am) ∧ w'.cell? ⟨lb, lo + k * 10 + 3, none⟩ = some (.string x.gr) ∧ w'.cell? ⟨lb, lo + k * 10 + 4, none⟩ = some (.string x.sy) ∧ w'.cell? ⟨lb, lo + k * 10 + 5, none⟩ = some (.int .i64 x.cl) ∧ w'.cell? ⟨lb, lo + k * 10 + 6, none⟩ = some (.int .i64 x.wd) ∧ w'.cell? ⟨lb, lo + k * 10 + 7, none⟩ = some (.int .i64 x.wf) ∧ w'.cell? ⟨lb, lo + k * 10 + 8, none⟩ = some (.int .i64 x.wt) ∧ w'.cell? ⟨lb, lo + k * 10 + 9, none⟩ = some (.int .i64 x.le))) (by kernel_rfl) ?_ (fun hHeld => ?_)
      focus exact KS.out _ (Below.refl _ _).drew
      have hSS := KS.out _ (Below.refl wr.heap.size wr).drew
      have bR := (Below.refl wr.heap.size wr).drew
      obtain ⟨V0, hV0⟩ : ∃ V, World.drew wr = V := ⟨_, rfl⟩
      rw [hV0] at bR hHeld hSS ⊢
      clear hV0 g13
      change wpAnyH _ _ _ _ _ 8 _ _ _
      refine wpAnyH_take (i := 0) (v := ?_) (by simp only [List.getElem?_toArray, List.getElem?_cons_zero, List.getElem?_cons_succ]; rfl) (by kernel_rfl) (by kernel_rfl) (by kernel_rfl) (by intro _ _ _ h; exact h) (Or.inl ⟨by rfl, ?_⟩) (by assumption) ?_; rotate_left; (focus (intro w1 hSw; (try dsimp only at hSw); go_simp; (try with_reducible rfl))); (try simp only [Act.put, List.setIfInBounds_toArray, List.set_cons_zero, List.set_cons_succ, List.getElem_toArray, List.getElem_cons_zero, List.getElem_cons_succ])
      refine wpAnyH_take (i := 1) (v := ?_) (by simp only [List.getElem?_toArray, List.getElem?_cons_zero, List.getElem?_cons_succ]; rfl) (by kernel_rfl) (by kernel_rfl) (by kernel_rfl) (by intro _ _ _ h; exact h) (Or.inl ⟨by rfl, ?_⟩) (by assumption) ?_; rotate_left; (focus (intro w1 hSw; (try dsimp only at hSw); go_simp; (try with_reducible rfl))); (try simp only [Act.put, List.setIfInBounds_toArray, List.set_cons_zero, List.set_cons_succ, List.getElem_toArray, List.getElem_cons_zero, List.getElem_cons_succ])
      refine wpAnyH_take (i := 2) (v := ?_) (by simp only [List.getElem?_toArray, List.getElem?_cons_zero, List.getElem?_cons_succ]; rfl) (by kernel_rfl) (by kernel_rfl) (by kernel_rfl) (by intro _ _ _ h; exact h) (Or.inl ⟨by rfl, ?_⟩) (by assumption) ?_; rotate_left; (focus (intro w1 hSw; (try dsimp only at hSw); go_simp; (try with_reducible rfl))); (try simp only [Act.put, List.setIfInBounds_toArray, List.set_cons_zero, List.set_cons_succ, List.getElem_toArray, List.getElem_cons_zero, List.getElem_cons_succ])
      refine wpAnyH_take (i := 3) (v := ?_) (by simp only [List.getElem?_toArray, List.getElem?_cons_zero, List.getElem?_cons_succ]; rfl) (by kernel_rfl) (by kernel_rfl) (by kernel_rfl) (by intro _ _ _ h; exact h) (Or.inl ⟨by rfl, ?_⟩) (by assumption) ?_; rotate_left; (focus (intro w1 hSw; (try dsimp only at hSw); go_simp; (try with_reducible rfl))); (try simp only [Act.put, List.setIfInBounds_toArray, List.set_cons_zero, List.set_cons_succ, List.getElem_toArray, List.getElem_cons_zero, List.getElem_cons_succ])
      refine wpAnyH_take (i := 4) (v := ?_) (by simp only [List.getElem?_toArray, List.getElem?_cons_zero, List.getElem?_cons_succ]; rfl) (by kernel_rfl) (by kernel_rfl) (by kernel_rfl) (by intro _ _ _ h; exact h) (Or.inl ⟨by rfl, ?_⟩) (by assumption) ?_; rotate_left; (focus (intro w1 hSw; (try dsimp only at hSw); go_simp; (try with_reducible rfl))); (try simp only [Act.put, List.setIfInBounds_toArray, List.set_cons_zero, List.set_cons_succ, List.getElem_toArray, List.getElem_cons_zero, List.getElem_cons_succ])
      refine wpAnyH_take (i := 5) (v := .agg #[.string xi, .string xv, .string xy, .int .i64 cl, .slice xA ss.length xc]) (by simp only [List.getElem?_toArray, List.getElem?_cons_zero, List.getElem?_cons_succ]; rfl) (by kernel_rfl) (by kernel_rfl) (by kernel_rfl) (by intro _ _ _ h; exact h) (yieldsIf_boxLoad (by rfl) rfl rfl (fun _ hw => hw.2.1) ⟨_, Tryz.underlying49, by kernel_rfl⟩) (by assumption) ?_; (try simp only [Act.put, List.setIfInBounds_toArray, List.set_cons_zero, List.set_cons_succ, List.getElem_toArray, List.getElem_cons_zero, List.getElem_cons_succ])
      refine wpAnyH_take (i := 6) (v := ?_) (by simp only [List.getElem?_toArray, List.getElem?_cons_zero, List.getElem?_cons_succ]; rfl) (by kernel_rfl) (by kernel_rfl) (by kernel_rfl) (by intro _ _ _ h; exact h) (Or.inl ⟨by rfl, ?_⟩) (by assumption) ?_; rotate_left; (focus (intro w1 hSw; (try dsimp only at hSw); go_simp; (try with_reducible rfl))); (try simp only [Act.put, List.setIfInBounds_toArray, List.set_cons_zero, List.set_cons_succ, List.getElem_toArray, List.getElem_cons_zero, List.getElem_cons_succ])
      refine wpAnyH_ready (rs := [7]) (by kernel_rfl) (by simp) ?_; refine AllReadyH.cons (by simp only [List.getElem?_toArray, List.getElem?_cons_zero, List.getElem?_cons_succ]; rfl) (fun K hK => ?_) AllReadyH.nil
      rw [if_pos (by rfl)]; go_wp2_with fail
      refine (CAX.out V0 (HBR.out.st bR)).mono ?_
      rintro e W6 ⟨rfl, hbn⟩
      have bR6 := bR.st hbn
      have hS6 := KS.out _ bR6
      go_wp2_with fail
      refine hK.out _ _ hS6 (fun hHeld => ?_)
      clear hK K
      (try simp only [Act.put, List.setIfInBounds_toArray, List.set_cons_zero, List.set_cons_succ, List.getElem_toArray, List.getElem_cons_zero, List.getElem_cons_succ])
      refine wpAnyH_done (by kernel_rfl) ?_ _
      obtain ⟨g13, -, d0, d1, d2, d3, d4, d5, d6, d7, d8, d9⟩ := hS6
      have HB6 := Lib.hid (HBN.out.trans (bR6.mono (Nat.le_trans HZ.out HBN.out.size)))
      have hown := HOW.out.keep bR6 (Nat.le_refl _)
      have hbs : w.heap.size + 2 ≤ W6.heap.size := Nat.le_trans HZ.out HB6.out.size
      have hll : L.length ≤ 12 := by have := HAL.out; omega
      clear hHeld hSS bR bR6 hbn
      cases hap : appB x xy cl s0.t er
      · have HN := HSN.out
        rw [hap] at HN
        simp only [Bool.false_eq_true, if_false] at HN
        have HN := Lib.hid HN
        have HOW := Lib.hid hown
        clear hap HSN hown
        go_wp2_with fail
        go_roundw
        case rel => exact ⟨k + 1, A, c, HI.out, by go_num, by rw [HN.out], by rw [HN.out]; exact HOW.out, HB6.out⟩
        case measure => have := HI.out; simp [RowKit.intOf]; omega
      · have HN := HSN.out
        rw [hap, if_pos rfl] at HN
        have HN := Lib.hid HN
        clear hap HSN
        go_wp2_with (at_builtin; refine wpList_app1 rfl (.tmp 25) (.tmp 31) tyDc encDc_ok rfl x rfl _ rfl (by simp) hown rfl (by first | rfl | simp) (by first | omega | (simp; omega)) (by first | omega | (simp; omega)) hbs ?_; intro A9 c9 w9 hown9 hb9 hs9 hf9)
        go_roundw
        case rel => exact ⟨k + 1, A9, c9, HI.out, by go_num, by rw [HN.out]; simp, by rw [HN.out]; exact hown9, HB6.out.trans hb9⟩
        case measure => have := HI.out; simp [RowKit.intOf]; omega
    · obtain rfl : k = dcs.length := by omega
      rw [List.take_length] at HOW ⊢
      go_wp2_with fail
      go_ret
      exact ⟨A, c, rfl, HOW.out.mono (Nat.le_add_right _ _), HBR.out⟩
end Go.Proofs.YtcpfiiapfggmpaaGreat
