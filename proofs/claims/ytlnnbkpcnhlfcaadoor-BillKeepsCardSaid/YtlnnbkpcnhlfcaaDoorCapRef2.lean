/- The reference's Left, walked. -/
import Derived.Test.YtlnnbkpcnhlfcaaDoorJCapRMath
import Derived.Test.YtlnnbkpcnhlfcaaDoorJCapSmall
import Derived.Test.YtlnnbkpcnhlfcaaDoorJBox
import Derived.Deep.RegionHeld3
import Derived.Deep.RegionWith
import Derived.Deep.DrawnRows
import Derived.Deep.RegionLaw
import Derived.BigRegion
set_option linter.unusedSimpArgs false
set_option linter.unusedSimpArgs false
namespace Go.Proofs.YtlnnbkpcnhlfcaaDoor
open Go.RowKit Go.Lib

theorem cvs_len2 (l : List Cg) : (cvs l).length = l.length := by simp [cvs]
theorem sumQ_tk {c : Cp} {p : Int} {l : List CV} {k : Nat} {x : CV} (hx : l[k]? = some x) : sumQ c p (l.take (k + 1)) = sumQ c p (l.take k) + if inP c p x = true then x.ct else 0 := by rw [take_snoc hx, sumQ_snoc]
set_option maxRecDepth 100000 in
set_option maxHeartbeats 8000000 in
theorem rleft_any (cp : Cp) {A : Option Addr} (c : Nat) {l : List Cg} (t : Int) {w : World} (hr : Rd encCg 7 w w.heap.size A l) (hl : l.length ≤ 1024) (hb : ∀ x ∈ cvs l, 0 ≤ x.ct ∧ x.ct ≤ 1125899906842624) (hc0 : 0 ≤ cp.ct) (hc1 : cp.ct ≤ 1125899906842624) :
    Calls Tryd.prog 76 #[CpV cp, .slice A l.length c, .int .i64 t] w fun e w' => e = .returned (.int .i64 (leftR cp (cvs l) t)) ∧ Below w.heap.size w w' := by
  have HR := Lib.hid hr
  have HBD := Lib.hid hb
  clear hr hb
  unfold leftR
  obtain ⟨nm, sy, dy, ct⟩ := cp
  simp only [CpV] at *
  obtain ⟨kb, hkb⟩ : ∃ kb, w.heap.size = kb := ⟨_, rfl⟩
  obtain ⟨Y, hY⟩ : ∃ Y, w.alloc (.cells #[.string nm, .string sy, .int .i64 dy, .int .i64 ct] 97) = Y := ⟨_, rfl⟩
  have BK : Blk Y kb #[.string nm, .string sy, .int .i64 dy, .int .i64 ct] 97 := by rw [← hY, ← hkb]; exact Blk.new _ _ _
  have bY : Below w.heap.size w Y := by rw [← hY]; exact (Below.refl _ _).al _
  have CP1 := Lib.hid (fun (X : World) => rper_any nm sy dy ct t X)
  generalize hp : perN dy t = p at *
  have x0 := BK.cell 0 (v := .string nm) rfl
  have x1 := BK.cell 1 (v := .string sy) rfl
  have x2 := BK.cell 2 (v := .int .i64 dy) rfl
  have x3 := BK.cell 3 (v := .int .i64 ct) rfl
  have HBY := Lib.hid bY
  have HBK := Lib.hid BK
  clear BK bY hp
  by_cases hp0 : p < 0
  · rw [if_pos hp0]
    go_enter Tryd.func76, Tryd.ntmps76
    go_wp2_with fail
    refine (CP1.out _).mono ?_
    rintro e w2 ⟨rfl, hbn⟩
    have bW := HBY.out.st hbn
    go_wp2_with fail
    go_ret
    exact ⟨rfl, bW⟩
  · rw [if_neg hp0]
    go_enter Tryd.func76, Tryd.ntmps76
    go_wp2_with fail
    refine (CP1.out _).mono ?_
    rintro e w2 ⟨rfl, hbn⟩
    have HBW := Lib.hid (HBY.out.st hbn)
    have HBK2 := Lib.hid (HBK.out.below hbn HBK.out.lt)
    have x3 := HBK2.out.cell 3 (v := .int .i64 ct) rfl
    have HS0 : Hid (ct - sumQ ⟨nm, sy, dy, ct⟩ p ((cvs l).take 0) = ct) := Lib.hid (by simp [sumQ])
    clear hbn x0 x1 x2 HBY HBK hY
    go_wp2_with fail
    go_loopw [8, 9] (fun vl vi wr => ∃ (k : Nat) (L : Int), k ≤ l.length ∧ vl = .int .i64 L ∧ vi = .int .i64 k ∧ Hid (ct - sumQ ⟨nm, sy, dy, ct⟩ p ((cvs l).take k) = L) ∧ Below w.heap.size w wr ∧ Blk wr kb #[.string nm, .string sy, .int .i64 dy, .int .i64 ct] 97) (fun _ vi _ => l.length - (RowKit.intOf vi).toNat)
    case atStart => exact ⟨0, ct, Nat.zero_le _, rfl, rfl, HS0, HBW.out, HBK2.out⟩
    case round =>
      clear HS0
      obtain ⟨k, L, hk, rfl, rfl, HL, bW, BK⟩ := hrel
      have hsb := sumQ_bnd ⟨nm, sy, dy, ct⟩ p (l := (cvs l).take k) (fun x hx => HBD.out x (List.mem_of_mem_take hx))
      have hlk : ((cvs l).take k).length ≤ 1024 := by rw [List.length_take, cvs_len2]; omega
      have hL1 : L ≤ 1125899906842624 := by have := HL.out; omega
      have hL0 : -1152921504606846976 ≤ L := by have := HL.out; omega
      clear hsb hlk
      by_cases hi : k < l.length
      · obtain ⟨b, off, x, hA1, hb, hx, d0, d1, d2, d3, d4, d5, d6⟩ := (HR.out.st bW).cg hi
        have hxc : (cvs l)[k]? = some x.c := by unfold cvs; rw [List.getElem?_map, hx]; rfl
        have hxb := HBD.out x.c (List.mem_of_getElem? hxc)
        have HSK := Lib.hid (sumQ_tk (c := ⟨nm, sy, dy, ct⟩) (p := p) hxc)
        have HK := Lib.hid hi
        subst hA1
        obtain ⟨⟨key, veh, sys, cls, tm, lns, cn⟩, lA, lc⟩ := x
        simp only at *
        have hi1 : (0 : Int) ≤ (k : Int) := by omega
        have hi2 : (k : Int) < (l.length : Int) := by omega
        have CM := Lib.hid (fun (X : World) => rmat_any ⟨nm, sy, dy, ct⟩ ⟨key, veh, sys, cls, tm, lns, cn⟩ lA lc X)
        simp only [CpV, CHV] at CM
        have CP2 := Lib.hid (fun (X : World) => rper_any nm sy dy ct tm X)
        have hws : IntKind.i64.wrap (L - cn) = L - cn := IntWalk.i64_in _ (by omega)
        have HKP : Hid (∀ W', Below wr.heap.size wr W' → (fun w' : World => w'.cell? ⟨kb, 0, none⟩ = some (.string nm) ∧ w'.cell? ⟨kb, 1, none⟩ = some (.string sy) ∧ w'.cell? ⟨kb, 2, none⟩ = some (.int .i64 dy) ∧ w'.cell? ⟨kb, 3, none⟩ = some (.int .i64 ct) ∧ w'.cell? ⟨b, off + k * 7, none⟩ = some (.string key) ∧ w'.cell? ⟨b, off + k * 7 + 1, none⟩ = some (.string veh) ∧ w'.cell? ⟨b, off + k * 7 + 2, none⟩ = some (.string sys) ∧ w'.cell? ⟨b, off + k * 7 + 3, none⟩ = some (.int .i64 cls) ∧ w'.cell? ⟨b, off + k * 7 + 4, none⟩ = some (.int .i64 tm) ∧ w'.cell? ⟨b, off + k * 7 + 5, none⟩ = some (.slice lA lns.length lc) ∧ w'.cell? ⟨b, off + k * 7 + 6, none⟩ = some (.int .i64 cn)) W') := Lib.hid (fun W' hW => by
          have BK' := BK.below hW BK.lt
          have kk : ∀ (o : Nat) (v : Value), wr.cell? ⟨b, o, none⟩ = some v → W'.cell? ⟨b, o, none⟩ = some v := fun o v q => (World.cell?_of_block (hW.block b hb)).trans q
          exact ⟨BK'.cell 0 rfl, BK'.cell 1 rfl, BK'.cell 2 rfl, BK'.cell 3 rfl, kk _ _ d0, kk _ _ d1, kk _ _ d2, kk _ _ d3, kk _ _ d4, kk _ _ d5, kk _ _ d6⟩)
        have HSS : Hid ((fun w' : World => w'.cell? ⟨kb, 0, none⟩ = some (.string nm) ∧ w'.cell? ⟨kb, 1, none⟩ = some (.string sy) ∧ w'.cell? ⟨kb, 2, none⟩ = some (.int .i64 dy) ∧ w'.cell? ⟨kb, 3, none⟩ = some (.int .i64 ct) ∧ w'.cell? ⟨b, off + k * 7, none⟩ = some (.string key) ∧ w'.cell? ⟨b, off + k * 7 + 1, none⟩ = some (.string veh) ∧ w'.cell? ⟨b, off + k * 7 + 2, none⟩ = some (.string sys) ∧ w'.cell? ⟨b, off + k * 7 + 3, none⟩ = some (.int .i64 cls) ∧ w'.cell? ⟨b, off + k * 7 + 4, none⟩ = some (.int .i64 tm) ∧ w'.cell? ⟨b, off + k * 7 + 5, none⟩ = some (.slice lA lns.length lc) ∧ w'.cell? ⟨b, off + k * 7 + 6, none⟩ = some (.int .i64 cn)) wr) := Lib.hid (HKP.out wr (Below.refl _ _))
        have HD6 : Hid (∀ W', Below wr.heap.size wr W' → W'.cell? ⟨b, off + k * 7 + 6, none⟩ = some (.int .i64 cn)) := Lib.hid (fun W' hW => (HKP.out W' hW).2.2.2.2.2.2.2.2.2.2)
        have HBK := Lib.hid BK
        have HBW := Lib.hid bW
        clear hx hxc hb d0 d1 d2 d3 d4 d5 d6 BK bW hi HBK2 x3
        go_wp2_with fail
        refine wp_region_held_drew (S := (fun w' : World => w'.cell? ⟨kb, 0, none⟩ = some (.string nm) ∧ w'.cell? ⟨kb, 1, none⟩ = some (.string sy) ∧ w'.cell? ⟨kb, 2, none⟩ = some (.int .i64 dy) ∧ w'.cell? ⟨kb, 3, none⟩ = some (.int .i64 ct) ∧ w'.cell? ⟨b, off + k * 7, none⟩ = some (.string key) ∧ w'.cell? ⟨b, off + k * 7 + 1, none⟩ = some (.string veh) ∧ w'.cell? ⟨b, off + k * 7 + 2, none⟩ = some (.string sys) ∧ w'.cell? ⟨b, off + k * 7 + 3, none⟩ = some (.int .i64 cls) ∧ w'.cell? ⟨b, off + k * 7 + 4, none⟩ = some (.int .i64 tm) ∧ w'.cell? ⟨b, off + k * 7 + 5, none⟩ = some (.slice lA lns.length lc) ∧ w'.cell? ⟨b, off + k * 7 + 6, none⟩ = some (.int .i64 cn))) (by kernel_rfl) ?_ (fun hHeld => ?_)
        · exact HSS.out
        have hSS : (fun w' : World => w'.cell? ⟨kb, 0, none⟩ = some (.string nm) ∧ w'.cell? ⟨kb, 1, none⟩ = some (.string sy) ∧ w'.cell? ⟨kb, 2, none⟩ = some (.int .i64 dy) ∧ w'.cell? ⟨kb, 3, none⟩ = some (.int .i64 ct) ∧ w'.cell? ⟨b, off + k * 7, none⟩ = some (.string key) ∧ w'.cell? ⟨b, off + k * 7 + 1, none⟩ = some (.string veh) ∧ w'.cell? ⟨b, off + k * 7 + 2, none⟩ = some (.string sys) ∧ w'.cell? ⟨b, off + k * 7 + 3, none⟩ = some (.int .i64 cls) ∧ w'.cell? ⟨b, off + k * 7 + 4, none⟩ = some (.int .i64 tm) ∧ w'.cell? ⟨b, off + k * 7 + 5, none⟩ = some (.slice lA lns.length lc) ∧ w'.cell? ⟨b, off + k * 7 + 6, none⟩ = some (.int .i64 cn)) wr.drew := HSS.out
        have HBN : Hid (Below wr.heap.size wr wr.drew) := Lib.hid (below_drewN (Below.refl _ _) 1)
        generalize wr.drew = W0 at hSS hHeld HBN ⊢
        change wpAnyH _ _ _ _ _ 17 _ _ _
        refine wpAnyH_take (i := 0) (v := ?_) (by simp only [List.getElem?_toArray, List.getElem?_cons_zero, List.getElem?_cons_succ]; rfl) (by kernel_rfl) (by kernel_rfl) (by kernel_rfl) (by intro _ _ _ h; exact h) (Or.inl ⟨by rfl, ?_⟩) (by assumption) ?_; rotate_left; (focus (intro w1 hSw; (try dsimp only at hSw); go_simp; (try with_reducible rfl))); (try simp only [Act.put, List.setIfInBounds_toArray, List.set_cons_zero, List.set_cons_succ, List.getElem_toArray, List.getElem_cons_zero, List.getElem_cons_succ])
        refine wpAnyH_take (i := 1) (v := ?_) (by simp only [List.getElem?_toArray, List.getElem?_cons_zero, List.getElem?_cons_succ]; rfl) (by kernel_rfl) (by kernel_rfl) (by kernel_rfl) (by intro _ _ _ h; exact h) (Or.inl ⟨by rfl, ?_⟩) (by assumption) ?_; rotate_left; (focus (intro w1 hSw; (try dsimp only at hSw); go_simp; (try with_reducible rfl))); (try simp only [Act.put, List.setIfInBounds_toArray, List.set_cons_zero, List.set_cons_succ, List.getElem_toArray, List.getElem_cons_zero, List.getElem_cons_succ])
        refine wpAnyH_take (i := 2) (v := ?_) (by simp only [List.getElem?_toArray, List.getElem?_cons_zero, List.getElem?_cons_succ]; rfl) (by kernel_rfl) (by kernel_rfl) (by kernel_rfl) (by intro _ _ _ h; exact h) (Or.inl ⟨by rfl, ?_⟩) (by assumption) ?_; rotate_left; (focus (intro w1 hSw; (try dsimp only at hSw); go_simp; (try with_reducible rfl))); (try simp only [Act.put, List.setIfInBounds_toArray, List.set_cons_zero, List.set_cons_succ, List.getElem_toArray, List.getElem_cons_zero, List.getElem_cons_succ])
        refine wpAnyH_take (i := 3) (v := ?_) (by simp only [List.getElem?_toArray, List.getElem?_cons_zero, List.getElem?_cons_succ]; rfl) (by kernel_rfl) (by kernel_rfl) (by kernel_rfl) (by intro _ _ _ h; exact h) (Or.inl ⟨by rfl, ?_⟩) (by assumption) ?_; rotate_left; (focus (intro w1 hSw; (try dsimp only at hSw); go_simp; (try with_reducible rfl))); (try simp only [Act.put, List.setIfInBounds_toArray, List.set_cons_zero, List.set_cons_succ, List.getElem_toArray, List.getElem_cons_zero, List.getElem_cons_succ])
        refine wpAnyH_take (i := 4) (v := ?_) (by simp only [List.getElem?_toArray, List.getElem?_cons_zero, List.getElem?_cons_succ]; rfl) (by kernel_rfl) (by kernel_rfl) (by kernel_rfl) (by intro _ _ _ h; exact h) (Or.inl ⟨by rfl, ?_⟩) (by assumption) ?_; rotate_left; (focus (intro w1 hSw; (try dsimp only at hSw); go_simp; (try with_reducible rfl))); (try simp only [Act.put, List.setIfInBounds_toArray, List.set_cons_zero, List.set_cons_succ, List.getElem_toArray, List.getElem_cons_zero, List.getElem_cons_succ])
        refine wpAnyH_ready (rs := [5]) (by kernel_rfl) (by simp) ?_; refine AllReadyH.cons (by simp only [List.getElem?_toArray, List.getElem?_cons_zero, List.getElem?_cons_succ]; rfl) (fun K hK => ?_) AllReadyH.nil
        rw [if_pos (by rfl)]; go_wp2_with fail
        cases hm : matB ⟨nm, sy, dy, ct⟩ ⟨key, veh, sys, cls, tm, lns, cn⟩
        · have R : Hid (ct - sumQ ⟨nm, sy, dy, ct⟩ p ((cvs l).take (k + 1)) = L) := Lib.hid (by
            rw [HSK.out, if_neg (by unfold inP; rw [hm]; simp)]
            have := HL.out; omega)
          rw [hm] at CM
          clear hm HSK HL
          refine (CM.out _).mono ?_
          rintro e wn ⟨rfl, hbn⟩
          have HBN2 := Lib.hid (HBN.out.st hbn)
          have hSS : (fun w' : World => w'.cell? ⟨kb, 0, none⟩ = some (.string nm) ∧ w'.cell? ⟨kb, 1, none⟩ = some (.string sy) ∧ w'.cell? ⟨kb, 2, none⟩ = some (.int .i64 dy) ∧ w'.cell? ⟨kb, 3, none⟩ = some (.int .i64 ct) ∧ w'.cell? ⟨b, off + k * 7, none⟩ = some (.string key) ∧ w'.cell? ⟨b, off + k * 7 + 1, none⟩ = some (.string veh) ∧ w'.cell? ⟨b, off + k * 7 + 2, none⟩ = some (.string sys) ∧ w'.cell? ⟨b, off + k * 7 + 3, none⟩ = some (.int .i64 cls) ∧ w'.cell? ⟨b, off + k * 7 + 4, none⟩ = some (.int .i64 tm) ∧ w'.cell? ⟨b, off + k * 7 + 5, none⟩ = some (.slice lA lns.length lc) ∧ w'.cell? ⟨b, off + k * 7 + 6, none⟩ = some (.int .i64 cn)) wn := HKP.out _ HBN2.out
          clear hbn
          go_wp2_with fail
          refine hK.out _ _ ?_ (fun hHeld => ?_)
          · exact hSS
          clear hK K
          (try simp only [Act.put, List.setIfInBounds_toArray, List.set_cons_zero, List.set_cons_succ, List.getElem_toArray, List.getElem_cons_zero, List.getElem_cons_succ])
          refine wpAnyH_take (i := 6) (v := ?_) (by simp only [List.getElem?_toArray, List.getElem?_cons_zero, List.getElem?_cons_succ]; rfl) (by kernel_rfl) (by kernel_rfl) (by kernel_rfl) (by intro _ _ _ h; exact h) (Or.inl ⟨by rfl, ?_⟩) (by assumption) ?_; rotate_left; (focus (intro w1 hSw; (try dsimp only at hSw); go_simp; (try with_reducible rfl))); (try simp only [Act.put, List.setIfInBounds_toArray, List.set_cons_zero, List.set_cons_succ, List.getElem_toArray, List.getElem_cons_zero, List.getElem_cons_succ])
          refine wpAnyH_take (i := 7) (v := undef) (by simp only [List.getElem?_toArray, List.getElem?_cons_zero, List.getElem?_cons_succ]; rfl) (by kernel_rfl) (by kernel_rfl) (by kernel_rfl) (by intro _ _ _ h; exact h) (Or.inr ⟨by rfl, rfl⟩) (by assumption) ?_; (try simp only [Act.put, List.setIfInBounds_toArray, List.set_cons_zero, List.set_cons_succ, List.getElem_toArray, List.getElem_cons_zero, List.getElem_cons_succ])
          refine wpAnyH_take (i := 8) (v := undef) (by simp only [List.getElem?_toArray, List.getElem?_cons_zero, List.getElem?_cons_succ]; rfl) (by kernel_rfl) (by kernel_rfl) (by kernel_rfl) (by intro _ _ _ h; exact h) (Or.inr ⟨by rfl, rfl⟩) (by assumption) ?_; (try simp only [Act.put, List.setIfInBounds_toArray, List.set_cons_zero, List.set_cons_succ, List.getElem_toArray, List.getElem_cons_zero, List.getElem_cons_succ])
          refine wpAnyH_take (i := 9) (v := undef) (by simp only [List.getElem?_toArray, List.getElem?_cons_zero, List.getElem?_cons_succ]; rfl) (by kernel_rfl) (by kernel_rfl) (by kernel_rfl) (by intro _ _ _ h; exact h) (Or.inr ⟨by rfl, rfl⟩) (by assumption) ?_; (try simp only [Act.put, List.setIfInBounds_toArray, List.set_cons_zero, List.set_cons_succ, List.getElem_toArray, List.getElem_cons_zero, List.getElem_cons_succ])
          refine wpAnyH_take (i := 10) (v := undef) (by simp only [List.getElem?_toArray, List.getElem?_cons_zero, List.getElem?_cons_succ]; rfl) (by kernel_rfl) (by kernel_rfl) (by kernel_rfl) (by intro _ _ _ h; exact h) (Or.inr ⟨by rfl, rfl⟩) (by assumption) ?_; (try simp only [Act.put, List.setIfInBounds_toArray, List.set_cons_zero, List.set_cons_succ, List.getElem_toArray, List.getElem_cons_zero, List.getElem_cons_succ])
          refine wpAnyH_take (i := 11) (v := undef) (by simp only [List.getElem?_toArray, List.getElem?_cons_zero, List.getElem?_cons_succ]; rfl) (by kernel_rfl) (by kernel_rfl) (by kernel_rfl) (by intro _ _ _ h; exact h) (Or.inr ⟨by rfl, rfl⟩) (by assumption) ?_; (try simp only [Act.put, List.setIfInBounds_toArray, List.set_cons_zero, List.set_cons_succ, List.getElem_toArray, List.getElem_cons_zero, List.getElem_cons_succ])
          refine wpAnyH_take (i := 12) (v := undef) (by simp only [List.getElem?_toArray, List.getElem?_cons_zero, List.getElem?_cons_succ]; rfl) (by kernel_rfl) (by kernel_rfl) (by kernel_rfl) (by intro _ _ _ h; exact h) (Or.inr ⟨by rfl, rfl⟩) (by assumption) ?_; (try simp only [Act.put, List.setIfInBounds_toArray, List.set_cons_zero, List.set_cons_succ, List.getElem_toArray, List.getElem_cons_zero, List.getElem_cons_succ])
          refine wpAnyH_take (i := 13) (v := undef) (by simp only [List.getElem?_toArray, List.getElem?_cons_zero, List.getElem?_cons_succ]; rfl) (by kernel_rfl) (by kernel_rfl) (by kernel_rfl) (by intro _ _ _ h; exact h) (Or.inr ⟨by rfl, rfl⟩) (by assumption) ?_; (try simp only [Act.put, List.setIfInBounds_toArray, List.set_cons_zero, List.set_cons_succ, List.getElem_toArray, List.getElem_cons_zero, List.getElem_cons_succ])
          refine wpAnyH_take (i := 14) (v := undef) (by simp only [List.getElem?_toArray, List.getElem?_cons_zero, List.getElem?_cons_succ]; rfl) (by kernel_rfl) (by kernel_rfl) (by kernel_rfl) (by intro _ _ _ h; exact h) (Or.inr ⟨by rfl, rfl⟩) (by assumption) ?_; (try simp only [Act.put, List.setIfInBounds_toArray, List.set_cons_zero, List.set_cons_succ, List.getElem_toArray, List.getElem_cons_zero, List.getElem_cons_succ])
          refine wpAnyH_take (i := 15) (v := undef) (by simp only [List.getElem?_toArray, List.getElem?_cons_zero, List.getElem?_cons_succ]; rfl) (by kernel_rfl) (by kernel_rfl) (by kernel_rfl) (by intro _ _ _ h; exact h) (Or.inr ⟨by rfl, rfl⟩) (by assumption) ?_; (try simp only [Act.put, List.setIfInBounds_toArray, List.set_cons_zero, List.set_cons_succ, List.getElem_toArray, List.getElem_cons_zero, List.getElem_cons_succ])
          refine wpAnyH_take (i := 16) (v := ?_) (by simp only [List.getElem?_toArray, List.getElem?_cons_zero, List.getElem?_cons_succ]; rfl) (by kernel_rfl) (by kernel_rfl) (by kernel_rfl) (by intro _ _ _ h; exact h) (Or.inl ⟨by rfl, ?_⟩) (by assumption) ?_; rotate_left; (focus (intro w1 hSw; (try dsimp only at hSw); go_simp; (try with_reducible rfl))); (try simp only [Act.put, List.setIfInBounds_toArray, List.set_cons_zero, List.set_cons_succ, List.getElem_toArray, List.getElem_cons_zero, List.getElem_cons_succ])
          refine wpAnyH_done (by kernel_rfl) ?_ _
          have HB5 := Lib.hid (HBW.out.st HBN2.out)
          have HBK5 := Lib.hid (HBK.out.below HBN2.out HBK.out.lt)
          clear hSS hHeld HBN HBN2 HKP HD6
          go_wp2_with fail
          go_roundw
          case rel => exact ⟨k + 1, L, HK.out, rfl, by go_num, R, HB5.out, HBK5.out⟩
          case measure => have := HK.out; simp [RowKit.intOf]; omega
        · rw [hm] at CM
          refine (CM.out _).mono ?_
          rintro e wn ⟨rfl, hbn⟩
          have HBN2 := Lib.hid (HBN.out.st hbn)
          have hSS : (fun w' : World => w'.cell? ⟨kb, 0, none⟩ = some (.string nm) ∧ w'.cell? ⟨kb, 1, none⟩ = some (.string sy) ∧ w'.cell? ⟨kb, 2, none⟩ = some (.int .i64 dy) ∧ w'.cell? ⟨kb, 3, none⟩ = some (.int .i64 ct) ∧ w'.cell? ⟨b, off + k * 7, none⟩ = some (.string key) ∧ w'.cell? ⟨b, off + k * 7 + 1, none⟩ = some (.string veh) ∧ w'.cell? ⟨b, off + k * 7 + 2, none⟩ = some (.string sys) ∧ w'.cell? ⟨b, off + k * 7 + 3, none⟩ = some (.int .i64 cls) ∧ w'.cell? ⟨b, off + k * 7 + 4, none⟩ = some (.int .i64 tm) ∧ w'.cell? ⟨b, off + k * 7 + 5, none⟩ = some (.slice lA lns.length lc) ∧ w'.cell? ⟨b, off + k * 7 + 6, none⟩ = some (.int .i64 cn)) wn := HKP.out _ HBN2.out
          clear hbn
          go_wp2_with fail
          refine hK.out _ _ ?_ (fun hHeld => ?_)
          · exact hSS
          clear hK K
          (try simp only [Act.put, List.setIfInBounds_toArray, List.set_cons_zero, List.set_cons_succ, List.getElem_toArray, List.getElem_cons_zero, List.getElem_cons_succ])
          refine wpAnyH_take (i := 6) (v := ?_) (by simp only [List.getElem?_toArray, List.getElem?_cons_zero, List.getElem?_cons_succ]; rfl) (by kernel_rfl) (by kernel_rfl) (by kernel_rfl) (by intro _ _ _ h; exact h) (Or.inl ⟨by rfl, ?_⟩) (by assumption) ?_; rotate_left; (focus (intro w1 hSw; (try dsimp only at hSw); go_simp; (try with_reducible rfl))); (try simp only [Act.put, List.setIfInBounds_toArray, List.set_cons_zero, List.set_cons_succ, List.getElem_toArray, List.getElem_cons_zero, List.getElem_cons_succ])
          refine wpAnyH_take (i := 7) (v := ?_) (by simp only [List.getElem?_toArray, List.getElem?_cons_zero, List.getElem?_cons_succ]; rfl) (by kernel_rfl) (by kernel_rfl) (by kernel_rfl) (by intro _ _ _ h; exact h) (Or.inl ⟨by rfl, ?_⟩) (by assumption) ?_; rotate_left; (focus (intro w1 hSw; (try dsimp only at hSw); go_simp; (try with_reducible rfl))); (try simp only [Act.put, List.setIfInBounds_toArray, List.set_cons_zero, List.set_cons_succ, List.getElem_toArray, List.getElem_cons_zero, List.getElem_cons_succ])
          refine wpAnyH_take (i := 8) (v := ?_) (by simp only [List.getElem?_toArray, List.getElem?_cons_zero, List.getElem?_cons_succ]; rfl) (by kernel_rfl) (by kernel_rfl) (by kernel_rfl) (by intro _ _ _ h; exact h) (Or.inl ⟨by rfl, ?_⟩) (by assumption) ?_; rotate_left; (focus (intro w1 hSw; (try dsimp only at hSw); go_simp; (try with_reducible rfl))); (try simp only [Act.put, List.setIfInBounds_toArray, List.set_cons_zero, List.set_cons_succ, List.getElem_toArray, List.getElem_cons_zero, List.getElem_cons_succ])
          refine wpAnyH_take (i := 9) (v := ?_) (by simp only [List.getElem?_toArray, List.getElem?_cons_zero, List.getElem?_cons_succ]; rfl) (by kernel_rfl) (by kernel_rfl) (by kernel_rfl) (by intro _ _ _ h; exact h) (Or.inl ⟨by rfl, ?_⟩) (by assumption) ?_; rotate_left; (focus (intro w1 hSw; (try dsimp only at hSw); go_simp; (try with_reducible rfl))); (try simp only [Act.put, List.setIfInBounds_toArray, List.set_cons_zero, List.set_cons_succ, List.getElem_toArray, List.getElem_cons_zero, List.getElem_cons_succ])
          refine wpAnyH_take (i := 10) (v := ?_) (by simp only [List.getElem?_toArray, List.getElem?_cons_zero, List.getElem?_cons_succ]; rfl) (by kernel_rfl) (by kernel_rfl) (by kernel_rfl) (by intro _ _ _ h; exact h) (Or.inl ⟨by rfl, ?_⟩) (by assumption) ?_; rotate_left; (focus (intro w1 hSw; (try dsimp only at hSw); go_simp; (try with_reducible rfl))); (try simp only [Act.put, List.setIfInBounds_toArray, List.set_cons_zero, List.set_cons_succ, List.getElem_toArray, List.getElem_cons_zero, List.getElem_cons_succ])
          refine wpAnyH_take (i := 11) (v := ?_) (by simp only [List.getElem?_toArray, List.getElem?_cons_zero, List.getElem?_cons_succ]; rfl) (by kernel_rfl) (by kernel_rfl) (by kernel_rfl) (by intro _ _ _ h; exact h) (Or.inl ⟨by rfl, ?_⟩) (by assumption) ?_; rotate_left; (focus (intro w1 hSw; (try dsimp only at hSw); go_simp; (try with_reducible rfl))); (try simp only [Act.put, List.setIfInBounds_toArray, List.set_cons_zero, List.set_cons_succ, List.getElem_toArray, List.getElem_cons_zero, List.getElem_cons_succ])
          refine wpAnyH_take (i := 12) (v := ?_) (by simp only [List.getElem?_toArray, List.getElem?_cons_zero, List.getElem?_cons_succ]; rfl) (by kernel_rfl) (by kernel_rfl) (by kernel_rfl) (by intro _ _ _ h; exact h) (Or.inl ⟨by rfl, ?_⟩) (by assumption) ?_; rotate_left; (focus (intro w1 hSw; (try dsimp only at hSw); go_simp; (try with_reducible rfl))); (try simp only [Act.put, List.setIfInBounds_toArray, List.set_cons_zero, List.set_cons_succ, List.getElem_toArray, List.getElem_cons_zero, List.getElem_cons_succ])
          refine wpAnyH_take (i := 14) (v := ?_) (by simp only [List.getElem?_toArray, List.getElem?_cons_zero, List.getElem?_cons_succ]; rfl) (by kernel_rfl) (by kernel_rfl) (by kernel_rfl) (by intro _ _ _ h; exact h) (Or.inl ⟨by rfl, ?_⟩) (by assumption) ?_; rotate_left; (focus (intro w1 hSw; (try dsimp only at hSw); go_simp; (try with_reducible rfl))); (try simp only [Act.put, List.setIfInBounds_toArray, List.set_cons_zero, List.set_cons_succ, List.getElem_toArray, List.getElem_cons_zero, List.getElem_cons_succ])
          refine wpAnyH_ready (rs := [13]) (by kernel_rfl) (by simp) ?_; refine AllReadyH.cons (by simp only [List.getElem?_toArray, List.getElem?_cons_zero, List.getElem?_cons_succ]; rfl) (fun K hK => ?_) AllReadyH.nil
          rw [if_pos (by rfl)]; go_wp2_with fail
          by_cases hpp : perN dy tm = p
          · have R : Hid (ct - sumQ ⟨nm, sy, dy, ct⟩ p ((cvs l).take (k + 1)) = L - cn) := Lib.hid (by
              rw [HSK.out, if_pos (by unfold inP; rw [hm]; simp [hpp])]
              have := HL.out; omega)
            have hpe : (perN dy tm == p) = true := by simp [hpp]
            generalize perN dy tm = pe at *
            clear hm HSK HL hpp
            refine (CP2.out _).mono ?_
            rintro e wm ⟨rfl, hbn⟩
            have HBN3 := Lib.hid (HBN2.out.st hbn)
            have hSS : (fun w' : World => w'.cell? ⟨kb, 0, none⟩ = some (.string nm) ∧ w'.cell? ⟨kb, 1, none⟩ = some (.string sy) ∧ w'.cell? ⟨kb, 2, none⟩ = some (.int .i64 dy) ∧ w'.cell? ⟨kb, 3, none⟩ = some (.int .i64 ct) ∧ w'.cell? ⟨b, off + k * 7, none⟩ = some (.string key) ∧ w'.cell? ⟨b, off + k * 7 + 1, none⟩ = some (.string veh) ∧ w'.cell? ⟨b, off + k * 7 + 2, none⟩ = some (.string sys) ∧ w'.cell? ⟨b, off + k * 7 + 3, none⟩ = some (.int .i64 cls) ∧ w'.cell? ⟨b, off + k * 7 + 4, none⟩ = some (.int .i64 tm) ∧ w'.cell? ⟨b, off + k * 7 + 5, none⟩ = some (.slice lA lns.length lc) ∧ w'.cell? ⟨b, off + k * 7 + 6, none⟩ = some (.int .i64 cn)) wm := HKP.out _ HBN3.out
            clear hbn
            go_wp2_with fail
            refine hK.out _ _ ?_ (fun hHeld => ?_)
            · exact hSS
            clear hK K
            (try simp only [Act.put, List.setIfInBounds_toArray, List.set_cons_zero, List.set_cons_succ, List.getElem_toArray, List.getElem_cons_zero, List.getElem_cons_succ])
            refine wpAnyH_take (i := 15) (v := ?_) (by simp only [List.getElem?_toArray, List.getElem?_cons_zero, List.getElem?_cons_succ]; rfl) (by kernel_rfl) (by kernel_rfl) (by kernel_rfl) (by intro _ _ _ h; exact h) (Or.inl ⟨by rfl, ?_⟩) (by assumption) ?_; rotate_left; (focus (intro w1 hSw; (try dsimp only at hSw); go_simp; (try with_reducible rfl))); (try simp only [Act.put, List.setIfInBounds_toArray, List.set_cons_zero, List.set_cons_succ, List.getElem_toArray, List.getElem_cons_zero, List.getElem_cons_succ])
            refine wpAnyH_take (i := 16) (v := ?_) (by simp only [List.getElem?_toArray, List.getElem?_cons_zero, List.getElem?_cons_succ]; rfl) (by kernel_rfl) (by kernel_rfl) (by kernel_rfl) (by intro _ _ _ h; exact h) (Or.inl ⟨by rfl, ?_⟩) (by assumption) ?_; rotate_left; (focus (intro w1 hSw; (try dsimp only at hSw); go_simp; (try with_reducible rfl))); (try simp only [Act.put, List.setIfInBounds_toArray, List.set_cons_zero, List.set_cons_succ, List.getElem_toArray, List.getElem_cons_zero, List.getElem_cons_succ])
            refine wpAnyH_done (by kernel_rfl) ?_ _
            have HB5 := Lib.hid (HBW.out.st HBN3.out)
            have HBK5 := Lib.hid (HBK.out.below HBN3.out HBK.out.lt)
            have d6 := HD6.out _ HBN3.out
            clear hSS hHeld HBN HBN2 HBN3 HKP HD6
            clear hpe
            go_wp2_with fail
            go_roundw
            case rel => exact ⟨k + 1, L - cn, HK.out, rfl, by go_num, R, HB5.out, HBK5.out⟩
            case measure => have := HK.out; simp [RowKit.intOf]; omega
          · have R : Hid (ct - sumQ ⟨nm, sy, dy, ct⟩ p ((cvs l).take (k + 1)) = L) := Lib.hid (by
              rw [HSK.out, if_neg (by unfold inP; rw [hm]; simp [hpp])]
              have := HL.out; omega)
            have hpe : (perN dy tm == p) = false := by simp [hpp]
            generalize perN dy tm = pe at *
            clear hm HSK HL hpp
            refine (CP2.out _).mono ?_
            rintro e wm ⟨rfl, hbn⟩
            have HBN3 := Lib.hid (HBN2.out.st hbn)
            have hSS : (fun w' : World => w'.cell? ⟨kb, 0, none⟩ = some (.string nm) ∧ w'.cell? ⟨kb, 1, none⟩ = some (.string sy) ∧ w'.cell? ⟨kb, 2, none⟩ = some (.int .i64 dy) ∧ w'.cell? ⟨kb, 3, none⟩ = some (.int .i64 ct) ∧ w'.cell? ⟨b, off + k * 7, none⟩ = some (.string key) ∧ w'.cell? ⟨b, off + k * 7 + 1, none⟩ = some (.string veh) ∧ w'.cell? ⟨b, off + k * 7 + 2, none⟩ = some (.string sys) ∧ w'.cell? ⟨b, off + k * 7 + 3, none⟩ = some (.int .i64 cls) ∧ w'.cell? ⟨b, off + k * 7 + 4, none⟩ = some (.int .i64 tm) ∧ w'.cell? ⟨b, off + k * 7 + 5, none⟩ = some (.slice lA lns.length lc) ∧ w'.cell? ⟨b, off + k * 7 + 6, none⟩ = some (.int .i64 cn)) wm := HKP.out _ HBN3.out
            clear hbn
            go_wp2_with fail
            refine hK.out _ _ ?_ (fun hHeld => ?_)
            · exact hSS
            clear hK K
            (try simp only [Act.put, List.setIfInBounds_toArray, List.set_cons_zero, List.set_cons_succ, List.getElem_toArray, List.getElem_cons_zero, List.getElem_cons_succ])
            refine wpAnyH_take (i := 15) (v := ?_) (by simp only [List.getElem?_toArray, List.getElem?_cons_zero, List.getElem?_cons_succ]; rfl) (by kernel_rfl) (by kernel_rfl) (by kernel_rfl) (by intro _ _ _ h; exact h) (Or.inl ⟨by rfl, ?_⟩) (by assumption) ?_; rotate_left; (focus (intro w1 hSw; (try dsimp only at hSw); go_simp; (try with_reducible rfl))); (try simp only [Act.put, List.setIfInBounds_toArray, List.set_cons_zero, List.set_cons_succ, List.getElem_toArray, List.getElem_cons_zero, List.getElem_cons_succ])
            refine wpAnyH_take (i := 16) (v := ?_) (by simp only [List.getElem?_toArray, List.getElem?_cons_zero, List.getElem?_cons_succ]; rfl) (by kernel_rfl) (by kernel_rfl) (by kernel_rfl) (by intro _ _ _ h; exact h) (Or.inl ⟨by rfl, ?_⟩) (by assumption) ?_; rotate_left; (focus (intro w1 hSw; (try dsimp only at hSw); go_simp; (try with_reducible rfl))); (try simp only [Act.put, List.setIfInBounds_toArray, List.set_cons_zero, List.set_cons_succ, List.getElem_toArray, List.getElem_cons_zero, List.getElem_cons_succ])
            refine wpAnyH_done (by kernel_rfl) ?_ _
            have HB5 := Lib.hid (HBW.out.st HBN3.out)
            have HBK5 := Lib.hid (HBK.out.below HBN3.out HBK.out.lt)
            clear hSS hHeld HBN HBN2 HBN3 HKP HD6
            clear hpe
            go_wp2_with fail
            go_roundw
            case rel => exact ⟨k + 1, L, HK.out, rfl, by go_num, R, HB5.out, HBK5.out⟩
            case measure => have := HK.out; simp [RowKit.intOf]; omega
      · obtain rfl : k = l.length := by omega
        have HLN : Hid (ct - sumQ ⟨nm, sy, dy, ct⟩ p (cvs l) = L) := Lib.hid (by rw [← HL.out, List.take_of_length_le (Nat.le_of_eq (cvs_len2 l))])
        clear HL x3
        go_wp2_with fail
        go_ret
        rw [HLN.out]
        exact ⟨rfl, bW⟩
end Go.Proofs.YtlnnbkpcnhlfcaaDoor
