/- Joined texts: CapRef2, CapRef3. -/
import Derived.Test.YtlnnbkpcnhlfcaaDoorJCapRMath
import Derived.Test.YtlnnbkpcnhlfcaaDoorJCapSmall
import Derived.Test.YtlnnbkpcnhlfcaaDoorJBox
import Derived.Deep.RegionHeld3
import Derived.Deep.RegionWith
import Derived.Deep.DrawnRows
import Derived.Deep.RegionLaw
import Derived.BigRegion
/- The reference's Left, walked. -/
set_option linter.unusedSimpArgs false
set_option linter.unusedSimpArgs false
namespace Go.Proofs.YtlnnbkpcnhlfcaaDoor
open Go.RowKit Go.Lib

theorem cvs_len2 (l : List Cg) : (cvs l).length = l.length := by simp [cvs]
theorem sumQ_tk {c : Cp} {p : Int} {l : List CV} {k : Nat} {x : CV} (hx : l[k]? = some x) : sumQ c p (l.take (k + 1)) = sumQ c p (l.take k) + if inP c p x = true then x.ct else 0 := by rw [take_snoc hx, sumQ_snoc]
set_option maxRecDepth 100000 in
set_option maxHeartbeats 8000000 in
theorem rleft_any (cp : Cp) {A : Option Addr} (c : Nat) {l : List Cg} (t : Int) {w : World} (hr : Rd encCg 7 w w.heap.size A l) (hl : l.length ≤ 1024) (hb : ∀ x ∈ cvs l, 0 ≤ x.ct ∧ x.ct ≤ 1125899906842624) (hc0 : 0 ≤ cp.ct) (hc1 : cp.ct ≤ 1125899906842624) :
    Calls Tryd.prog 76 #[CpV cp, .slice A l.length c, .int .i64 t] w fun e w' => e = .returned (.int .i64 (leftR cp (cvs l) t)) ∧ Below w.heap.size w w' := by
  have HR := Lib.hid hr
  have HBD := Lib.hid hb
  clear hr hb
  unfold leftR
  obtain ⟨nm, sy, dy, ct⟩ := cp
  simp only [CpV] at *
  obtain ⟨kb, hkb⟩ : ∃ kb, w.heap.size = kb := ⟨_, rfl⟩
  obtain ⟨Y, hY⟩ : ∃ Y, w.alloc (.cells #[.string nm, .string sy, .int .i64 dy, .int .i64 ct] 97) = Y := ⟨_, rfl⟩
  have BK : Blk Y kb #[.string nm, .string sy, .int .i64 dy, .int .i64 ct] 97 := by rw [← hY, ← hkb]; exact Blk.new _ _ _
  have bY : Below w.heap.size w Y := by rw [← hY]; exact (Below.refl _ _).al _
  have CP1 := Lib.hid (fun (X : World) => rper_any nm sy dy ct t X)
  generalize hp : perN dy t = p at *
  have x0 := BK.cell 0 (v := .string nm) rfl
  have x1 := BK.cell 1 (v := .string sy) rfl
  have x2 := BK.cell 2 (v := .int .i64 dy) rfl
  have x3 := BK.cell 3 (v := .int .i64 ct) rfl
  have HBY := Lib.hid bY
  have HBK := Lib.hid BK
  clear BK bY hp
  by_cases hp0 : p < 0
  · rw [if_pos hp0]
    go_enter Tryd.func76, Tryd.ntmps76
    go_wp2_with fail
    refine (CP1.out _).mono ?_
    rintro e w2 ⟨rfl, hbn⟩
    have bW := HBY.out.st hbn
    go_wp2_with fail
    go_ret
    exact ⟨rfl, bW⟩
  · rw [if_neg hp0]
    go_enter Tryd.func76, Tryd.ntmps76
    go_wp2_with fail
    refine (CP1.out _).mono ?_
    rintro e w2 ⟨rfl, hbn⟩
    have HBW := Lib.hid (HBY.out.st hbn)
    have HBK2 := Lib.hid (HBK.out.below hbn HBK.out.lt)
    have x3 := HBK2.out.cell 3 (v := .int .i64 ct) rfl
    have HS0 : Hid (ct - sumQ ⟨nm, sy, dy, ct⟩ p ((cvs l).take 0) = ct) := Lib.hid (by simp [sumQ])
    clear hbn x0 x1 x2 HBY HBK hY
    go_wp2_with fail
    go_loopw [8, 9] (fun vl vi wr => ∃ (k : Nat) (L : Int), k ≤ l.length ∧ vl = .int .i64 L ∧ vi = .int .i64 k ∧ Hid (ct - sumQ ⟨nm, sy, dy, ct⟩ p ((cvs l).take k) = L) ∧ Below w.heap.size w wr ∧ Blk wr kb #[.string nm, .string sy, .int .i64 dy, .int .i64 ct] 97) (fun _ vi _ => l.length - (RowKit.intOf vi).toNat)
    case atStart => exact ⟨0, ct, Nat.zero_le _, rfl, rfl, HS0, HBW.out, HBK2.out⟩
    case round =>
      clear HS0
      obtain ⟨k, L, hk, rfl, rfl, HL, bW, BK⟩ := hrel
      have hsb := sumQ_bnd ⟨nm, sy, dy, ct⟩ p (l := (cvs l).take k) (fun x hx => HBD.out x (List.mem_of_mem_take hx))
      have hlk : ((cvs l).take k).length ≤ 1024 := by rw [List.length_take, cvs_len2]; omega
      have hL1 : L ≤ 1125899906842624 := by have := HL.out; omega
      have hL0 : -1152921504606846976 ≤ L := by have := HL.out; omega
      clear hsb hlk
      by_cases hi : k < l.length
      · obtain ⟨b, off, x, hA1, hb, hx, d0, d1, d2, d3, d4, d5, d6⟩ := (HR.out.st bW).cg hi
        have hxc : (cvs l)[k]? = some x.c := by unfold cvs; rw [List.getElem?_map, hx]; rfl
        have hxb := HBD.out x.c (List.mem_of_getElem? hxc)
        have HSK := Lib.hid (sumQ_tk (c := ⟨nm, sy, dy, ct⟩) (p := p) hxc)
        have HK := Lib.hid hi
        subst hA1
        obtain ⟨⟨key, veh, sys, cls, tm, lns, cn⟩, lA, lc⟩ := x
        simp only at *
        have hi1 : (0 : Int) ≤ (k : Int) := by omega
        have hi2 : (k : Int) < (l.length : Int) := by omega
        have CM := Lib.hid (fun (X : World) => rmat_any ⟨nm, sy, dy, ct⟩ ⟨key, veh, sys, cls, tm, lns, cn⟩ lA lc X)
        simp only [CpV, CHV] at CM
        have CP2 := Lib.hid (fun (X : World) => rper_any nm sy dy ct tm X)
        have hws : IntKind.i64.wrap (L - cn) = L - cn := IntWalk.i64_in _ (by omega)
        have HKP : Hid (∀ W', Below wr.heap.size wr W' → (fun w' : World => w'.cell? ⟨kb, 0, none⟩ = some (.string nm) ∧ w'.cell? ⟨kb, 1, none⟩ = some (.string sy) ∧ w'.cell? ⟨kb, 2, none⟩ = some (.int .i64 dy) ∧ w'.cell? ⟨kb, 3, none⟩ = some (.int .i64 ct) ∧ w'.cell? ⟨b, off + k * 7, none⟩ = some (.string key) ∧ w'.cell? ⟨b, off + k * 7 + 1, none⟩ = some (.string veh) ∧ w'.cell? ⟨b, off + k * 7 + 2, none⟩ = some (.string sys) ∧ w'.cell? ⟨b, off + k * 7 + 3, none⟩ = some (.int .i64 cls) ∧ w'.cell? ⟨b, off + k * 7 + 4, none⟩ = some (.int .i64 tm) ∧ w'.cell? ⟨b, off + k * 7 + 5, none⟩ = some (.slice lA lns.length lc) ∧ w'.cell? ⟨b, off + k * 7 + 6, none⟩ = some (.int .i64 cn)) W') := Lib.hid (fun W' hW => by
          have BK' := BK.below hW BK.lt
          have kk : ∀ (o : Nat) (v : Value), wr.cell? ⟨b, o, none⟩ = some v → W'.cell? ⟨b, o, none⟩ = some v := fun o v q => (World.cell?_of_block (hW.block b hb)).trans q
          exact ⟨BK'.cell 0 rfl, BK'.cell 1 rfl, BK'.cell 2 rfl, BK'.cell 3 rfl, kk _ _ d0, kk _ _ d1, kk _ _ d2, kk _ _ d3, kk _ _ d4, kk _ _ d5, kk _ _ d6⟩)
        have HSS : Hid ((fun w' : World => w'.cell? ⟨kb, 0, none⟩ = some (.string nm) ∧ w'.cell? ⟨kb, 1, none⟩ = some (.string sy) ∧ w'.cell? ⟨kb, 2, none⟩ = some (.int .i64 dy) ∧ w'.cell? ⟨kb, 3, none⟩ = some (.int .i64 ct) ∧ w'.cell? ⟨b, off + k * 7, none⟩ = some (.string key) ∧ w'.cell? ⟨b, off + k * 7 + 1, none⟩ = some (.string veh) ∧ w'.cell? ⟨b, off + k * 7 + 2, none⟩ = some (.string sys) ∧ w'.cell? ⟨b, off + k * 7 + 3, none⟩ = some (.int .i64 cls) ∧ w'.cell? ⟨b, off + k * 7 + 4, none⟩ = some (.int .i64 tm) ∧ w'.cell? ⟨b, off + k * 7 + 5, none⟩ = some (.slice lA lns.length lc) ∧ w'.cell? ⟨b, off + k * 7 + 6, none⟩ = some (.int .i64 cn)) wr) := Lib.hid (HKP.out wr (Below.refl _ _))
        have HD6 : Hid (∀ W', Below wr.heap.size wr W' → W'.cell? ⟨b, off + k * 7 + 6, none⟩ = some (.int .i64 cn)) := Lib.hid (fun W' hW => (HKP.out W' hW).2.2.2.2.2.2.2.2.2.2)
        have HBK := Lib.hid BK
        have HBW := Lib.hid bW
        clear hx hxc hb d0 d1 d2 d3 d4 d5 d6 BK bW hi HBK2 x3
        go_wp2_with fail
        refine wp_region_held_drew (S := (fun w' : World => w'.cell? ⟨kb, 0, none⟩ = some (.string nm) ∧ w'.cell? ⟨kb, 1, none⟩ = some (.string sy) ∧ w'.cell? ⟨kb, 2, none⟩ = some (.int .i64 dy) ∧ w'.cell? ⟨kb, 3, none⟩ = some (.int .i64 ct) ∧ w'.cell? ⟨b, off + k * 7, none⟩ = some (.string key) ∧ w'.cell? ⟨b, off + k * 7 + 1, none⟩ = some (.string veh) ∧ w'.cell? ⟨b, off + k * 7 + 2, none⟩ = some (.string sys) ∧ w'.cell? ⟨b, off + k * 7 + 3, none⟩ = some (.int .i64 cls) ∧ w'.cell? ⟨b, off + k * 7 + 4, none⟩ = some (.int .i64 tm) ∧ w'.cell? ⟨b, off + k * 7 + 5, none⟩ = some (.slice lA lns.length lc) ∧ w'.cell? ⟨b, off + k * 7 + 6, none⟩ = some (.int .i64 cn))) (by kernel_rfl) ?_ (fun hHeld => ?_)
        · exact HSS.out
        have hSS : (fun w' : World => w'.cell? ⟨kb, 0, none⟩ = some (.string nm) ∧ w'.cell? ⟨kb, 1, none⟩ = some (.string sy) ∧ w'.cell? ⟨kb, 2, none⟩ = some (.int .i64 dy) ∧ w'.cell? ⟨kb, 3, none⟩ = some (.int .i64 ct) ∧ w'.cell? ⟨b, off + k * 7, none⟩ = some (.string key) ∧ w'.cell? ⟨b, off + k * 7 + 1, none⟩ = some (.string veh) ∧ w'.cell? ⟨b, off + k * 7 + 2, none⟩ = some (.string sys) ∧ w'.cell? ⟨b, off + k * 7 + 3, none⟩ = some (.int .i64 cls) ∧ w'.cell? ⟨b, off + k * 7 + 4, none⟩ = some (.int .i64 tm) ∧ w'.cell? ⟨b, off + k * 7 + 5, none⟩ = some (.slice lA lns.length lc) ∧ w'.cell? ⟨b, off + k * 7 + 6, none⟩ = some (.int .i64 cn)) wr.drew := HSS.out
        have HBN : Hid (Below wr.heap.size wr wr.drew) := Lib.hid (below_drewN (Below.refl _ _) 1)
        generalize wr.drew = W0 at hSS hHeld HBN ⊢
        change wpAnyH _ _ _ _ _ 17 _ _ _
        refine wpAnyH_take (i := 0) (v := ?_) (by simp only [List.getElem?_toArray, List.getElem?_cons_zero, List.getElem?_cons_succ]; rfl) (by kernel_rfl) (by kernel_rfl) (by kernel_rfl) (by intro _ _ _ h; exact h) (Or.inl ⟨by rfl, ?_⟩) (by assumption) ?_; rotate_left; (focus (intro w1 hSw; (try dsimp only at hSw); go_simp; (try with_reducible rfl))); (try simp only [Act.put, List.setIfInBounds_toArray, List.set_cons_zero, List.set_cons_succ, List.getElem_toArray, List.getElem_cons_zero, List.getElem_cons_succ])
        refine wpAnyH_take (i := 1) (v := ?_) (by simp only [List.getElem?_toArray, List.getElem?_cons_zero, List.getElem?_cons_succ]; rfl) (by kernel_rfl) (by kernel_rfl) (by kernel_rfl) (by intro _ _ _ h; exact h) (Or.inl ⟨by rfl, ?_⟩) (by assumption) ?_; rotate_left; (focus (intro w1 hSw; (try dsimp only at hSw); go_simp; (try with_reducible rfl))); (try simp only [Act.put, List.setIfInBounds_toArray, List.set_cons_zero, List.set_cons_succ, List.getElem_toArray, List.getElem_cons_zero, List.getElem_cons_succ])
        refine wpAnyH_take (i := 2) (v := ?_) (by simp only [List.getElem?_toArray, List.getElem?_cons_zero, List.getElem?_cons_succ]; rfl) (by kernel_rfl) (by kernel_rfl) (by kernel_rfl) (by intro _ _ _ h; exact h) (Or.inl ⟨by rfl, ?_⟩) (by assumption) ?_; rotate_left; (focus (intro w1 hSw; (try dsimp only at hSw); go_simp; (try with_reducible rfl))); (try simp only [Act.put, List.setIfInBounds_toArray, List.set_cons_zero, List.set_cons_succ, List.getElem_toArray, List.getElem_cons_zero, List.getElem_cons_succ])
        refine wpAnyH_take (i := 3) (v := ?_) (by simp only [List.getElem?_toArray, List.getElem?_cons_zero, List.getElem?_cons_succ]; rfl) (by kernel_rfl) (by kernel_rfl) (by kernel_rfl) (by intro _ _ _ h; exact h) (Or.inl ⟨by rfl, ?_⟩) (by assumption) ?_; rotate_left; (focus (intro w1 hSw; (try dsimp only at hSw); go_simp; (try with_reducible rfl))); (try simp only [Act.put, List.setIfInBounds_toArray, List.set_cons_zero, List.set_cons_succ, List.getElem_toArray, List.getElem_cons_zero, List.getElem_cons_succ])
        refine wpAnyH_take (i := 4) (v := ?_) (by simp only [List.getElem?_toArray, List.getElem?_cons_zero, List.getElem?_cons_succ]; rfl) (by kernel_rfl) (by kernel_rfl) (by kernel_rfl) (by intro _ _ _ h; exact h) (Or.inl ⟨by rfl, ?_⟩) (by assumption) ?_; rotate_left; (focus (intro w1 hSw; (try dsimp only at hSw); go_simp; (try with_reducible rfl))); (try simp only [Act.put, List.setIfInBounds_toArray, List.set_cons_zero, List.set_cons_succ, List.getElem_toArray, List.getElem_cons_zero, List.getElem_cons_succ])
        refine wpAnyH_ready (rs := [5]) (by kernel_rfl) (by simp) ?_; refine AllReadyH.cons (by simp only [List.getElem?_toArray, List.getElem?_cons_zero, List.getElem?_cons_succ]; rfl) (fun K hK => ?_) AllReadyH.nil
        rw [if_pos (by rfl)]; go_wp2_with fail
        cases hm : matB ⟨nm, sy, dy, ct⟩ ⟨key, veh, sys, cls, tm, lns, cn⟩
        · have R : Hid (ct - sumQ ⟨nm, sy, dy, ct⟩ p ((cvs l).take (k + 1)) = L) := Lib.hid (by
            rw [HSK.out, if_neg (by unfold inP; rw [hm]; simp)]
            have := HL.out; omega)
          rw [hm] at CM
          clear hm HSK HL
          refine (CM.out _).mono ?_
          rintro e wn ⟨rfl, hbn⟩
          have HBN2 := Lib.hid (HBN.out.st hbn)
          have hSS : (fun w' : World => w'.cell? ⟨kb, 0, none⟩ = some (.string nm) ∧ w'.cell? ⟨kb, 1, none⟩ = some (.string sy) ∧ w'.cell? ⟨kb, 2, none⟩ = some (.int .i64 dy) ∧ w'.cell? ⟨kb, 3, none⟩ = some (.int .i64 ct) ∧ w'.cell? ⟨b, off + k * 7, none⟩ = some (.string key) ∧ w'.cell? ⟨b, off + k * 7 + 1, none⟩ = some (.string veh) ∧ w'.cell? ⟨b, off + k * 7 + 2, none⟩ = some (.string sys) ∧ w'.cell? ⟨b, off + k * 7 + 3, none⟩ = some (.int .i64 cls) ∧ w'.cell? ⟨b, off + k * 7 + 4, none⟩ = some (.int .i64 tm) ∧ w'.cell? ⟨b, off + k * 7 + 5, none⟩ = some (.slice lA lns.length lc) ∧ w'.cell? ⟨b, off + k * 7 + 6, none⟩ = some (.int .i64 cn)) wn := HKP.out _ HBN2.out
          clear hbn
          go_wp2_with fail
          refine hK.out _ _ ?_ (fun hHeld => ?_)
          · exact hSS
          clear hK K
          (try simp only [Act.put, List.setIfInBounds_toArray, List.set_cons_zero, List.set_cons_succ, List.getElem_toArray, List.getElem_cons_zero, List.getElem_cons_succ])
          refine wpAnyH_take (i := 6) (v := ?_) (by simp only [List.getElem?_toArray, List.getElem?_cons_zero, List.getElem?_cons_succ]; rfl) (by kernel_rfl) (by kernel_rfl) (by kernel_rfl) (by intro _ _ _ h; exact h) (Or.inl ⟨by rfl, ?_⟩) (by assumption) ?_; rotate_left; (focus (intro w1 hSw; (try dsimp only at hSw); go_simp; (try with_reducible rfl))); (try simp only [Act.put, List.setIfInBounds_toArray, List.set_cons_zero, List.set_cons_succ, List.getElem_toArray, List.getElem_cons_zero, List.getElem_cons_succ])
          refine wpAnyH_take (i := 7) (v := undef) (by simp only [List.getElem?_toArray, List.getElem?_cons_zero, List.getElem?_cons_succ]; rfl) (by kernel_rfl) (by kernel_rfl) (by kernel_rfl) (by intro _ _ _ h; exact h) (Or.inr ⟨by rfl, rfl⟩) (by assumption) ?_; (try simp only [Act.put, List.setIfInBounds_toArray, List.set_cons_zero, List.set_cons_succ, List.getElem_toArray, List.getElem_cons_zero, List.getElem_cons_succ])
          refine wpAnyH_take (i := 8) (v := undef) (by simp only [List.getElem?_toArray, List.getElem?_cons_zero, List.getElem?_cons_succ]; rfl) (by kernel_rfl) (by kernel_rfl) (by kernel_rfl) (by intro _ _ _ h; exact h) (Or.inr ⟨by rfl, rfl⟩) (by assumption) ?_; (try simp only [Act.put, List.setIfInBounds_toArray, List.set_cons_zero, List.set_cons_succ, List.getElem_toArray, List.getElem_cons_zero, List.getElem_cons_succ])
          refine wpAnyH_take (i := 9) (v := undef) (by simp only [List.getElem?_toArray, List.getElem?_cons_zero, List.getElem?_cons_succ]; rfl) (by kernel_rfl) (by kernel_rfl) (by kernel_rfl) (by intro _ _ _ h; exact h) (Or.inr ⟨by rfl, rfl⟩) (by assumption) ?_; (try simp only [Act.put, List.setIfInBounds_toArray, List.set_cons_zero, List.set_cons_succ, List.getElem_toArray, List.getElem_cons_zero, List.getElem_cons_succ])
          refine wpAnyH_take (i := 10) (v := undef) (by simp only [List.getElem?_toArray, List.getElem?_cons_zero, List.getElem?_cons_succ]; rfl) (by kernel_rfl) (by kernel_rfl) (by kernel_rfl) (by intro _ _ _ h; exact h) (Or.inr ⟨by rfl, rfl⟩) (by assumption) ?_; (try simp only [Act.put, List.setIfInBounds_toArray, List.set_cons_zero, List.set_cons_succ, List.getElem_toArray, List.getElem_cons_zero, List.getElem_cons_succ])
          refine wpAnyH_take (i := 11) (v := undef) (by simp only [List.getElem?_toArray, List.getElem?_cons_zero, List.getElem?_cons_succ]; rfl) (by kernel_rfl) (by kernel_rfl) (by kernel_rfl) (by intro _ _ _ h; exact h) (Or.inr ⟨by rfl, rfl⟩) (by assumption) ?_; (try simp only [Act.put, List.setIfInBounds_toArray, List.set_cons_zero, List.set_cons_succ, List.getElem_toArray, List.getElem_cons_zero, List.getElem_cons_succ])
          refine wpAnyH_take (i := 12) (v := undef) (by simp only [List.getElem?_toArray, List.getElem?_cons_zero, List.getElem?_cons_succ]; rfl) (by kernel_rfl) (by kernel_rfl) (by kernel_rfl) (by intro _ _ _ h; exact h) (Or.inr ⟨by rfl, rfl⟩) (by assumption) ?_; (try simp only [Act.put, List.setIfInBounds_toArray, List.set_cons_zero, List.set_cons_succ, List.getElem_toArray, List.getElem_cons_zero, List.getElem_cons_succ])
          refine wpAnyH_take (i := 13) (v := undef) (by simp only [List.getElem?_toArray, List.getElem?_cons_zero, List.getElem?_cons_succ]; rfl) (by kernel_rfl) (by kernel_rfl) (by kernel_rfl) (by intro _ _ _ h; exact h) (Or.inr ⟨by rfl, rfl⟩) (by assumption) ?_; (try simp only [Act.put, List.setIfInBounds_toArray, List.set_cons_zero, List.set_cons_succ, List.getElem_toArray, List.getElem_cons_zero, List.getElem_cons_succ])
          refine wpAnyH_take (i := 14) (v := undef) (by simp only [List.getElem?_toArray, List.getElem?_cons_zero, List.getElem?_cons_succ]; rfl) (by kernel_rfl) (by kernel_rfl) (by kernel_rfl) (by intro _ _ _ h; exact h) (Or.inr ⟨by rfl, rfl⟩) (by assumption) ?_; (try simp only [Act.put, List.setIfInBounds_toArray, List.set_cons_zero, List.set_cons_succ, List.getElem_toArray, List.getElem_cons_zero, List.getElem_cons_succ])
          refine wpAnyH_take (i := 15) (v := undef) (by simp only [List.getElem?_toArray, List.getElem?_cons_zero, List.getElem?_cons_succ]; rfl) (by kernel_rfl) (by kernel_rfl) (by kernel_rfl) (by intro _ _ _ h; exact h) (Or.inr ⟨by rfl, rfl⟩) (by assumption) ?_; (try simp only [Act.put, List.setIfInBounds_toArray, List.set_cons_zero, List.set_cons_succ, List.getElem_toArray, List.getElem_cons_zero, List.getElem_cons_succ])
          refine wpAnyH_take (i := 16) (v := ?_) (by simp only [List.getElem?_toArray, List.getElem?_cons_zero, List.getElem?_cons_succ]; rfl) (by kernel_rfl) (by kernel_rfl) (by kernel_rfl) (by intro _ _ _ h; exact h) (Or.inl ⟨by rfl, ?_⟩) (by assumption) ?_; rotate_left; (focus (intro w1 hSw; (try dsimp only at hSw); go_simp; (try with_reducible rfl))); (try simp only [Act.put, List.setIfInBounds_toArray, List.set_cons_zero, List.set_cons_succ, List.getElem_toArray, List.getElem_cons_zero, List.getElem_cons_succ])
          refine wpAnyH_done (by kernel_rfl) ?_ _
          have HB5 := Lib.hid (HBW.out.st HBN2.out)
          have HBK5 := Lib.hid (HBK.out.below HBN2.out HBK.out.lt)
          clear hSS hHeld HBN HBN2 HKP HD6
          go_wp2_with fail
          go_roundw
          case rel => exact ⟨k + 1, L, HK.out, rfl, by go_num, R, HB5.out, HBK5.out⟩
          case measure => have := HK.out; simp [RowKit.intOf]; omega
        · rw [hm] at CM
          refine (CM.out _).mono ?_
          rintro e wn ⟨rfl, hbn⟩
          have HBN2 := Lib.hid (HBN.out.st hbn)
          have hSS : (fun w' : World => w'.cell? ⟨kb, 0, none⟩ = some (.string nm) ∧ w'.cell? ⟨kb, 1, none⟩ = some (.string sy) ∧ w'.cell? ⟨kb, 2, none⟩ = some (.int .i64 dy) ∧ w'.cell? ⟨kb, 3, none⟩ = some (.int .i64 ct) ∧ w'.cell? ⟨b, off + k * 7, none⟩ = some (.string key) ∧ w'.cell? ⟨b, off + k * 7 + 1, none⟩ = some (.string veh) ∧ w'.cell? ⟨b, off + k * 7 + 2, none⟩ = some (.string sys) ∧ w'.cell? ⟨b, off + k * 7 + 3, none⟩ = some (.int .i64 cls) ∧ w'.cell? ⟨b, off + k * 7 + 4, none⟩ = some (.int .i64 tm) ∧ w'.cell? ⟨b, off + k * 7 + 5, none⟩ = some (.slice lA lns.length lc) ∧ w'.cell? ⟨b, off + k * 7 + 6, none⟩ = some (.int .i64 cn)) wn := HKP.out _ HBN2.out
          clear hbn
          go_wp2_with fail
          refine hK.out _ _ ?_ (fun hHeld => ?_)
          · exact hSS
          clear hK K
          (try simp only [Act.put, List.setIfInBounds_toArray, List.set_cons_zero, List.set_cons_succ, List.getElem_toArray, List.getElem_cons_zero, List.getElem_cons_succ])
          refine wpAnyH_take (i := 6) (v := ?_) (by simp only [List.getElem?_toArray, List.getElem?_cons_zero, List.getElem?_cons_succ]; rfl) (by kernel_rfl) (by kernel_rfl) (by kernel_rfl) (by intro _ _ _ h; exact h) (Or.inl ⟨by rfl, ?_⟩) (by assumption) ?_; rotate_left; (focus (intro w1 hSw; (try dsimp only at hSw); go_simp; (try with_reducible rfl))); (try simp only [Act.put, List.setIfInBounds_toArray, List.set_cons_zero, List.set_cons_succ, List.getElem_toArray, List.getElem_cons_zero, List.getElem_cons_succ])
          refine wpAnyH_take (i := 7) (v := ?_) (by simp only [List.getElem?_toArray, List.getElem?_cons_zero, List.getElem?_cons_succ]; rfl) (by kernel_rfl) (by kernel_rfl) (by kernel_rfl) (by intro _ _ _ h; exact h) (Or.inl ⟨by rfl, ?_⟩) (by assumption) ?_; rotate_left; (focus (intro w1 hSw; (try dsimp only at hSw); go_simp; (try with_reducible rfl))); (try simp only [Act.put, List.setIfInBounds_toArray, List.set_cons_zero, List.set_cons_succ, List.getElem_toArray, List.getElem_cons_zero, List.getElem_cons_succ])
          refine wpAnyH_take (i := 8) (v := ?_) (by simp only [List.getElem?_toArray, List.getElem?_cons_zero, List.getElem?_cons_succ]; rfl) (by kernel_rfl) (by kernel_rfl) (by kernel_rfl) (by intro _ _ _ h; exact h) (Or.inl ⟨by rfl, ?_⟩) (by assumption) ?_; rotate_left; (focus (intro w1 hSw; (try dsimp only at hSw); go_simp; (try with_reducible rfl))); (try simp only [Act.put, List.setIfInBounds_toArray, List.set_cons_zero, List.set_cons_succ, List.getElem_toArray, List.getElem_cons_zero, List.getElem_cons_succ])
          refine wpAnyH_take (i := 9) (v := ?_) (by simp only [List.getElem?_toArray, List.getElem?_cons_zero, List.getElem?_cons_succ]; rfl) (by kernel_rfl) (by kernel_rfl) (by kernel_rfl) (by intro _ _ _ h; exact h) (Or.inl ⟨by rfl, ?_⟩) (by assumption) ?_; rotate_left; (focus (intro w1 hSw; (try dsimp only at hSw); go_simp; (try with_reducible rfl))); (try simp only [Act.put, List.setIfInBounds_toArray, List.set_cons_zero, List.set_cons_succ, List.getElem_toArray, List.getElem_cons_zero, List.getElem_cons_succ])
          refine wpAnyH_take (i := 10) (v := ?_) (by simp only [List.getElem?_toArray, List.getElem?_cons_zero, List.getElem?_cons_succ]; rfl) (by kernel_rfl) (by kernel_rfl) (by kernel_rfl) (by intro _ _ _ h; exact h) (Or.inl ⟨by rfl, ?_⟩) (by assumption) ?_; rotate_left; (focus (intro w1 hSw; (try dsimp only at hSw); go_simp; (try with_reducible rfl))); (try simp only [Act.put, List.setIfInBounds_toArray, List.set_cons_zero, List.set_cons_succ, List.getElem_toArray, List.getElem_cons_zero, List.getElem_cons_succ])
          refine wpAnyH_take (i := 11) (v := ?_) (by simp only [List.getElem?_toArray, List.getElem?_cons_zero, List.getElem?_cons_succ]; rfl) (by kernel_rfl) (by kernel_rfl) (by kernel_rfl) (by intro _ _ _ h; exact h) (Or.inl ⟨by rfl, ?_⟩) (by assumption) ?_; rotate_left; (focus (intro w1 hSw; (try dsimp only at hSw); go_simp; (try with_reducible rfl))); (try simp only [Act.put, List.setIfInBounds_toArray, List.set_cons_zero, List.set_cons_succ, List.getElem_toArray, List.getElem_cons_zero, List.getElem_cons_succ])
          refine wpAnyH_take (i := 12) (v := ?_) (by simp only [List.getElem?_toArray, List.getElem?_cons_zero, List.getElem?_cons_succ]; rfl) (by kernel_rfl) (by kernel_rfl) (by kernel_rfl) (by intro _ _ _ h; exact h) (Or.inl ⟨by rfl, ?_⟩) (by assumption) ?_; rotate_left; (focus (intro w1 hSw; (try dsimp only at hSw); go_simp; (try with_reducible rfl))); (try simp only [Act.put, List.setIfInBounds_toArray, List.set_cons_zero, List.set_cons_succ, List.getElem_toArray, List.getElem_cons_zero, List.getElem_cons_succ])
          refine wpAnyH_take (i := 14) (v := ?_) (by simp only [List.getElem?_toArray, List.getElem?_cons_zero, List.getElem?_cons_succ]; rfl) (by kernel_rfl) (by kernel_rfl) (by kernel_rfl) (by intro _ _ _ h; exact h) (Or.inl ⟨by rfl, ?_⟩) (by assumption) ?_; rotate_left; (focus (intro w1 hSw; (try dsimp only at hSw); go_simp; (try with_reducible rfl))); (try simp only [Act.put, List.setIfInBounds_toArray, List.set_cons_zero, List.set_cons_succ, List.getElem_toArray, List.getElem_cons_zero, List.getElem_cons_succ])
          refine wpAnyH_ready (rs := [13]) (by kernel_rfl) (by simp) ?_; refine AllReadyH.cons (by simp only [List.getElem?_toArray, List.getElem?_cons_zero, List.getElem?_cons_succ]; rfl) (fun K hK => ?_) AllReadyH.nil
          rw [if_pos (by rfl)]; go_wp2_with fail
          by_cases hpp : perN dy tm = p
          · have R : Hid (ct - sumQ ⟨nm, sy, dy, ct⟩ p ((cvs l).take (k + 1)) = L - cn) := Lib.hid (by
              rw [HSK.out, if_pos (by unfold inP; rw [hm]; simp [hpp])]
              have := HL.out; omega)
            have hpe : (perN dy tm == p) = true := by simp [hpp]
            generalize perN dy tm = pe at *
            clear hm HSK HL hpp
            refine (CP2.out _).mono ?_
            rintro e wm ⟨rfl, hbn⟩
            have HBN3 := Lib.hid (HBN2.out.st hbn)
            have hSS : (fun w' : World => w'.cell? ⟨kb, 0, none⟩ = some (.string nm) ∧ w'.cell? ⟨kb, 1, none⟩ = some (.string sy) ∧ w'.cell? ⟨kb, 2, none⟩ = some (.int .i64 dy) ∧ w'.cell? ⟨kb, 3, none⟩ = some (.int .i64 ct) ∧ w'.cell? ⟨b, off + k * 7, none⟩ = some (.string key) ∧ w'.cell? ⟨b, off + k * 7 + 1, none⟩ = some (.string veh) ∧ w'.cell? ⟨b, off + k * 7 + 2, none⟩ = some (.string sys) ∧ w'.cell? ⟨b, off + k * 7 + 3, none⟩ = some (.int .i64 cls) ∧ w'.cell? ⟨b, off + k * 7 + 4, none⟩ = some (.int .i64 tm) ∧ w'.cell? ⟨b, off + k * 7 + 5, none⟩ = some (.slice lA lns.length lc) ∧ w'.cell? ⟨b, off + k * 7 + 6, none⟩ = some (.int .i64 cn)) wm := HKP.out _ HBN3.out
            clear hbn
            go_wp2_with fail
            refine hK.out _ _ ?_ (fun hHeld => ?_)
            · exact hSS
            clear hK K
            (try simp only [Act.put, List.setIfInBounds_toArray, List.set_cons_zero, List.set_cons_succ, List.getElem_toArray, List.getElem_cons_zero, List.getElem_cons_succ])
            refine wpAnyH_take (i := 15) (v := ?_) (by simp only [List.getElem?_toArray, List.getElem?_cons_zero, List.getElem?_cons_succ]; rfl) (by kernel_rfl) (by kernel_rfl) (by kernel_rfl) (by intro _ _ _ h; exact h) (Or.inl ⟨by rfl, ?_⟩) (by assumption) ?_; rotate_left; (focus (intro w1 hSw; (try dsimp only at hSw); go_simp; (try with_reducible rfl))); (try simp only [Act.put, List.setIfInBounds_toArray, List.set_cons_zero, List.set_cons_succ, List.getElem_toArray, List.getElem_cons_zero, List.getElem_cons_succ])
            refine wpAnyH_take (i := 16) (v := ?_) (by simp only [List.getElem?_toArray, List.getElem?_cons_zero, List.getElem?_cons_succ]; rfl) (by kernel_rfl) (by kernel_rfl) (by kernel_rfl) (by intro _ _ _ h; exact h) (Or.inl ⟨by rfl, ?_⟩) (by assumption) ?_; rotate_left; (focus (intro w1 hSw; (try dsimp only at hSw); go_simp; (try with_reducible rfl))); (try simp only [Act.put, List.setIfInBounds_toArray, List.set_cons_zero, List.set_cons_succ, List.getElem_toArray, List.getElem_cons_zero, List.getElem_cons_succ])
            refine wpAnyH_done (by kernel_rfl) ?_ _
            have HB5 := Lib.hid (HBW.out.st HBN3.out)
            have HBK5 := Lib.hid (HBK.out.below HBN3.out HBK.out.lt)
            have d6 := HD6.out _ HBN3.out
            clear hSS hHeld HBN HBN2 HBN3 HKP HD6
            clear hpe
            go_wp2_with fail
            go_roundw
            case rel => exact ⟨k + 1, L - cn, HK.out, rfl, by go_num, R, HB5.out, HBK5.out⟩
            case measure => have := HK.out; simp [RowKit.intOf]; omega
          · have R : Hid (ct - sumQ ⟨nm, sy, dy, ct⟩ p ((cvs l).take (k + 1)) = L) := Lib.hid (by
              rw [HSK.out, if_neg (by unfold inP; rw [hm]; simp [hpp])]
              have := HL.out; omega)
            have hpe : (perN dy tm == p) = false := by simp [hpp]
            generalize perN dy tm = pe at *
            clear hm HSK HL hpp
            refine (CP2.out _).mono ?_
            rintro e wm ⟨rfl, hbn⟩
            have HBN3 := Lib.hid (HBN2.out.st hbn)
            have hSS : (fun w' : World => w'.cell? ⟨kb, 0, none⟩ = some (.string nm) ∧ w'.cell? ⟨kb, 1, none⟩ = some (.string sy) ∧ w'.cell? ⟨kb, 2, none⟩ = some (.int .i64 dy) ∧ w'.cell? ⟨kb, 3, none⟩ = some (.int .i64 ct) ∧ w'.cell? ⟨b, off + k * 7, none⟩ = some (.string key) ∧ w'.cell? ⟨b, off + k * 7 + 1, none⟩ = some (.string veh) ∧ w'.cell? ⟨b, off + k * 7 + 2, none⟩ = some (.string sys) ∧ w'.cell? ⟨b, off + k * 7 + 3, none⟩ = some (.int .i64 cls) ∧ w'.cell? ⟨b, off + k * 7 + 4, none⟩ = some (.int .i64 tm) ∧ w'.cell? ⟨b, off + k * 7 + 5, none⟩ = some (.slice lA lns.length lc) ∧ w'.cell? ⟨b, off + k * 7 + 6, none⟩ = some (.int .i64 cn)) wm := HKP.out _ HBN3.out
            clear hbn
            go_wp2_with fail
            refine hK.out _ _ ?_ (fun hHeld => ?_)
            · exact hSS
            clear hK K
            (try simp only [Act.put, List.setIfInBounds_toArray, List.set_cons_zero, List.set_cons_succ, List.getElem_toArray, List.getElem_cons_zero, List.getElem_cons_succ])
            refine wpAnyH_take (i := 15) (v := ?_) (by simp only [List.getElem?_toArray, List.getElem?_cons_zero, List.getElem?_cons_succ]; rfl) (by kernel_rfl) (by kernel_rfl) (by kernel_rfl) (by intro _ _ _ h; exact h) (Or.inl ⟨by rfl, ?_⟩) (by assumption) ?_; rotate_left; (focus (intro w1 hSw; (try dsimp only at hSw); go_simp; (try with_reducible rfl))); (try simp only [Act.put, List.setIfInBounds_toArray, List.set_cons_zero, List.set_cons_succ, List.getElem_toArray, List.getElem_cons_zero, List.getElem_cons_succ])
            refine wpAnyH_take (i := 16) (v := ?_) (by simp only [List.getElem?_toArray, List.getElem?_cons_zero, List.getElem?_cons_succ]; rfl) (by kernel_rfl) (by kernel_rfl) (by kernel_rfl) (by intro _ _ _ h; exact h) (Or.inl ⟨by rfl, ?_⟩) (by assumption) ?_; rotate_left; (focus (intro w1 hSw; (try dsimp only at hSw); go_simp; (try with_reducible rfl))); (try simp only [Act.put, List.setIfInBounds_toArray, List.set_cons_zero, List.set_cons_succ, List.getElem_toArray, List.getElem_cons_zero, List.getElem_cons_succ])
            refine wpAnyH_done (by kernel_rfl) ?_ _
            have HB5 := Lib.hid (HBW.out.st HBN3.out)
            have HBK5 := Lib.hid (HBK.out.below HBN3.out HBK.out.lt)
            clear hSS hHeld HBN HBN2 HBN3 HKP HD6
            clear hpe
            go_wp2_with fail
            go_roundw
            case rel => exact ⟨k + 1, L, HK.out, rfl, by go_num, R, HB5.out, HBK5.out⟩
            case measure => have := HK.out; simp [RowKit.intOf]; omega
      · obtain rfl : k = l.length := by omega
        have HLN : Hid (ct - sumQ ⟨nm, sy, dy, ct⟩ p (cvs l) = L) := Lib.hid (by rw [← HL.out, List.take_of_length_le (Nat.le_of_eq (cvs_len2 l))])
        clear HL x3
        go_wp2_with fail
        go_ret
        rw [HLN.out]
        exact ⟨rfl, bW⟩
end Go.Proofs.YtlnnbkpcnhlfcaaDoor
/- The reference's check, walked. -/
set_option linter.unusedSimpArgs false
namespace Go.Proofs.YtlnnbkpcnhlfcaaDoor
open Go.RowKit Go.Lib

set_option maxRecDepth 100000 in
set_option maxHeartbeats 8000000 in
theorem rchk_any {Ac A : Option Addr} (cc c : Nat) {caps : List Cp} {l : List Cg} {w : World} (hC : Rd encCp 4 w w.heap.size Ac caps) (hr : Rd encCg 7 w w.heap.size A l) (hcl : caps.length ≤ 9223372036854775807) (hll : l.length ≤ 9223372036854775807) :
    Calls Tryd.prog 73 #[.slice Ac caps.length cc, .slice A l.length c] w fun e w' => e = .returned (.int .i64 (applyE caps (cvs l))) ∧ Below w.heap.size w w' := by
  have hcv : (cvs l).length = l.length := by unfold cvs; simp
  have HC := Lib.hid hC
  have HR := Lib.hid hr
  clear hC hr
  by_cases q1 : 12 < caps.length
  · have R : Hid (applyE caps (cvs l) = 3) := Lib.hid (by unfold applyE; rw [if_pos (.inl q1)])
    go_enter Tryd.func73, Tryd.ntmps73
    go_wp2_with fail
    go_ret
    exact ⟨ret_int R.out.symm, Below.refl _ _⟩
  by_cases q2 : 1024 < l.length
  · have R : Hid (applyE caps (cvs l) = 3) := Lib.hid (by unfold applyE; rw [if_pos (.inr (by rw [hcv]; exact q2))])
    go_enter Tryd.func73, Tryd.ntmps73
    go_wp2_with fail
    go_ret
    exact ⟨ret_int R.out.symm, Below.refl _ _⟩
  have HE : Hid (applyE caps (cvs l) = if firstI (caps.map capE) ≠ 0 then firstI (caps.map capE) else firstI ((cvs l).map chE)) := Lib.hid (by unfold applyE; rw [if_neg (by rw [hcv]; omega)])
  go_enter Tryd.func73, Tryd.ntmps73
  go_wp2_with fail
  go_loopw [5] (fun i wr => ∃ k : Nat, k ≤ caps.length ∧ i = .int .i64 k ∧ Hid (∀ y ∈ (caps.map capE).take k, y = 0) ∧ Below w.heap.size w wr) (fun i _ => caps.length - (RowKit.intOf i).toNat)
  case atStart => exact ⟨0, Nat.zero_le _, rfl, (by unfold Hid; simp), Below.refl _ _⟩
  case round =>
    obtain ⟨k, hk, rfl, HZ, bW⟩ := hrel
    by_cases hi : k < caps.length
    · obtain ⟨b, off, x, hA1, hb, hx, d0, d1, d2, d3⟩ := (HC.out.st bW).cp hi
      have HK := Lib.hid hi
      have HY := Lib.hid (fun (q : capE x ≠ 0) => firstI_yes HZ.out (by rw [List.getElem?_map, hx]; rfl) q)
      have HN := Lib.hid (fun (q : capE x = 0) => zero_succ hx HZ.out q)
      subst hA1
      obtain ⟨nm, sy, dy, ct⟩ := x
      simp only at *
      have hi1 : (0 : Int) ≤ (k : Int) := by omega
      have hi2 : (k : Int) < (caps.length : Int) := by omega
      have CK := Lib.hid (fun (X : World) => rcheck25_any nm sy dy ct X)
      generalize capE ⟨nm, sy, dy, ct⟩ = ce at CK HY HN
      clear hx hi hb HZ
      go_wp2_with fail
      refine (CK.out _).mono ?_
      rintro e w6 ⟨rfl, hbn⟩
      have bW := bW.st hbn
      clear hbn
      by_cases hce : ce = 0
      · have R := Lib.hid (HN.out hce)
        subst hce
        clear HN HY
        go_wp2_with fail
        go_roundw
        case rel => exact ⟨k + 1, HK.out, by go_num, R, bW⟩
        case measure => have := HK.out; simp [RowKit.intOf]; omega
      · have R2 : Hid (applyE caps (cvs l) = ce) := Lib.hid (by rw [HE.out, HY.out hce, if_pos hce])
        have hce2 : (ce != 0) = true := by simp [hce]
        clear HN HY hce
        go_wp2_with fail
        go_ret
        exact ⟨ret_int R2.out.symm, bW⟩
    · obtain rfl : k = caps.length := by omega
      have HF0 : Hid (firstI (caps.map capE) = 0) := Lib.hid (zero_all (by simpa using HZ.out))
      have HE2 : Hid (applyE caps (cvs l) = firstI ((cvs l).map chE)) := Lib.hid (by rw [HE.out, if_neg (by simp [HF0.out])])
      have HB0 := Lib.hid bW
      clear HZ bW
      go_wp2_with fail
      go_loopw [7] (fun i wr => ∃ k : Nat, k ≤ l.length ∧ i = .int .i64 k ∧ Hid (∀ y ∈ ((cvs l).map chE).take k, y = 0) ∧ Below w.heap.size w wr) (fun i _ => l.length - (RowKit.intOf i).toNat)
      case atStart => exact ⟨0, Nat.zero_le _, rfl, (by unfold Hid; simp), HB0.out⟩
      case round =>
        clear HB0
        obtain ⟨k, hk, rfl, HZ, bW⟩ := hrel
        by_cases hi : k < l.length
        · obtain ⟨b, off, x, hA1, hb, hx, -, -, -, -, d4, -, d6⟩ := (HR.out.st bW).cg hi
          have HK := Lib.hid hi
          have hxc : (cvs l)[k]? = some x.c := by unfold cvs; rw [List.getElem?_map, hx]; rfl
          have HY := Lib.hid (fun (q : chE x.c ≠ 0) => firstI_yes HZ.out (by rw [List.getElem?_map, hxc]; rfl) q)
          have HN := Lib.hid (fun (q : chE x.c = 0) => zero_succ hxc HZ.out q)
          subst hA1
          obtain ⟨⟨key, veh, sys, cls, tm, lns, cn⟩, lA, lc⟩ := x
          simp only at *
          have hi1 : (0 : Int) ≤ (k : Int) := by omega
          have hi2 : (k : Int) < (l.length : Int) := by omega
          have CA := Lib.hid (fun (X : World) => ram_any cn X)
          have CT := Lib.hid (fun (X : World) => risTime_any tm X)
          have CD := Lib.hid (fun (X : World) => rday_any tm X)
          have CI := Lib.hid (fun (X : World) => risDay_any (dayN tm) X)
          clear hx hxc hi hb HZ
          have HCE : Hid (chE ⟨key, veh, sys, cls, tm, lns, cn⟩ = if amB cn = false then 13 else if (decide (0 ≤ tm ∧ tm < 68719476736) && decide (0 ≤ dayN tm ∧ dayN tm < 795364)) = false then 12 else 0) := Lib.hid rfl
          generalize hz1 : decide (0 ≤ tm ∧ tm < 68719476736) = t1 at *
          generalize hz2 : decide (0 ≤ dayN tm ∧ dayN tm < 795364) = t2 at *
          generalize dayN tm = dd at *
          cases ha : amB cn
          · have R2 : Hid (applyE caps (cvs l) = 13) := Lib.hid (by
              rw [HE2.out]
              have e : chE ⟨key, veh, sys, cls, tm, lns, cn⟩ = 13 := by rw [HCE.out, if_pos ha]
              rw [HY.out (by rw [e]; decide), e])
            rw [ha] at CA
            clear HN HY HCE ha hz1 hz2
            go_wp2_with fail
            refine (CA.out _).mono ?_
            rintro e w7 ⟨rfl, rfl⟩
            go_wp2_with fail
            go_ret
            exact ⟨ret_int R2.out.symm, bW⟩
          · rw [ha] at CA
            cases t1
            · have R2 : Hid (applyE caps (cvs l) = 12) := Lib.hid (by
                rw [HE2.out]
                have e : chE ⟨key, veh, sys, cls, tm, lns, cn⟩ = 12 := by rw [HCE.out, ha]; simp
                rw [HY.out (by rw [e]; decide), e])
              clear HN HY HCE ha hz1 hz2
              go_wp2_with fail
              refine (CA.out _).mono ?_
              rintro e w7 ⟨rfl, rfl⟩
              go_wp2_with fail
              refine (CT.out _).mono ?_
              rintro e w8 ⟨rfl, rfl⟩
              go_wp2_with fail
              go_ret
              exact ⟨ret_int R2.out.symm, bW⟩
            · cases t2
              · have R2 : Hid (applyE caps (cvs l) = 12) := Lib.hid (by
                  rw [HE2.out]
                  have e : chE ⟨key, veh, sys, cls, tm, lns, cn⟩ = 12 := by rw [HCE.out, ha]; simp
                  rw [HY.out (by rw [e]; decide), e])
                clear HN HY HCE ha hz1 hz2
                go_wp2_with fail
                refine (CA.out _).mono ?_
                rintro e w7 ⟨rfl, rfl⟩
                go_wp2_with fail
                refine (CT.out _).mono ?_
                rintro e w8 ⟨rfl, rfl⟩
                go_wp2_with fail
                refine (CD.out _).mono ?_
                rintro e w9 ⟨rfl, rfl⟩
                go_wp2_with fail
                refine (CI.out _).mono ?_
                rintro e w10 ⟨rfl, rfl⟩
                go_wp2_with fail
                go_ret
                exact ⟨ret_int R2.out.symm, bW⟩
              · have R := Lib.hid (HN.out (by rw [HCE.out, ha]; simp))
                clear HN HY HCE ha hz1 hz2
                go_wp2_with fail
                refine (CA.out _).mono ?_
                rintro e w7 ⟨rfl, rfl⟩
                go_wp2_with fail
                refine (CT.out _).mono ?_
                rintro e w8 ⟨rfl, rfl⟩
                go_wp2_with fail
                refine (CD.out _).mono ?_
                rintro e w9 ⟨rfl, rfl⟩
                go_wp2_with fail
                refine (CI.out _).mono ?_
                rintro e w10 ⟨rfl, rfl⟩
                go_wp2_with fail
                go_roundw
                case rel => exact ⟨k + 1, HK.out, by go_num, R, bW⟩
                case measure => have := HK.out; simp [RowKit.intOf]; omega
        · obtain rfl : k = l.length := by omega
          have R : Hid (applyE caps (cvs l) = 0) := Lib.hid (by rw [HE2.out]; exact zero_all (by simpa [hcv] using HZ.out))
          clear HZ
          go_wp2_with fail
          go_ret
          exact ⟨ret_int R.out.symm, bW⟩
end Go.Proofs.YtlnnbkpcnhlfcaaDoor
