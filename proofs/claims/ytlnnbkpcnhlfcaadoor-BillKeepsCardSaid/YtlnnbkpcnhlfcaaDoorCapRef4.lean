/- The reference's Apply, walked. -/
import Derived.Test.YtlnnbkpcnhlfcaaDoorCapRef1
import Derived.Test.YtlnnbkpcnhlfcaaDoorCapRef2
import Derived.Test.YtlnnbkpcnhlfcaaDoorCapRef3
import Derived.Test.YtlnnbkpcnhlfcaaDoorJMake
import Derived.Deep.DeepCutAuto
set_option linter.unusedSimpArgs false
set_option linter.unusedSimpArgs false
namespace Go.Proofs.YtlnnbkpcnhlfcaaDoor
open Go.RowKit Go.Lib

theorem tyBo : TyS Tryd.prog 134 4 1 1 := TyS.mk' (z := .bool false) Tryd.underlying134 (by kernel_rfl) rfl (by omega)
set_option maxRecDepth 100000 in
set_option maxHeartbeats 16000000 in
theorem rapply_any {Ac A : Option Addr} (cc c : Nat) {caps : List Cp} {l : List Cg} {w : World} (hC : Rd encCp 4 w w.heap.size Ac caps) (hr : Rd encCg 7 w w.heap.size A l) (hcl : caps.length ≤ 9223372036854775807) (hll : l.length ≤ 9223372036854775807) :
    Calls Tryd.prog 41 #[.slice Ac caps.length cc, .slice A l.length c] w fun e w' => PaidR caps (cvs l) w w' e := by
  have hcv : (cvs l).length = l.length := by unfold cvs; simp
  have CK := Lib.hid (rchk_any cc c hC hr hcl hll)
  have HC := Lib.hid hC
  have HR := Lib.hid hr
  clear hC hr
  by_cases he : applyE caps (cvs l) = 0
  · obtain ⟨hc12, hl24, hca, hxa⟩ := applyE_ok he
    rw [he] at CK
    have HE := Lib.hid he
    have HCO : Hid (∀ c ∈ caps, (0 ≤ c.ct ∧ c.ct ≤ 1125899906842624) ∧ (c.days = 0 ∨ c.days = 1)) := Lib.hid (fun c hc => ⟨capE_ok (hca c hc), capE_days (hca c hc)⟩)
    have HXO : Hid (∀ x ∈ cvs l, (0 ≤ x.ct ∧ x.ct ≤ 1125899906842624) ∧ btmB x.tm = true) := Lib.hid (fun x hx => chE_ok (hxa x hx))
    rw [hcv] at hl24
    clear he hca hxa
    go_enter Tryd.func41, Tryd.ntmps41
    go_wp2_with fail
    refine CK.out.mono ?_
    rintro e w5 ⟨rfl, bW⟩
    clear CK
    obtain ⟨oc, hoc⟩ : ∃ oc, w5.heap.size = oc := ⟨_, rfl⟩
    have how : w.heap.size ≤ oc := by have := bW.size; omega
    go_wp2_with (first | (refine wpList_makeZ rfl (.tmp 21) (.tmp 21) tyI encI_ok rfl w5.heap.size 0 (.int .i64 0) (by kernel_rfl) rfl .i64 .i64 l.length rfl rfl (by omega) (by omega) (Nat.le_refl _) ?_; intro w7 hout hb7 hs7; obtain ⟨dc, hdc⟩ : ∃ dc, w7.heap.size = dc := ⟨_, rfl⟩) | (refine wpList_makeZ rfl (.tmp 24) (.tmp 24) tyBo encBo_ok rfl w7.heap.size false (.bool false) (by kernel_rfl) rfl .i64 .i64 l.length rfl rfl (by omega) (by omega) (Nat.le_refl _) ?_; intro w8 hdn hb8 hs8))
    have HOUT := Lib.hid (hout.keep hb8 (Nat.le_refl _))
    have HB0 := Lib.hid (bW.trans ((hb7.trans (hb8.mono hb7.size)).mono bW.size))
    rw [hoc] at HOUT hs7
    rw [hdc] at hdn hs7 hs8
    have HDN : Hid (Own 4 encBo 1 w8 oc (some ⟨dc, 0, none⟩) l.length (doneL (cvs l) 0)) := Lib.hid (by rw [doneL_0, hcv]; exact hdn.mono (by omega))
    have HO0 : Hid (runF caps (cvs l) ((ordN (cvs l)).take 0) = ([], List.replicate l.length 0)) := Lib.hid (by unfold runF; rw [hcv]; rfl)
    clear hout hdn hb7 hb8 bW hoc hdc
    have hocd : oc ≠ dc := by omega
    go_loopw [9, 10] (fun vp vn wr => ∃ (n : Nat) (h : Hs) (o : List Int) (pl : List Cg) (A' : Option Addr) (c' : Nat), n ≤ l.length ∧ vp = .slice A' pl.length c' ∧ vn = .int .i64 n ∧ pl.length = n ∧ o.length = l.length ∧ Hid (runF caps (cvs l) ((ordN (cvs l)).take n) = (h, o)) ∧ Hid (cvs pl = paidC h) ∧ Own 3 encI 1 wr oc (some ⟨oc, 0, none⟩) l.length o ∧ Own 4 encBo 1 wr oc (some ⟨dc, 0, none⟩) l.length (doneL (cvs l) n) ∧ Own 82 encCg 7 wr oc A' c' pl ∧ Below w.heap.size w wr) (fun _ vn _ => l.length - (RowKit.intOf vn).toNat)
    case atStart => exact ⟨0, [], List.replicate l.length 0, [], none, 0, Nat.zero_le _, rfl, rfl, rfl, List.length_replicate, HO0, Lib.hid rfl, HOUT.out, HDN.out, Own.nil _ _, HB0.out⟩
    case round =>
      clear HOUT HDN HO0 HB0
      obtain ⟨wo, rfl⟩ : ∃ wo, wo = wr := ⟨_, rfl⟩
      obtain ⟨n, h, o, pl, A', c', hn, rfl, rfl, hpn, hol, HH, HP, hout, hdn, hpl, bW⟩ := hrel
      by_cases hi : n < l.length
      · obtain ⟨ix, hix⟩ : ∃ ix, (ordN (cvs l))[n]? = some ix := ⟨_, List.getElem?_eq_getElem (by rw [ordN_len, hcv]; exact hi)⟩
        have hixl : ix < l.length := by have := ordN_lt (List.mem_of_getElem? hix); rwa [hcv] at this
        have hbest := best_next hix
        rw [hcv] at hbest
        have CN := Lib.hid (rnext_any c l.length n (HR.out.st bW) (hdn.rd encBo_ok) (by omega))
        rw [hbest] at CN
        have hdl : (doneL (cvs l) n).length = l.length := by rw [doneL_len, hcv]
        obtain ⟨b2, off2, x, hA2, hb2, hxl, e0, e1, e2, e3, e4, e5, e6⟩ := (HR.out.st bW).cg hixl
        have HXA := Lib.hid (chAt_of (cs := cvs l) (i := ix) (x := x.c) (by unfold cvs; rw [List.getElem?_map, hxl]; rfl))
        have hxo := HXO.out x.c (List.mem_map.2 ⟨x, List.mem_of_getElem? hxl, rfl⟩)
        have hpi : ∀ i ∈ (ordN (cvs l)).take n, i < (cvs l).length := fun i hi => ordN_lt (List.mem_of_mem_take hi)
        have HI : Hid (HInv caps h) := Lib.hid (by
          have := runF_inv (caps := caps) (cs := cvs l) (fun c hc => (HCO.out c hc).1.1) (fun x hx => (HXO.out x hx).1.1) ((ordN (cvs l)).take n) hpi
          rw [HH.out] at this; exact this)
        have HPB : Hid (∀ x ∈ cvs pl, 0 ≤ x.ct ∧ x.ct ≤ 1125899906842624) := Lib.hid (by
          have := runF_pay (caps := caps) (cs := cvs l) (fun c hc => (HCO.out c hc).1.1) (fun x hx => (HXO.out x hx).1) ((ordN (cvs l)).take n) hpi
          rw [HH.out] at this
          rw [HP.out]
          intro x hx
          obtain ⟨y, hy, rfl⟩ := List.mem_map.1 hx
          exact this y hy)
        have HST : Hid (runF caps (cvs l) ((ordN (cvs l)).take (n + 1)) = stp caps (cvs l) (h, o) ix) := Lib.hid (by rw [take_snoc hix, runF_snoc, HH.out])
        have HDS := Lib.hid (doneL_succ hix)
        have HDA := Lib.hid (doneL_at (cs := cvs l) (n := n) (j := ix) (by rw [hcv]; exact hixl))
        have HK := Lib.hid hi
        subst hA2
        obtain ⟨⟨key, veh, sys, cls, tm, lns, cn⟩, lA, lc⟩ := x
        simp only at *
        obtain ⟨⟨hcn0, hcn1⟩, hbt⟩ := hxo
        have HBT := Lib.hid hbt
        have hi1 : (0 : Int) ≤ (ix : Int) := by omega
        have hi2 : (ix : Int) < (l.length : Int) := by omega
        have HOUT := Lib.hid hout
        have HDN := Lib.hid hdn
        have HPL := Lib.hid hpl
        have HBW := Lib.hid bW
        clear hix hbest hxl hb2 hpi hbt hout hdn hpl bW hi
        go_wp2_with fail
        refine CN.out.mono ?_
        rintro e wd ⟨rfl, m, rfl⟩
        obtain ⟨wd, hwd⟩ : ∃ X, wo.drewN m = X := ⟨_, rfl⟩
        rw [hwd]
        have f0 : wd.cell? ⟨b2, off2 + ix * 7, none⟩ = some (.string key) := by rw [← hwd]; exact e0
        have f1 : wd.cell? ⟨b2, off2 + ix * 7 + 1, none⟩ = some (.string veh) := by rw [← hwd]; exact e1
        have f2 : wd.cell? ⟨b2, off2 + ix * 7 + 2, none⟩ = some (.string sys) := by rw [← hwd]; exact e2
        have f3 : wd.cell? ⟨b2, off2 + ix * 7 + 3, none⟩ = some (.int .i64 cls) := by rw [← hwd]; exact e3
        have f4 : wd.cell? ⟨b2, off2 + ix * 7 + 4, none⟩ = some (.int .i64 tm) := by rw [← hwd]; exact e4
        have f5 : wd.cell? ⟨b2, off2 + ix * 7 + 5, none⟩ = some (.slice lA lns.length lc) := by rw [← hwd]; exact e5
        have f6 : wd.cell? ⟨b2, off2 + ix * 7 + 6, none⟩ = some (.int .i64 cn) := by rw [← hwd]; exact e6
        have hwe : wd.heap = wo.heap := by rw [← hwd]; rfl
        have HOUT : Hid (Own 3 encI 1 wd oc (some ⟨oc, 0, none⟩) l.length o) := Lib.hid (by rw [← hwd]; exact HOUT.out)
        have HDN : Hid (Own 4 encBo 1 wd oc (some ⟨dc, 0, none⟩) l.length (doneL (cvs l) n)) := Lib.hid (by rw [← hwd]; exact HDN.out)
        have HPL : Hid (Own 82 encCg 7 wd oc A' c' pl) := Lib.hid (by rw [← hwd]; exact HPL.out)
        have HBW : Hid (Below w.heap.size w wd) := Lib.hid (by rw [← hwd]; exact below_drewN HBW.out m)
        clear e0 e1 e2 e3 e4 e5 e6 CN hwd hwe
        obtain ⟨xb, hxb⟩ : ∃ xb, wd.heap.size = xb := ⟨_, rfl⟩
        obtain ⟨Y5, hY5⟩ : ∃ Y, wd.alloc (.cells #[.string key, .string veh, .string sys, .int .i64 cls, .int .i64 tm, .slice lA lns.length lc, .int .i64 cn] 82) = Y := ⟨_, rfl⟩
        have BX : Blk Y5 xb #[.string key, .string veh, .string sys, .int .i64 cls, .int .i64 tm, .slice lA lns.length lc, .int .i64 cn] 82 := by rw [← hY5, ← hxb]; exact Blk.new _ _ _
        have hbn : Below wd.heap.size wd Y5 := by rw [← hY5]; exact (Below.refl _ _).al _
        have hsz : Y5.heap.size = xb + 1 := by rw [← hY5, ← hxb]; simp
        have HOUT5 := Lib.hid (HOUT.out.keep hbn (Nat.le_refl _))
        have HDN5 := Lib.hid (HDN.out.keep hbn (Nat.le_refl _))
        have HPL5 := Lib.hid (HPL.out.keep hbn (Nat.le_refl _))
        have HBW5 := Lib.hid (HBW.out.st hbn)
        have hoxb : oc < xb := by have := HOUT.out.form; rcases this with ⟨q, _⟩ | ⟨g, q, _, q2⟩; · cases q
                                  · injection q with q; injection q with q; omega
        have hdxb : dc < xb := by have := HDN.out.form; rcases this with ⟨q, _⟩ | ⟨g, q, _, q2⟩; · cases q
                                  · injection q with q; injection q with q; omega
        have HPX : Hid (∀ g, A' = some ⟨g, 0, none⟩ → g < xb) := Lib.hid (fun g q => by
          rcases HPL.out.form with ⟨q0, _⟩ | ⟨g', q1, _, q2⟩
          · rw [q] at q0; cases q0
          · rw [q] at q1; injection q1 with q1; injection q1 with q1; omega)
        have HKM := Lib.hid (KeepM.refl xb Y5)
        have HKP0 : Hid (w.heap.size ≤ xb) := Lib.hid (by omega)
        have HBX := Lib.hid BX
        have HP0 : Hid (payK caps h (⟨key, veh, sys, cls, tm, lns, cn⟩ : CV) 0 = cn) := Lib.hid rfl
        clear BX hbn HOUT HDN HPL HBW
        go_wp2_with fail
        clear f0 f1 f2 f3 f4 f5 f6
        go_loopw [13] (fun vk wr => ∃ (k : Nat) (nn : Int), k ≤ caps.length ∧ vk = .int .i64 k ∧ Hid (payK caps h (⟨key, veh, sys, cls, tm, lns, cn⟩ : CV) k = nn) ∧ Blk wr xb #[.string key, .string veh, .string sys, .int .i64 cls, .int .i64 tm, .slice lA lns.length lc, .int .i64 nn] 82 ∧ KeepM xb Y5 wr) (fun vk _ => caps.length - (RowKit.intOf vk).toNat)
        case atStart => exact ⟨0, cn, Nat.zero_le _, rfl, HP0, HBX.out, HKM.out⟩
        case round =>
          clear HP0 HKM HBX
          obtain ⟨k, nn, hk, rfl, HPK, hbx, hkm⟩ := hrel
          have hpb := payK_bnd (x := (⟨key, veh, sys, cls, tm, lns, cn⟩ : CV)) HI.out hcn0 k
          rw [HPK.out] at hpb
          obtain ⟨hn0, hn1⟩ := hpb
          have HBX := Lib.hid hbx
          have HKM := Lib.hid hkm
          have hxw : xb < wr.heap.size := hbx.lt
          have HWW := Lib.hid (HBW5.out.trans (hkm.bel.mono (by have := HBW5.out.size; have := HKP0.out; omega)))
          have HPLW : Hid (Own 82 encCg 7 wr oc A' c' pl) := Lib.hid (HPL5.out.keepB (fun g q hg => hkm.oth g hg (by have := HPX.out g q; omega)))
          clear hbx hkm
          by_cases hki : k < caps.length
          · obtain ⟨b3, off3, x, hA3, hb3, hxc, g0, g1, g2, g3⟩ := (HC.out.keep HWW.out).cp hki
            have HKK := Lib.hid hki
            have hco := HCO.out x (List.mem_of_getElem? hxc)
            have HPS := Lib.hid (payK_succ (h := h) (x := (⟨key, veh, sys, cls, tm, lns, cn⟩ : CV)) hxc)
            have hle := HI.out.2 x (List.mem_of_getElem? hxc) (perN x.days tm)
            have hLR : leftR x (paidC h) tm = leftN x h (⟨key, veh, sys, cls, tm, lns, cn⟩ : CV) := leftR_paid (x := (⟨key, veh, sys, cls, tm, lns, cn⟩ : CV)) hle (btm_perN hco.2 HBT.out)
            have hl0 : 0 ≤ leftN x h (⟨key, veh, sys, cls, tm, lns, cn⟩ : CV) := by unfold leftN; simp only; omega
            have hl1 : leftN x h (⟨key, veh, sys, cls, tm, lns, cn⟩ : CV) ≤ x.ct := by unfold leftN; have := sumP_nonneg HI.out.1 x (perN x.days tm); simp only; omega
            have CL := Lib.hid (fun (X : World) (hX : Below wr.heap.size wr X) => rleft_any x c' tm (l := pl) ((HPLW.out.keep hX (Nat.le_refl _)).rd encCg_ok) (by omega) HPB.out hco.1.1 hco.1.2)
            have hb3x : b3 < xb := by have := HKP0.out; omega
            subst hA3
            obtain ⟨nm, sy, dy, ct⟩ := x
            rw [HP.out, hLR] at CL
            generalize hlv : leftN ⟨nm, sy, dy, ct⟩ h (⟨key, veh, sys, cls, tm, lns, cn⟩ : CV) = lv at *
            simp only at *
            obtain ⟨⟨hct0, hct1⟩, -⟩ := hco
            have CM := Lib.hid (fun (X : World) => rmat_any ⟨nm, sy, dy, ct⟩ (⟨key, veh, sys, cls, tm, lns, nn⟩ : CV) lA lc X)
            simp only [CpV, CHV] at CM CL
            have hmx : matB ⟨nm, sy, dy, ct⟩ (⟨key, veh, sys, cls, tm, lns, nn⟩ : CV) = matB ⟨nm, sy, dy, ct⟩ (⟨key, veh, sys, cls, tm, lns, cn⟩ : CV) := rfl
            have hk1 : (0 : Int) ≤ (k : Int) := by omega
            have hk2 : (k : Int) < (caps.length : Int) := by omega
            have HKC : Hid (∀ W' : World, (∀ b, b < wr.heap.size → b ≠ xb → W'.heap[b]? = wr.heap[b]?) → W'.cell? ⟨b3, off3 + k * 4, none⟩ = some (.string nm) ∧ W'.cell? ⟨b3, off3 + k * 4 + 1, none⟩ = some (.string sy) ∧ W'.cell? ⟨b3, off3 + k * 4 + 2, none⟩ = some (.int .i64 dy) ∧ W'.cell? ⟨b3, off3 + k * 4 + 3, none⟩ = some (.int .i64 ct)) := Lib.hid (fun W' hW => by
              have e := hW b3 (by omega) (by omega)
              exact ⟨(World.cell?_of_block e).trans g0, (World.cell?_of_block e).trans g1, (World.cell?_of_block e).trans g2, (World.cell?_of_block e).trans g3⟩)
            have HKP : Hid (∀ W' : World, Below wr.heap.size wr W' → (fun w' : World => (w'.cell? ⟨b3, off3 + k * 4, none⟩ = some (.string nm) ∧ w'.cell? ⟨b3, off3 + k * 4 + 1, none⟩ = some (.string sy) ∧ w'.cell? ⟨b3, off3 + k * 4 + 2, none⟩ = some (.int .i64 dy) ∧ w'.cell? ⟨b3, off3 + k * 4 + 3, none⟩ = some (.int .i64 ct)) ∧ w'.cell? ⟨xb, 0, none⟩ = some (.string key) ∧ w'.cell? ⟨xb, 1, none⟩ = some (.string veh) ∧ w'.cell? ⟨xb, 2, none⟩ = some (.string sys) ∧ w'.cell? ⟨xb, 3, none⟩ = some (.int .i64 cls) ∧ w'.cell? ⟨xb, 4, none⟩ = some (.int .i64 tm) ∧ w'.cell? ⟨xb, 5, none⟩ = some (.slice lA lns.length lc) ∧ w'.cell? ⟨xb, 6, none⟩ = some (.int .i64 nn)) W') := Lib.hid (fun W' hW => by
              have B' := HBX.out.below hW HBX.out.lt
              exact ⟨HKC.out W' (fun b hb _ => hW.block b hb), B'.cell 0 rfl, B'.cell 1 rfl, B'.cell 2 rfl, B'.cell 3 rfl, B'.cell 4 rfl, B'.cell 5 rfl, B'.cell 6 rfl⟩)
            have HSS : Hid ((fun w' : World => (w'.cell? ⟨b3, off3 + k * 4, none⟩ = some (.string nm) ∧ w'.cell? ⟨b3, off3 + k * 4 + 1, none⟩ = some (.string sy) ∧ w'.cell? ⟨b3, off3 + k * 4 + 2, none⟩ = some (.int .i64 dy) ∧ w'.cell? ⟨b3, off3 + k * 4 + 3, none⟩ = some (.int .i64 ct)) ∧ w'.cell? ⟨xb, 0, none⟩ = some (.string key) ∧ w'.cell? ⟨xb, 1, none⟩ = some (.string veh) ∧ w'.cell? ⟨xb, 2, none⟩ = some (.string sys) ∧ w'.cell? ⟨xb, 3, none⟩ = some (.int .i64 cls) ∧ w'.cell? ⟨xb, 4, none⟩ = some (.int .i64 tm) ∧ w'.cell? ⟨xb, 5, none⟩ = some (.slice lA lns.length lc) ∧ w'.cell? ⟨xb, 6, none⟩ = some (.int .i64 nn)) wr) := Lib.hid (HKP.out wr (Below.refl _ _))
            clear hxc hb3 g0 g1 g2 g3 hki hle hLR
            go_wp2_with fail
            refine wp_region_held_drew (S := (fun w' : World => (w'.cell? ⟨b3, off3 + k * 4, none⟩ = some (.string nm) ∧ w'.cell? ⟨b3, off3 + k * 4 + 1, none⟩ = some (.string sy) ∧ w'.cell? ⟨b3, off3 + k * 4 + 2, none⟩ = some (.int .i64 dy) ∧ w'.cell? ⟨b3, off3 + k * 4 + 3, none⟩ = some (.int .i64 ct)) ∧ w'.cell? ⟨xb, 0, none⟩ = some (.string key) ∧ w'.cell? ⟨xb, 1, none⟩ = some (.string veh) ∧ w'.cell? ⟨xb, 2, none⟩ = some (.string sys) ∧ w'.cell? ⟨xb, 3, none⟩ = some (.int .i64 cls) ∧ w'.cell? ⟨xb, 4, none⟩ = some (.int .i64 tm) ∧ w'.cell? ⟨xb, 5, none⟩ = some (.slice lA lns.length lc) ∧ w'.cell? ⟨xb, 6, none⟩ = some (.int .i64 nn))) (by kernel_rfl) ?_ (fun hHeld => ?_)
            · exact HSS.out
            have hSS : (fun w' : World => (w'.cell? ⟨b3, off3 + k * 4, none⟩ = some (.string nm) ∧ w'.cell? ⟨b3, off3 + k * 4 + 1, none⟩ = some (.string sy) ∧ w'.cell? ⟨b3, off3 + k * 4 + 2, none⟩ = some (.int .i64 dy) ∧ w'.cell? ⟨b3, off3 + k * 4 + 3, none⟩ = some (.int .i64 ct)) ∧ w'.cell? ⟨xb, 0, none⟩ = some (.string key) ∧ w'.cell? ⟨xb, 1, none⟩ = some (.string veh) ∧ w'.cell? ⟨xb, 2, none⟩ = some (.string sys) ∧ w'.cell? ⟨xb, 3, none⟩ = some (.int .i64 cls) ∧ w'.cell? ⟨xb, 4, none⟩ = some (.int .i64 tm) ∧ w'.cell? ⟨xb, 5, none⟩ = some (.slice lA lns.length lc) ∧ w'.cell? ⟨xb, 6, none⟩ = some (.int .i64 nn)) wr.drew := HSS.out
            have HBN : Hid (Below wr.heap.size wr wr.drew) := Lib.hid (below_drewN (Below.refl _ _) 1)
            generalize wr.drew = W0 at hSS hHeld HBN ⊢
            change wpAnyH _ _ _ _ _ 6 _ _ _
            refine wpAnyH_take (i := 0) (v := ?_) (by simp only [List.getElem?_toArray, List.getElem?_cons_zero, List.getElem?_cons_succ]; rfl) (by kernel_rfl) (by kernel_rfl) (by kernel_rfl) (by intro _ _ _ h; exact h) (Or.inl ⟨by rfl, ?_⟩) (by assumption) ?_; rotate_left; (focus (intro w1 hSw; (try dsimp only at hSw); go_simp; (try with_reducible rfl))); (try simp only [Act.put, List.setIfInBounds_toArray, List.set_cons_zero, List.set_cons_succ, List.getElem_toArray, List.getElem_cons_zero, List.getElem_cons_succ])
            refine wpAnyH_take (i := 1) (v := ?_) (by simp only [List.getElem?_toArray, List.getElem?_cons_zero, List.getElem?_cons_succ]; rfl) (by kernel_rfl) (by kernel_rfl) (by kernel_rfl) (by intro _ _ _ h; exact h) (Or.inl ⟨by rfl, ?_⟩) (by assumption) ?_; rotate_left; (focus (intro w1 hSw; (try dsimp only at hSw); go_simp; (try with_reducible rfl))); (try simp only [Act.put, List.setIfInBounds_toArray, List.set_cons_zero, List.set_cons_succ, List.getElem_toArray, List.getElem_cons_zero, List.getElem_cons_succ])
            refine wpAnyH_take (i := 2) (v := ?_) (by simp only [List.getElem?_toArray, List.getElem?_cons_zero, List.getElem?_cons_succ]; rfl) (by kernel_rfl) (by kernel_rfl) (by kernel_rfl) (by intro _ _ _ h; exact h) (Or.inl ⟨by rfl, ?_⟩) (by assumption) ?_; rotate_left; (focus (intro w1 hSw; (try dsimp only at hSw); go_simp; (try with_reducible rfl))); (try simp only [Act.put, List.setIfInBounds_toArray, List.set_cons_zero, List.set_cons_succ, List.getElem_toArray, List.getElem_cons_zero, List.getElem_cons_succ])
            refine wpAnyH_take (i := 3) (v := ?_) (by simp only [List.getElem?_toArray, List.getElem?_cons_zero, List.getElem?_cons_succ]; rfl) (by kernel_rfl) (by kernel_rfl) (by kernel_rfl) (by intro _ _ _ h; exact h) (Or.inl ⟨by rfl, ?_⟩) (by assumption) ?_; rotate_left; (focus (intro w1 hSw; (try dsimp only at hSw); go_simp; (try with_reducible rfl))); (try simp only [Act.put, List.setIfInBounds_toArray, List.set_cons_zero, List.set_cons_succ, List.getElem_toArray, List.getElem_cons_zero, List.getElem_cons_succ])
            refine wpAnyH_take (i := 4) (v := ?_) (by simp only [List.getElem?_toArray, List.getElem?_cons_zero, List.getElem?_cons_succ]; rfl) (by kernel_rfl) (by kernel_rfl) (by kernel_rfl) (by intro _ _ _ h; exact h) (Or.inl ⟨by rfl, ?_⟩) (by assumption) ?_; rotate_left; (focus (intro w1 hSw; (try dsimp only at hSw); go_simp; (try with_reducible rfl))); (try simp only [Act.put, List.setIfInBounds_toArray, List.set_cons_zero, List.set_cons_succ, List.getElem_toArray, List.getElem_cons_zero, List.getElem_cons_succ])
            refine wpAnyH_ready (rs := [5]) (by kernel_rfl) (by simp) ?_; refine AllReadyH.cons (by simp only [List.getElem?_toArray, List.getElem?_cons_zero, List.getElem?_cons_succ]; rfl) (fun K hK => ?_) AllReadyH.nil
            rw [if_pos (by rfl)]; go_wp2_with fail
            cases hm : matB ⟨nm, sy, dy, ct⟩ (⟨key, veh, sys, cls, tm, lns, cn⟩ : CV)
            · have R : Hid (payK caps h (⟨key, veh, sys, cls, tm, lns, cn⟩ : CV) (k + 1) = nn) := Lib.hid (by rw [HPS.out, HPK.out]; unfold payS; rw [if_neg (by rw [hm]; simp)])
              rw [hmx, hm] at CM
              clear hm hmx HPS HPK CL hlv
              refine (CM.out _).mono ?_
              rintro e wn ⟨rfl, hbn⟩
              have HBN2 := Lib.hid (HBN.out.st hbn)
              have hSS : (fun w' : World => (w'.cell? ⟨b3, off3 + k * 4, none⟩ = some (.string nm) ∧ w'.cell? ⟨b3, off3 + k * 4 + 1, none⟩ = some (.string sy) ∧ w'.cell? ⟨b3, off3 + k * 4 + 2, none⟩ = some (.int .i64 dy) ∧ w'.cell? ⟨b3, off3 + k * 4 + 3, none⟩ = some (.int .i64 ct)) ∧ w'.cell? ⟨xb, 0, none⟩ = some (.string key) ∧ w'.cell? ⟨xb, 1, none⟩ = some (.string veh) ∧ w'.cell? ⟨xb, 2, none⟩ = some (.string sys) ∧ w'.cell? ⟨xb, 3, none⟩ = some (.int .i64 cls) ∧ w'.cell? ⟨xb, 4, none⟩ = some (.int .i64 tm) ∧ w'.cell? ⟨xb, 5, none⟩ = some (.slice lA lns.length lc) ∧ w'.cell? ⟨xb, 6, none⟩ = some (.int .i64 nn)) wn := HKP.out _ HBN2.out
              clear hbn
              go_wp2_with fail
              refine hK.out _ _ ?_ (fun hHeld => ?_)
              · exact hSS
              clear hK K
              (try simp only [Act.put, List.setIfInBounds_toArray, List.set_cons_zero, List.set_cons_succ, List.getElem_toArray, List.getElem_cons_zero, List.getElem_cons_succ])
              refine wpAnyH_done (by kernel_rfl) ?_ _
              have HBX2 := Lib.hid (HBX.out.below HBN2.out HBX.out.lt)
              have HKM2 := Lib.hid (HKM.out.st HBN2.out (by omega))
              clear hSS hHeld HBN HBN2 HKP HSS HKC HBX HKM
              go_wp2_with fail
              go_roundw
              case rel => exact ⟨k + 1, nn, HKK.out, by go_num, R, HBX2.out, HKM2.out⟩
              case measure => have := HKK.out; simp [RowKit.intOf]; omega
            · have R : Hid (payK caps h (⟨key, veh, sys, cls, tm, lns, cn⟩ : CV) (k + 1) = min nn lv) := Lib.hid (by rw [HPS.out, HPK.out]; unfold payS; rw [if_pos hm, hlv])
              rw [hmx, hm] at CM
              clear hm hmx HPS HPK hlv
              refine (CM.out _).mono ?_
              rintro e wn ⟨rfl, hbn⟩
              have HBN2 := Lib.hid (HBN.out.st hbn)
              have hSS : (fun w' : World => (w'.cell? ⟨b3, off3 + k * 4, none⟩ = some (.string nm) ∧ w'.cell? ⟨b3, off3 + k * 4 + 1, none⟩ = some (.string sy) ∧ w'.cell? ⟨b3, off3 + k * 4 + 2, none⟩ = some (.int .i64 dy) ∧ w'.cell? ⟨b3, off3 + k * 4 + 3, none⟩ = some (.int .i64 ct)) ∧ w'.cell? ⟨xb, 0, none⟩ = some (.string key) ∧ w'.cell? ⟨xb, 1, none⟩ = some (.string veh) ∧ w'.cell? ⟨xb, 2, none⟩ = some (.string sys) ∧ w'.cell? ⟨xb, 3, none⟩ = some (.int .i64 cls) ∧ w'.cell? ⟨xb, 4, none⟩ = some (.int .i64 tm) ∧ w'.cell? ⟨xb, 5, none⟩ = some (.slice lA lns.length lc) ∧ w'.cell? ⟨xb, 6, none⟩ = some (.int .i64 nn)) wn := HKP.out _ HBN2.out
              clear hbn
              go_wp2_with fail
              refine hK.out _ _ ?_ (fun hHeld => ?_)
              · exact hSS
              clear hK K
              (try simp only [Act.put, List.setIfInBounds_toArray, List.set_cons_zero, List.set_cons_succ, List.getElem_toArray, List.getElem_cons_zero, List.getElem_cons_succ])
              refine wpAnyH_done (by kernel_rfl) ?_ _
              have HS2 : Hid (∀ W' : World, Below wn.heap.size wn W' → (fun w' : World => (w'.cell? ⟨b3, off3 + k * 4, none⟩ = some (.string nm) ∧ w'.cell? ⟨b3, off3 + k * 4 + 1, none⟩ = some (.string sy) ∧ w'.cell? ⟨b3, off3 + k * 4 + 2, none⟩ = some (.int .i64 dy) ∧ w'.cell? ⟨b3, off3 + k * 4 + 3, none⟩ = some (.int .i64 ct)) ∧ w'.cell? ⟨xb, 4, none⟩ = some (.int .i64 tm)) W') := Lib.hid (fun W' hW => by
                have q := HKP.out W' (HBN2.out.st hW)
                exact ⟨q.1, q.2.2.2.2.2.1⟩)
              have HSS2 : Hid ((fun w' : World => (w'.cell? ⟨b3, off3 + k * 4, none⟩ = some (.string nm) ∧ w'.cell? ⟨b3, off3 + k * 4 + 1, none⟩ = some (.string sy) ∧ w'.cell? ⟨b3, off3 + k * 4 + 2, none⟩ = some (.int .i64 dy) ∧ w'.cell? ⟨b3, off3 + k * 4 + 3, none⟩ = some (.int .i64 ct)) ∧ w'.cell? ⟨xb, 4, none⟩ = some (.int .i64 tm)) wn.drew) := Lib.hid (HS2.out wn.drew (below_drewN (Below.refl _ _) 1))
              have HBN3 : Hid (Below wr.heap.size wr wn.drew) := Lib.hid (below_drewN HBN2.out 1)
              clear hSS hHeld HBN HBN2 HSS
              go_wp2_with fail
              refine wp_region_held_drew (S := (fun w' : World => (w'.cell? ⟨b3, off3 + k * 4, none⟩ = some (.string nm) ∧ w'.cell? ⟨b3, off3 + k * 4 + 1, none⟩ = some (.string sy) ∧ w'.cell? ⟨b3, off3 + k * 4 + 2, none⟩ = some (.int .i64 dy) ∧ w'.cell? ⟨b3, off3 + k * 4 + 3, none⟩ = some (.int .i64 ct)) ∧ w'.cell? ⟨xb, 4, none⟩ = some (.int .i64 tm))) (by kernel_rfl) ?_ (fun hHeld => ?_)
              · exact HSS2.out
              have hSS : (fun w' : World => (w'.cell? ⟨b3, off3 + k * 4, none⟩ = some (.string nm) ∧ w'.cell? ⟨b3, off3 + k * 4 + 1, none⟩ = some (.string sy) ∧ w'.cell? ⟨b3, off3 + k * 4 + 2, none⟩ = some (.int .i64 dy) ∧ w'.cell? ⟨b3, off3 + k * 4 + 3, none⟩ = some (.int .i64 ct)) ∧ w'.cell? ⟨xb, 4, none⟩ = some (.int .i64 tm)) wn.drew := HSS2.out
              generalize wn.drew = W1 at hSS hHeld HBN3 ⊢
              have HBX3 := Lib.hid (HBX.out.below HBN3.out HBX.out.lt)
              have z6 := HBX3.out.cell 6 (v := .int .i64 nn) rfl
              have CL1 := Lib.hid (CL.out W1 HBN3.out)
              change wpAnyH _ _ _ _ _ 13 _ _ _
              refine wpAnyH_take (i := 0) (v := ?_) (by simp only [List.getElem?_toArray, List.getElem?_cons_zero, List.getElem?_cons_succ]; rfl) (by kernel_rfl) (by kernel_rfl) (by kernel_rfl) (by intro _ _ _ h; exact h) (Or.inl ⟨by rfl, ?_⟩) (by assumption) ?_; rotate_left; (focus (intro w1 hSw; (try dsimp only at hSw); go_simp; (try with_reducible rfl))); (try simp only [Act.put, List.setIfInBounds_toArray, List.set_cons_zero, List.set_cons_succ, List.getElem_toArray, List.getElem_cons_zero, List.getElem_cons_succ])
              refine wpAnyH_take (i := 2) (v := ?_) (by simp only [List.getElem?_toArray, List.getElem?_cons_zero, List.getElem?_cons_succ]; rfl) (by kernel_rfl) (by kernel_rfl) (by kernel_rfl) (by intro _ _ _ h; exact h) (Or.inl ⟨by rfl, ?_⟩) (by assumption) ?_; rotate_left; (focus (intro w1 hSw; (try dsimp only at hSw); go_simp; (try with_reducible rfl))); (try simp only [Act.put, List.setIfInBounds_toArray, List.set_cons_zero, List.set_cons_succ, List.getElem_toArray, List.getElem_cons_zero, List.getElem_cons_succ])
              refine wpAnyH_take (i := 3) (v := ?_) (by simp only [List.getElem?_toArray, List.getElem?_cons_zero, List.getElem?_cons_succ]; rfl) (by kernel_rfl) (by kernel_rfl) (by kernel_rfl) (by intro _ _ _ h; exact h) (Or.inl ⟨by rfl, ?_⟩) (by assumption) ?_; rotate_left; (focus (intro w1 hSw; (try dsimp only at hSw); go_simp; (try with_reducible rfl))); (try simp only [Act.put, List.setIfInBounds_toArray, List.set_cons_zero, List.set_cons_succ, List.getElem_toArray, List.getElem_cons_zero, List.getElem_cons_succ])
              refine wpAnyH_take (i := 4) (v := ?_) (by simp only [List.getElem?_toArray, List.getElem?_cons_zero, List.getElem?_cons_succ]; rfl) (by kernel_rfl) (by kernel_rfl) (by kernel_rfl) (by intro _ _ _ h; exact h) (Or.inl ⟨by rfl, ?_⟩) (by assumption) ?_; rotate_left; (focus (intro w1 hSw; (try dsimp only at hSw); go_simp; (try with_reducible rfl))); (try simp only [Act.put, List.setIfInBounds_toArray, List.set_cons_zero, List.set_cons_succ, List.getElem_toArray, List.getElem_cons_zero, List.getElem_cons_succ])
              refine wpAnyH_take (i := 5) (v := ?_) (by simp only [List.getElem?_toArray, List.getElem?_cons_zero, List.getElem?_cons_succ]; rfl) (by kernel_rfl) (by kernel_rfl) (by kernel_rfl) (by intro _ _ _ h; exact h) (Or.inl ⟨by rfl, ?_⟩) (by assumption) ?_; rotate_left; (focus (intro w1 hSw; (try dsimp only at hSw); go_simp; (try with_reducible rfl))); (try simp only [Act.put, List.setIfInBounds_toArray, List.set_cons_zero, List.set_cons_succ, List.getElem_toArray, List.getElem_cons_zero, List.getElem_cons_succ])
              refine wpAnyH_take (i := 6) (v := ?_) (by simp only [List.getElem?_toArray, List.getElem?_cons_zero, List.getElem?_cons_succ]; rfl) (by kernel_rfl) (by kernel_rfl) (by kernel_rfl) (by intro _ _ _ h; exact h) (Or.inl ⟨by rfl, ?_⟩) (by assumption) ?_; rotate_left; (focus (intro w1 hSw; (try dsimp only at hSw); go_simp; (try with_reducible rfl))); (try simp only [Act.put, List.setIfInBounds_toArray, List.set_cons_zero, List.set_cons_succ, List.getElem_toArray, List.getElem_cons_zero, List.getElem_cons_succ])
              refine wpAnyH_take (i := 7) (v := ?_) (by simp only [List.getElem?_toArray, List.getElem?_cons_zero, List.getElem?_cons_succ]; rfl) (by kernel_rfl) (by kernel_rfl) (by kernel_rfl) (by intro _ _ _ h; exact h) (Or.inl ⟨by rfl, ?_⟩) (by assumption) ?_; rotate_left; (focus (intro w1 hSw; (try dsimp only at hSw); go_simp; (try with_reducible rfl))); (try simp only [Act.put, List.setIfInBounds_toArray, List.set_cons_zero, List.set_cons_succ, List.getElem_toArray, List.getElem_cons_zero, List.getElem_cons_succ])
              refine wpAnyH_take (i := 8) (v := ?_) (by simp only [List.getElem?_toArray, List.getElem?_cons_zero, List.getElem?_cons_succ]; rfl) (by kernel_rfl) (by kernel_rfl) (by kernel_rfl) (by intro _ _ _ h; exact h) (Or.inl ⟨by rfl, ?_⟩) (by assumption) ?_; rotate_left; (focus (intro w1 hSw; (try dsimp only at hSw); go_simp; (try with_reducible rfl))); (try simp only [Act.put, List.setIfInBounds_toArray, List.set_cons_zero, List.set_cons_succ, List.getElem_toArray, List.getElem_cons_zero, List.getElem_cons_succ])
              rw [hpn] at CL1
              refine wpAnyH_ready (rs := [1, 9]) (by kernel_rfl) (by simp) ?_; refine AllReadyH.cons (by simp only [List.getElem?_toArray, List.getElem?_cons_zero, List.getElem?_cons_succ]; rfl) (fun K hK => ?_) (AllReadyH.cons (by simp only [List.getElem?_toArray, List.getElem?_cons_zero, List.getElem?_cons_succ]; rfl) (fun K hK => ?_) AllReadyH.nil)
              · rw [if_pos (by rfl)]
                go_wp2_with fail; refine hK.out _ _ ?_ (fun hHeld => ?_); (focus exact hSS); clear hK K; (try simp only [Act.put, List.setIfInBounds_toArray, List.set_cons_zero, List.set_cons_succ, List.getElem_toArray, List.getElem_cons_zero, List.getElem_cons_succ])
                refine wpAnyH_ready (rs := [9]) (by kernel_rfl) (by simp) ?_; refine AllReadyH.cons (by simp only [List.getElem?_toArray, List.getElem?_cons_zero, List.getElem?_cons_succ]; rfl) (fun K hK => ?_) AllReadyH.nil
                rw [if_pos (by rfl)]; go_wp2_with fail
                refine CL1.out.mono ?_
                rintro e w2 ⟨rfl, hbn⟩
                have HBN4 := Lib.hid (HBN3.out.st hbn)
                have hSS : (fun w' : World => (w'.cell? ⟨b3, off3 + k * 4, none⟩ = some (.string nm) ∧ w'.cell? ⟨b3, off3 + k * 4 + 1, none⟩ = some (.string sy) ∧ w'.cell? ⟨b3, off3 + k * 4 + 2, none⟩ = some (.int .i64 dy) ∧ w'.cell? ⟨b3, off3 + k * 4 + 3, none⟩ = some (.int .i64 ct)) ∧ w'.cell? ⟨xb, 4, none⟩ = some (.int .i64 tm)) w2 := ⟨HKC.out _ (fun b hb _ => HBN4.out.block b hb), (HBX.out.below HBN4.out HBX.out.lt).cell 4 rfl⟩
                clear hbn CL1 z6
                go_wp2_with fail; refine hK.out _ _ ?_ (fun hHeld => ?_); (focus exact hSS); clear hK K; (try simp only [Act.put, List.setIfInBounds_toArray, List.set_cons_zero, List.set_cons_succ, List.getElem_toArray, List.getElem_cons_zero, List.getElem_cons_succ])
                refine wpAnyH_ready (rs := [10]) (by kernel_rfl) (by simp) ?_; refine AllReadyH.cons (by simp only [List.getElem?_toArray, List.getElem?_cons_zero, List.getElem?_cons_succ]; rfl) (fun K hK => ?_) AllReadyH.nil
                rw [if_pos (by rfl)]
                go_wp2_with fail; refine hK.out _ _ ?_ (fun hHeld => ?_); (focus exact hSS); clear hK K; (try simp only [Act.put, List.setIfInBounds_toArray, List.set_cons_zero, List.set_cons_succ, List.getElem_toArray, List.getElem_cons_zero, List.getElem_cons_succ])
                refine wpAnyH_take (i := 11) (v := ?_) (by simp only [List.getElem?_toArray, List.getElem?_cons_zero, List.getElem?_cons_succ]; rfl) (by kernel_rfl) (by kernel_rfl) (by kernel_rfl) (by intro _ _ _ h; exact h) (Or.inl ⟨by rfl, ?_⟩) (by assumption) ?_; rotate_left; (focus (intro w1 hSw; (try dsimp only at hSw); go_simp; (try with_reducible rfl))); (try simp only [Act.put, List.setIfInBounds_toArray, List.set_cons_zero, List.set_cons_succ, List.getElem_toArray, List.getElem_cons_zero, List.getElem_cons_succ])
                have HBX4 := Lib.hid (HBX.out.below HBN4.out HBX.out.lt)
                have HBXZ : Hid (Blk (w2.setCell ⟨xb, 6, none⟩ (.int .i64 (min nn lv))) xb #[.string key, .string veh, .string sys, .int .i64 cls, .int .i64 tm, .slice lA lns.length lc, .int .i64 (min nn lv)] 82) := Lib.hid (HBX4.out.set 6 _)
                have HKMZ : Hid (KeepM xb Y5 (w2.setCell ⟨xb, 6, none⟩ (.int .i64 (min nn lv)))) := Lib.hid ((HKM.out.st HBN4.out (by omega)).add ((Below.refl _ _).setCell (p := ⟨xb, 6, none⟩) (Nat.le_refl _) _) (fun b _ hne => Below.heap_setCell w2 ⟨xb, 6, none⟩ _ b hne))
                have hSZ : (fun w' : World => (w'.cell? ⟨b3, off3 + k * 4, none⟩ = some (.string nm) ∧ w'.cell? ⟨b3, off3 + k * 4 + 1, none⟩ = some (.string sy) ∧ w'.cell? ⟨b3, off3 + k * 4 + 2, none⟩ = some (.int .i64 dy) ∧ w'.cell? ⟨b3, off3 + k * 4 + 3, none⟩ = some (.int .i64 ct)) ∧ w'.cell? ⟨xb, 4, none⟩ = some (.int .i64 tm)) (w2.setCell ⟨xb, 6, none⟩ (.int .i64 (min nn lv))) := ⟨HKC.out _ (fun b hb hne => (Below.heap_setCell w2 ⟨xb, 6, none⟩ _ b hne).trans (HBN4.out.block b hb)), HBXZ.out.cell 4 rfl⟩
                have z6 := HBX4.out.cell 6 (v := .int .i64 nn) rfl
                have zf := HBX4.out.frozen 6
                refine wpAnyH_ready (rs := [12]) (by kernel_rfl) (by simp) ?_; refine AllReadyH.cons (by simp only [List.getElem?_toArray, List.getElem?_cons_zero, List.getElem?_cons_succ]; rfl) (fun K hK => ?_) AllReadyH.nil
                rw [if_pos (by rfl)]
                go_wp2_with fail
                refine hK.out _ _ ?_ (fun hHeld => ?_)
                · exact hSZ
                clear hK K
                (try simp only [Act.put, List.setIfInBounds_toArray, List.set_cons_zero, List.set_cons_succ, List.getElem_toArray, List.getElem_cons_zero, List.getElem_cons_succ])
                refine wpAnyH_done (by kernel_rfl) ?_ _
                clear hSS hSZ hHeld HBN3 HBN4 HKC HKP HBX HKM z6 zf HBX4 CL
                go_wp2_with fail
                go_roundw
                case rel => exact ⟨k + 1, min nn lv, HKK.out, by go_num, R, HBXZ.out, HKMZ.out⟩
                case measure => have := HKK.out; simp [RowKit.intOf]; omega
              · rw [if_pos (by rfl)]
                go_wp2_with fail
                refine CL1.out.mono ?_
                rintro e w2 ⟨rfl, hbn⟩
                have HBN4 := Lib.hid (HBN3.out.st hbn)
                have hSS : (fun w' : World => (w'.cell? ⟨b3, off3 + k * 4, none⟩ = some (.string nm) ∧ w'.cell? ⟨b3, off3 + k * 4 + 1, none⟩ = some (.string sy) ∧ w'.cell? ⟨b3, off3 + k * 4 + 2, none⟩ = some (.int .i64 dy) ∧ w'.cell? ⟨b3, off3 + k * 4 + 3, none⟩ = some (.int .i64 ct)) ∧ w'.cell? ⟨xb, 4, none⟩ = some (.int .i64 tm)) w2 := ⟨HKC.out _ (fun b hb _ => HBN4.out.block b hb), (HBX.out.below HBN4.out HBX.out.lt).cell 4 rfl⟩
                have z6 := (HBX.out.below HBN4.out HBX.out.lt).cell 6 (v := .int .i64 nn) rfl
                clear hbn CL1
                go_wp2_with fail; refine hK.out _ _ ?_ (fun hHeld => ?_); (focus exact hSS); clear hK K; (try simp only [Act.put, List.setIfInBounds_toArray, List.set_cons_zero, List.set_cons_succ, List.getElem_toArray, List.getElem_cons_zero, List.getElem_cons_succ])
                refine wpAnyH_ready (rs := [1]) (by kernel_rfl) (by simp) ?_; refine AllReadyH.cons (by simp only [List.getElem?_toArray, List.getElem?_cons_zero, List.getElem?_cons_succ]; rfl) (fun K hK => ?_) AllReadyH.nil
                rw [if_pos (by rfl)]
                go_wp2_with fail; refine hK.out _ _ ?_ (fun hHeld => ?_); (focus exact hSS); clear hK K; (try simp only [Act.put, List.setIfInBounds_toArray, List.set_cons_zero, List.set_cons_succ, List.getElem_toArray, List.getElem_cons_zero, List.getElem_cons_succ])
                clear z6
                refine wpAnyH_ready (rs := [10]) (by kernel_rfl) (by simp) ?_; refine AllReadyH.cons (by simp only [List.getElem?_toArray, List.getElem?_cons_zero, List.getElem?_cons_succ]; rfl) (fun K hK => ?_) AllReadyH.nil
                rw [if_pos (by rfl)]
                go_wp2_with fail; refine hK.out _ _ ?_ (fun hHeld => ?_); (focus exact hSS); clear hK K; (try simp only [Act.put, List.setIfInBounds_toArray, List.set_cons_zero, List.set_cons_succ, List.getElem_toArray, List.getElem_cons_zero, List.getElem_cons_succ])
                refine wpAnyH_take (i := 11) (v := ?_) (by simp only [List.getElem?_toArray, List.getElem?_cons_zero, List.getElem?_cons_succ]; rfl) (by kernel_rfl) (by kernel_rfl) (by kernel_rfl) (by intro _ _ _ h; exact h) (Or.inl ⟨by rfl, ?_⟩) (by assumption) ?_; rotate_left; (focus (intro w1 hSw; (try dsimp only at hSw); go_simp; (try with_reducible rfl))); (try simp only [Act.put, List.setIfInBounds_toArray, List.set_cons_zero, List.set_cons_succ, List.getElem_toArray, List.getElem_cons_zero, List.getElem_cons_succ])
                have HBX4 := Lib.hid (HBX.out.below HBN4.out HBX.out.lt)
                have HBXZ : Hid (Blk (w2.setCell ⟨xb, 6, none⟩ (.int .i64 (min nn lv))) xb #[.string key, .string veh, .string sys, .int .i64 cls, .int .i64 tm, .slice lA lns.length lc, .int .i64 (min nn lv)] 82) := Lib.hid (HBX4.out.set 6 _)
                have HKMZ : Hid (KeepM xb Y5 (w2.setCell ⟨xb, 6, none⟩ (.int .i64 (min nn lv)))) := Lib.hid ((HKM.out.st HBN4.out (by omega)).add ((Below.refl _ _).setCell (p := ⟨xb, 6, none⟩) (Nat.le_refl _) _) (fun b _ hne => Below.heap_setCell w2 ⟨xb, 6, none⟩ _ b hne))
                have hSZ : (fun w' : World => (w'.cell? ⟨b3, off3 + k * 4, none⟩ = some (.string nm) ∧ w'.cell? ⟨b3, off3 + k * 4 + 1, none⟩ = some (.string sy) ∧ w'.cell? ⟨b3, off3 + k * 4 + 2, none⟩ = some (.int .i64 dy) ∧ w'.cell? ⟨b3, off3 + k * 4 + 3, none⟩ = some (.int .i64 ct)) ∧ w'.cell? ⟨xb, 4, none⟩ = some (.int .i64 tm)) (w2.setCell ⟨xb, 6, none⟩ (.int .i64 (min nn lv))) := ⟨HKC.out _ (fun b hb hne => (Below.heap_setCell w2 ⟨xb, 6, none⟩ _ b hne).trans (HBN4.out.block b hb)), HBXZ.out.cell 4 rfl⟩
                have z6 := HBX4.out.cell 6 (v := .int .i64 nn) rfl
                have zf := HBX4.out.frozen 6
                refine wpAnyH_ready (rs := [12]) (by kernel_rfl) (by simp) ?_; refine AllReadyH.cons (by simp only [List.getElem?_toArray, List.getElem?_cons_zero, List.getElem?_cons_succ]; rfl) (fun K hK => ?_) AllReadyH.nil
                rw [if_pos (by rfl)]
                go_wp2_with fail
                refine hK.out _ _ ?_ (fun hHeld => ?_)
                · exact hSZ
                clear hK K
                (try simp only [Act.put, List.setIfInBounds_toArray, List.set_cons_zero, List.set_cons_succ, List.getElem_toArray, List.getElem_cons_zero, List.getElem_cons_succ])
                refine wpAnyH_done (by kernel_rfl) ?_ _
                clear hSS hSZ hHeld HBN3 HBN4 HKC HKP HBX HKM z6 zf HBX4 CL
                go_wp2_with fail
                go_roundw
                case rel => exact ⟨k + 1, min nn lv, HKK.out, by go_num, R, HBXZ.out, HKMZ.out⟩
                case measure => have := HKK.out; simp [RowKit.intOf]; omega
          · obtain rfl : k = caps.length := by omega
            have HPN : Hid (payN caps h (⟨key, veh, sys, cls, tm, lns, cn⟩ : CV) = nn) := Lib.hid ((payK_n caps h (⟨key, veh, sys, cls, tm, lns, cn⟩ : CV)).symm.trans HPK.out)
            have HOW : Hid (Own 3 encI 1 wr oc (some ⟨oc, 0, none⟩) l.length o) := Lib.hid (HOUT5.out.keepB (fun g q hg => HKM.out.oth g hg (by injection q with q; injection q with q; omega)))
            have HDW : Hid (Own 4 encBo 1 wr oc (some ⟨dc, 0, none⟩) l.length (doneL (cvs l) n)) := Lib.hid (HDN5.out.keepB (fun g q hg => HKM.out.oth g hg (by injection q with q; injection q with q; omega)))
            obtain ⟨z, hz⟩ : ∃ z, o[ix]? = some z := ⟨_, List.getElem?_eq_getElem (by omega)⟩
            have c0 := HOW.out.cells encI_ok rfl (i := ix) hz (j := 0) rfl
            have f0 := HOW.out.frozen rfl ix
            simp only [Nat.mul_one, Nat.add_zero] at c0
            have x6 := HBX.out.cell 6 (v := .int .i64 nn) rfl
            obtain ⟨W1, hW1⟩ : ∃ W, wr.setCell ⟨oc, ix, none⟩ (.int .i64 nn) = W := ⟨_, rfl⟩
            have o1 : ∀ b, b ≠ oc → W1.heap[b]? = wr.heap[b]? := fun b hb => by rw [← hW1]; exact Below.heap_setCell wr ⟨oc, ix, none⟩ _ b hb
            have s1 : W1.heap.size = wr.heap.size := by rw [← hW1]; simp
            have HO1 : Hid (Own 3 encI 1 W1 oc (some ⟨oc, 0, none⟩) l.length (o.set ix nn)) := Lib.hid (by
              have := HOW.out.stored encI_ok rfl hz (j := 0) (u := .int .i64 nn) (y := nn) (by omega) rfl
              rw [← hW1]
              simpa using this)
            have HD1 : Hid (Own 4 encBo 1 W1 oc (some ⟨dc, 0, none⟩) l.length (doneL (cvs l) n)) := Lib.hid (HDW.out.keepB (fun g q hg => o1 g (by injection q with q; injection q with q; omega)))
            have c1 := HD1.out.cells encBo_ok rfl (i := ix) HDA.out (j := 0) rfl
            have f1 := HD1.out.frozen rfl ix
            simp only [Nat.mul_one, Nat.add_zero] at c1
            obtain ⟨W2, hW2⟩ : ∃ W, W1.setCell ⟨dc, ix, none⟩ (.bool true) = W := ⟨_, rfl⟩
            have o2 : ∀ b, b ≠ dc → W2.heap[b]? = W1.heap[b]? := fun b hb => by rw [← hW2]; exact Below.heap_setCell W1 ⟨dc, ix, none⟩ _ b hb
            have s2 : W2.heap.size = wr.heap.size := by rw [← hW2, ← hW1]; simp
            have HD2 : Hid (Own 4 encBo 1 W2 oc (some ⟨dc, 0, none⟩) l.length (doneL (cvs l) (n + 1))) := Lib.hid (by
              have := HD1.out.stored encBo_ok rfl HDA.out (j := 0) (u := .bool true) (y := true) (by omega) rfl
              rw [← hW2, ← HDS.out]
              simpa using this)
            have HO2 : Hid (Own 3 encI 1 W2 oc (some ⟨oc, 0, none⟩) l.length (o.set ix nn)) := Lib.hid (HO1.out.keepB (fun g q hg => o2 g (by injection q with q; injection q with q; omega)))
            have HX2 : Blk W2 xb #[.string key, .string veh, .string sys, .int .i64 cls, .int .i64 tm, .slice lA lns.length lc, .int .i64 nn] 82 := ((o2 xb (by omega)).trans (o1 xb (by omega))).trans HBX.out
            have HPL2 : Hid (Own 82 encCg 7 W2 oc A' c' pl) := Lib.hid (HPLW.out.keepB (fun g q hg => by
              have q1 : g ≠ oc := fun e => (HPLW.out.apart HOW.out (by decide) q (by rw [← e])) rfl
              have q2 : g ≠ dc := fun e => (HPLW.out.apart HDW.out (by decide) q (by rw [← e])) rfl
              exact (o2 g q2).trans (o1 g q1)))
            have HBW2 : Hid (Below w.heap.size w W2) := Lib.hid (by rw [← hW2, ← hW1]; exact (HWW.out.setCell (p := ⟨oc, ix, none⟩) how _).setCell (p := ⟨dc, ix, none⟩) (by show w.heap.size ≤ dc; omega) _)
            have hoc2 : oc ≤ W2.heap.size := by omega
            have y0 := HX2.cell 0 (v := .string key) rfl
            have y1 := HX2.cell 1 (v := .string veh) rfl
            have y2 := HX2.cell 2 (v := .string sys) rfl
            have y3 := HX2.cell 3 (v := .int .i64 cls) rfl
            have y4 := HX2.cell 4 (v := .int .i64 tm) rfl
            have y5 := HX2.cell 5 (v := .slice lA lns.length lc) rfl
            have y6 := HX2.cell 6 (v := .int .i64 nn) rfl
            have HRN : Hid (runF caps (cvs l) ((ordN (cvs l)).take (n + 1)) = (h ++ [((⟨key, veh, sys, cls, tm, lns, cn⟩ : CV), nn)], o.set ix nn)) := Lib.hid (by
              have e := HXA.out
              rw [HST.out]; unfold stp; simp only [e, HPN.out])
            have HPC : Hid (cvs (pl ++ [⟨(⟨key, veh, sys, cls, tm, lns, nn⟩ : CV), lA, lc⟩]) = paidC (h ++ [((⟨key, veh, sys, cls, tm, lns, cn⟩ : CV), nn)])) := Lib.hid (by
              rw [paidC_snoc, ← HP.out]; simp [cvs])
            have hpl24 : pl.length ≤ 1024 := by omega
            have hpn2 := Lib.hid hpn
            have HS2 : Hid (W2.heap.size = wr.heap.size) := Lib.hid s2
            clear hz HXA HST HDA HDS HOW HDW HO1 HD1 HOUT5 HDN5 HPL5 HBX HKM o1 o2 s1 s2 HX2 HPK
            go_wp2_with (at_builtin; refine wpList_app1b rfl (.tmp 71) (.tmp 73) tyCg encCg_ok rfl (⟨(⟨key, veh, sys, cls, tm, lns, nn⟩ : CV), lA, lc⟩ : Cg) rfl _ rfl (by omega) HPL2.out rfl (by first | rfl | simp) (by omega) (by omega) hoc2 ?_; intro A3 c3 w3 hown3 hb3 hs3 hf3)
            have HO3 : Hid (Own 3 encI 1 w3 oc (some ⟨oc, 0, none⟩) l.length (o.set ix nn)) := Lib.hid (HO2.out.keepB (fun g q hg => hf3 g hg (fun g' q' e => HPL2.out.apart HO2.out (by decide) q' (by rw [← e]; exact q) rfl)))
            have HD3 : Hid (Own 4 encBo 1 w3 oc (some ⟨dc, 0, none⟩) l.length (doneL (cvs l) (n + 1))) := Lib.hid (HD2.out.keepB (fun g q hg => hf3 g hg (fun g' q' e => HPL2.out.apart HD2.out (by decide) q' (by rw [← e]; exact q) rfl)))
            have HBW3 := Lib.hid (HBW2.out.trans (hb3.mono how))
            have HOP := Lib.hid hown3
            clear hown3 hb3 hs3 hf3
            go_roundw
            case rel => exact ⟨n + 1, _, _, _, A3, c3, HK.out, by rw [List.length_append, hpn2.out]; rfl, by go_num, by rw [List.length_append, hpn2.out]; rfl, by rw [List.length_set]; exact hol, HRN.out, HPC.out, HO3.out, HD3.out, HOP.out, HBW3.out⟩
            case measure => have := HK.out; simp [RowKit.intOf]; omega
      · obtain rfl : n = l.length := by omega
        have HPF : Hid (paidL caps (cvs l) = o) := Lib.hid (by
          have := HH.out
          rw [List.take_of_length_le (Nat.le_of_eq ((ordN_len _).trans hcv))] at this
          unfold paidL; rw [this])
        have HOW := Lib.hid (hout.mono how)
        clear hout hdn hpl HH HP
        go_wp2_with fail
        go_ret2
        exact ⟨some ⟨oc, 0, none⟩, l.length, o, by rw [HE.out, hol]; rfl, fun _ => HPF.out.symm, fun q => absurd HE.out q, HOW.out, bW⟩
  · have HE := Lib.hid he
    have hce2 : (applyE caps (cvs l) != 0) = true := by simp [he]
    generalize hae : applyE caps (cvs l) = ae at *
    clear he
    go_enter Tryd.func41, Tryd.ntmps41
    go_wp2_with fail
    refine CK.out.mono ?_
    rintro e w5 ⟨rfl, bW⟩
    go_wp2_with fail
    go_ret2
    exact ⟨none, 0, [], by rw [hae]; rfl, fun q => absurd (hae.symm.trans q) HE.out, fun _ => rfl, Own.nil _ _, bW⟩
end Go.Proofs.YtlnnbkpcnhlfcaaDoor
