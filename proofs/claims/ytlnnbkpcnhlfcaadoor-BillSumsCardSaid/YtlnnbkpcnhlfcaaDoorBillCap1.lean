/- bill.Capped, walked. -/
import Derived.Test.YtlnnbkpcnhlfcaaDoorJBillCap0
import Derived.BigQuiet
set_option linter.unusedSimpArgs false
namespace Go.Proofs.YtlnnbkpcnhlfcaaDoor
open Go.RowKit Go.Lib Go.MapKept Go.ChangeMaps
open Go.Maps (Keyed)

set_option maxRecDepth 100000 in
set_option maxHeartbeats 4000000 in
theorem capped_any {aA cA A : Option Addr} {acs : List Ac} {caps : List Cp} {l : List Cg} (ac cc c : Nat) {w : World} (h : BLO w aA ac acs cA caps A l) (hln : ∀ x ∈ l, x.c.lns.length ≤ 900) :
    Calls Tryd.prog 18 #[.agg #[.slice none 0 0, .slice none 0 0, .slice none 0 0, .slice none 0 0, .slice none 0 0, .slice none 0 0, .int .i64 0, .int .i64 0, .slice none 0 0, .int .i64 0, .slice none 0 0, .slice none 0 0, .slice none 0 0, .slice none 0 0, .slice cA caps.length cc, .slice none 0 0, .slice none 0 0, .slice aA acs.length ac, .slice none 0 0, .slice none 0 0, .slice none 0 0, .slice none 0 0, .int .i64 0, .slice none 0 0, .string ⟨#[]⟩], .slice A l.length c] w fun e w' => CapR (vals acs) caps (cvs l) w w' e := by
  have H := Lib.hid h
  have HLN := Lib.hid hln
  have hl1 : l.length ≤ 1000 := h.cll
  obtain ⟨Y, hY⟩ : ∃ Y, w.alloc (.cells #[.slice none 0 0, .slice none 0 0, .slice none 0 0, .slice none 0 0, .slice none 0 0, .slice none 0 0, .int .i64 0, .int .i64 0, .slice none 0 0, .int .i64 0, .slice none 0 0, .slice none 0 0, .slice none 0 0, .slice none 0 0, .slice cA caps.length cc, .slice none 0 0, .slice none 0 0, .slice aA acs.length ac, .slice none 0 0, .slice none 0 0, .slice none 0 0, .slice none 0 0, .int .i64 0, .slice none 0 0, .string ⟨#[]⟩] 62) = Y := ⟨_, rfl⟩
  have BC : Blk Y w.heap.size #[.slice none 0 0, .slice none 0 0, .slice none 0 0, .slice none 0 0, .slice none 0 0, .slice none 0 0, .int .i64 0, .int .i64 0, .slice none 0 0, .int .i64 0, .slice none 0 0, .slice none 0 0, .slice none 0 0, .slice none 0 0, .slice cA caps.length cc, .slice none 0 0, .slice none 0 0, .slice aA acs.length ac, .slice none 0 0, .slice none 0 0, .slice none 0 0, .slice none 0 0, .int .i64 0, .slice none 0 0, .string ⟨#[]⟩] 62 := by rw [← hY]; exact Blk.new w _ _
  have bW : Below w.heap.size w Y := by rw [← hY]; exact (Below.refl _ w).al _
  have s1 : Y.heap.size = w.heap.size + 1 := by rw [← hY]; simp
  have g14 := BC.cell 14 (v := .slice cA caps.length cc) rfl
  have CA := Lib.hid (apply_any cc c (h.st bW).cp (h.st bW).cl (h.st bW).mon (by have := h.cpl; omega) (by omega))
  have HBC := Lib.hid BC
  have HbW := Lib.hid bW
  clear h hln BC bW
  go_enter Tryd.func18, Tryd.ntmps18
  go_wp2_with fail
  refine CA.out.mono ?_
  rintro e w3 ⟨A3, c3, r3, rfl, hp0, hp1, hown3, hb3⟩
  have HP1 := Lib.hid hp1
  clear CA hp0 hp1 hown3 hY g14
  by_cases hE : applyE caps (cvs l) = 0
  · have HE0 := Lib.hid hE
    have HX := Lib.hid (applyE_ok hE)
    have bW3 := HbW.out.st hb3
    have s3 := hb3.size
    rw [hE]
    clear hE HP1
    have hmm := @run_makeMap Tryd.prog
    go_wp2_with fail
    obtain ⟨mb, hmb⟩ : ∃ mb, w3.heap.size = mb := ⟨_, rfl⟩
    obtain ⟨Z, hZ⟩ : ∃ Z, w3.alloc (.map #[] 0) = Z := ⟨_, rfl⟩
    rw [hZ]
    have hM0 : MapN Tryd.prog 9 Z mb [] := by rw [← hZ, ← hmb]; exact MapN.made _ _ _
    have bZ : Below mb Z Z := Below.refl _ _
    have bZ3 : Below w3.heap.size w3 Z := by rw [← hZ]; exact (Below.refl _ _).al _
    have HBZ := Lib.hid (bW3.st bZ3)
    have HBCZ := Lib.hid ((HBC.out.below hb3 HBC.out.lt).below bZ3 (by omega))
    have hwm : w.heap.size < mb := by omega
    have hzm : mb < Z.heap.size := hM0.lt
    have HMB := Lib.hid hmb
    rw [hmb]
    clear bZ3 hZ hmm hb3 s3 bW3 hmb
    go_loopw [8, 37] (fun o i wr => ∃ (k : Nat) (r : List Cg) (A' : Option Addr) (c' : Nat) (L : List En), k ≤ l.length ∧ i = .int .i64 k ∧ o = .slice A' r.length c' ∧ Hid (cvs r = (cvs l).take k) ∧ Hid (EnOk (vals acs) (cvs l) k L) ∧ Own 82 encCg 7 wr mb A' c' r ∧ LList wr mb r ∧ EnMem wr mb L ∧ MapN Tryd.prog 9 wr mb (L.map enV) ∧ Below mb Z wr) (fun _ i _ => l.length - (RowKit.intOf i).toNat)
    case atStart => exact ⟨0, [], none, 0, [], Nat.zero_le _, rfl, rfl, (by unfold Hid; simp [cvs]), EnOk.nil _ _, Own.nil _ _, LList.nil _ _, EnMem.nil _ _, hM0, bZ⟩
    case round =>
      clear hM0 bZ
      obtain ⟨k, r, A', c', L, hk, rfl, rfl, HRV, HEN, hown, hll, hem, hmn, bY⟩ := hrel
      by_cases hi : k < l.length
      · have bW : Below w.heap.size w wr := HBZ.out.trans (bY.mono (by omega))
        obtain ⟨b, off, x, rfl, hb, hx, d0, d1, d2, d3, d4, d5, d6⟩ := (H.out.st bW).cl.cg hi
        have HK := Lib.hid hi
        have hrk : r.length = k := by rw [← cvs_len r, HRV.out, List.length_take, cvs_len]; omega
        have hxc := chAt_of (cvs_at hx)
        have HT := Lib.hid (take_snoc (cvs_at hx))
        have HXM := Lib.hid (H.out.rs x (List.mem_of_getElem? hx))
        have HES := Lib.hid (fun q => HEN.out.skip q)
        have HEW := Lib.hid (fun q1 q2 => HEN.out.new q1 q2)
        have HEU := Lib.hid (fun (j : Nat) (e : En) q1 q2 q3 => HEN.out.upd (j := j) (e := e) q1 q2 q3)
        have HPL := Lib.hid (fun (e : En) (he : e ∈ L) => show e.pl.length ≤ 1000 by
          rw [HEN.out.2.1 e he]
          have : (idxL (vals acs) e.nm (cvs l) k).length ≤ k := by unfold idxL; have := List.length_filter_le (fun i => isO (vals acs) e.nm (chAt (cvs l) i)) (List.range k); simpa using this
          omega)
        rw [hxc] at HES HEW HEU
        have HND := Lib.hid HEN.out.1
        have HNM := Lib.hid (owner_small (v := x.c.veh) (t := x.c.tm) H.out.nms)
        obtain ⟨⟨key, veh, sys, cls, tm, lns, cn⟩, lA, lc⟩ := x
        simp only [hasO, ownO] at HES HEW HEU HNM
        simp only at *
        have hsz : mb ≤ wr.heap.size := by have := bY.size; omega
        obtain ⟨Y2, hY2⟩ : ∃ Y, wr.alloc (.cells #[.string key, .string veh, .string sys, .int .i64 cls, .int .i64 tm, .slice lA lns.length lc, .int .i64 cn] 82) = Y := ⟨_, rfl⟩
        have BX : Blk Y2 wr.heap.size #[.string key, .string veh, .string sys, .int .i64 cls, .int .i64 tm, .slice lA lns.length lc, .int .i64 cn] 82 := by rw [← hY2]; exact Blk.new wr _ _
        have b2 : Below wr.heap.size wr Y2 := by rw [← hY2]; exact (Below.refl _ wr).al _
        have CC := Lib.hid (bcopied_any (⟨key, veh, sys, cls, tm, lns, cn⟩ : CV) lc (HXM.out.1.st (bW.st b2)) (Nat.le_trans HXM.out.2 (by decide)))
        have hrl : r.length ≤ 1000 := by omega
        have HRK := Lib.hid hrk
        clear hrk
        clear hx hxc hi hb HEN
        go_wp2_with (first | (refine wpList_boxLoad rfl (ty := 82) (x := .tmp 11) (cs := #[.string key, .string veh, .string sys, .int .i64 cls, .int .i64 tm, .slice lA lns.length lc, .int .i64 cn]) rfl BX rfl ⟨_, Tryd.underlying82, by kernel_rfl⟩ ?_))
        refine CC.out.mono ?_
        rintro e w4 ⟨A9, c9, rfl, hown9, hbn⟩
        simp only [CHV]
        have b4 := b2.st hbn
        have bY4 := bY.trans (b4.mono hsz)
        have hown4 := hown.st b4
        have hem4 := hem.st b4
        have hmn4 := hmn.st b4
        have hll4 := (hll.st b2).snoc (x := ⟨(⟨key, veh, sys, cls, tm, lns, cn⟩ : CV), A9, c9⟩) hbn hown9 (by have := b2.size; omega)
        have BX4 := BX.below hbn BX.lt
        have HXL := Lib.hid HXM.out.2
        have HNE := Lib.hid (fun g hA => hown.ne (Nat.le_refl _) g hA)
        clear hown hll hem hmn CC hown9 hY2 BX d0 d1 d2 d3 d4 d5 d6
        go_wp2_with (first | (at_builtin; go_loud (refine wpList_app1b rfl (.tmp 42) (.tmp 45) tyCg encCg_ok rfl (⟨(⟨key, veh, sys, cls, tm, lns, cn⟩ : CV), A9, c9⟩ : Cg) rfl _ rfl rfl hown4 rfl (by first | rfl | simp) (by omega) (by omega) (by have := bY4.size; omega) ?_); intro A8 c8 w8 hown8 hb8 hs8 hf8; have bY8 := bY4.trans hb8; have hll8 := hll4.keepA hown4 (by decide) hf8; have hem8 := hem4.keepA hown4 (by decide) hf8; have hmn8 := hmn4.keepA hown4 hf8; have BX8 : Blk w8 wr.heap.size #[.string key, .string veh, .string sys, .int .i64 cls, .int .i64 tm, .slice lA lns.length lc, .int .i64 cn] 82 := (hf8 _ BX4.lt (fun g hA => HNE.out g hA)).trans BX4; have x1 := BX8.cell 1 (v := .string veh) rfl; have x4 := BX8.cell 4 (v := .int .i64 tm) rfl; have bW8 := HBZ.out.trans (bY8.mono (by omega)); have BC8 := HBCZ.out.below bY8 hwm; have g17 := BC8.cell 17 (v := .slice aA acs.length ac) rfl; have OC := Lib.hid (owner_any ac veh tm (H.out.al.st bW8) H.out.sm)))
        refine OC.out.mono ?_
        rintro e w5 ⟨rfl, hbn⟩
        have bY5 := bY8.trans (hbn.mono (by have := bY8.size; omega))
        have hown5 := hown8.st hbn
        have hll5 := hll8.st hbn
        have hem5 := hem8.st hbn
        have hmn5 := hmn8.st hbn
        have HRV8 : Hid (cvs (r ++ [⟨(⟨key, veh, sys, cls, tm, lns, cn⟩ : CV), A9, c9⟩]) = (cvs l).take (k + 1)) := Lib.hid (by rw [cvs_app, HRV.out, HT.out]; rfl)
        have HRL : Hid ((r ++ [(⟨(⟨key, veh, sys, cls, tm, lns, cn⟩ : CV), A9, c9⟩ : Cg)]).length = r.length + 1) := Lib.hid (by simp)
        generalize ownerN (vals acs) veh tm = on at *
        generalize ownerB (vals acs) veh tm = ob at *
        have hs5 : mb ≤ w5.heap.size := by have := bY5.size; omega
        clear hbn OC hown8 hll8 hem8 hmn8 hb8 hf8 hs8 BX8 BC8 g17 x1 x4 hown4 hll4 hem4 hmn4 BX4 HT HRV
        cases ob
        · have R := Lib.hid (HES.out rfl)
          clear HES HEW HEU
          go_wp2_with fail
          go_roundw
          case rel => exact ⟨k + 1, r ++ [⟨(⟨key, veh, sys, cls, tm, lns, cn⟩ : CV), A9, c9⟩], A8, c8, L, HK.out, by go_num, by rw [HRL.out], HRV8, R, hown5, hll5, hem5, hmn5, bY5⟩
          case measure => have := HK.out; simp [RowKit.intOf]; omega
        · have hkey : keyOf Tryd.prog 9 (.string on) = some (.string on.data.toList) := Go.WideMaps.keyOf_string_mk Tryd.underlying9 (Nat.le_trans HNM.out (by decide))
          by_cases hin : ∃ e ∈ L, e.nm = on
          · obtain ⟨en, hen, henm⟩ := hin
            obtain ⟨j, hj⟩ := List.mem_iff_getElem?.1 hen
            have R := Lib.hid (fun A c => HEU.out j en rfl hj henm A c)
            have hpl : en.pl.length ≤ 1000 := HPL.out en hen
            have howe := hem5.1 en hen
            have hjv : (L.map enV)[j]? = some (.string on, .slice en.A en.pl.length en.c) := by rw [List.getElem?_map, hj, ← henm]; rfl
            have huq : ∀ i u, (L.map enV)[i]? = some (Value.string on, u) → i = j := enV_one HND.out hj henm
            have hlk := hmn5.mapL.look_at (t := 106) keyS Tryd.underlying106 hkey ⟨_, List.mem_of_getElem? hjv, rfl⟩ (fun p hp hq => by
              obtain ⟨i, hi⟩ := List.mem_iff_getElem?.1 hp
              obtain ⟨pa, pb⟩ := p
              simp only at hq
              subst hq
              have := huq i pb hi
              subst this
              rw [hjv] at hi
              injection hi with hi
              injection hi with _ hi
              exact hi.symm) false
            simp only [Bool.false_eq_true, if_false] at hlk
            have HJ := Lib.hid hj
            have hcl := castL_len en.pl
            have HNN := Lib.hid henm
            clear HES HEW HEU hen hj henm
            go_wp2_with (first | (at_builtin; refine wpList_app1a rfl (.tmp 62) (.tmp 64) tyI encI_ok rfl (k : Int) rfl _ rfl hcl.symm howe rfl (by first | rfl | simp) (by omega) (by omega) hs5 ?_; intro A6 c6 w6 hown6 hb6 hs6 hf6 hl6; have bY6 := bY5.trans hb6; have hownO := hown5.keepB (fun g hg hl => hf6 g hl (fun g' e' => hown5.apart howe (by decide) hg e')); have hllO : LList w6 mb (r ++ [⟨(⟨key, veh, sys, cls, tm, lns, cn⟩ : CV), A9, c9⟩]) := hll5.keepB (fun x hx g hg hl => hf6 g hl (fun g' e' => (hll5.1 x hx).apart howe (by decide) hg e')); have hem6 := hem5.upd HJ.out (pl := en.pl ++ [k]) (by rw [castL_app']; exact hown6) hf6 hl6; have hmn6 := hmn5.keepA howe hf6) | (at_mapUpdate; refine wpList_storeN_at rfl _ _ _ _ rfl keyS Tryd.underlying106 rfl hmn6 (.string on) (.slice A6 (en.pl.length + 1) c6) _ rfl rfl hkey hjv huq ?_; intro w7 hM7 hG7; have hmb6 := hmn6.isM; have bY7 := below_store bY6 hG7 (by have := bY6.size; omega) (Nat.le_refl _); have hown7 := own_kept hownO hG7 (fun r hr => by injection hr with hr; subst hr; exact hmb6); have hll7 := hllO.kept hG7 hmb6; have hem7 := hem6.kept hG7 hmb6))
            have R2 := Lib.hid (R.out A6 c6)
            have hmq : (L.set j ⟨en.nm, A6, c6, en.pl ++ [k]⟩).map enV = (L.map enV).set j (.string on, .slice A6 (en.pl.length + 1) c6) := by rw [List.map_set, ← HNN.out]; simp [enV]
            rw [← hmq] at hM7
            clear R hmq hlk hjv huq hkey howe hown6 hb6 hf6 hl6 hownO hllO hem6 hmn6 hmb6 hG7 hown5 hll5 hem5 hmn5 bY6
            go_wp2_with fail
            go_roundw
            case rel => exact ⟨k + 1, r ++ [⟨(⟨key, veh, sys, cls, tm, lns, cn⟩ : CV), A9, c9⟩], A8, c8, L.set j ⟨en.nm, A6, c6, en.pl ++ [k]⟩, HK.out, by go_num, by rw [HRL.out], HRV8, R2, hown7, hll7, hem7, hM7, bY7⟩
            case measure => have := HK.out; simp [RowKit.intOf]; omega
          · have hno : ∀ e ∈ L, e.nm ≠ on := fun e he q => hin ⟨e, he, q⟩
            have R := Lib.hid (fun A c => HEW.out rfl hno A c)
            have hlk := hmn5.mapL.look_no (t := 106) keyS Tryd.underlying106 (Tryd.zeroValue51 _) hkey (enV_no hno) false
            simp only [Bool.false_eq_true, if_false] at hlk
            have HNV := Lib.hid (enV_no hno)
            clear HES HEW HEU hno hin
            go_wp2_with (first | (at_builtin; refine wpList_app1b rfl (.tmp 62) (.tmp 64) tyI encI_ok rfl (k : Int) rfl w5.heap.size rfl (l := []) rfl (Own.nil _ _) rfl (by first | rfl | simp) (by simp) (by simp) (Nat.le_refl _) ?_; intro A6 c6 w6 hown6 hb6 hs6 hf6; have bY6 := bY5.trans (hb6.mono hs5); have hownO := hown5.st hb6; have hllO := hll5.st hb6; have hem6 := hem5.new (e := ⟨on, A6, c6, [k]⟩) hb6 hown6 hs5; have hmn6 := hmn5.st hb6) | (at_mapUpdate; refine wpList_storeN rfl _ _ _ _ rfl keyS Tryd.underlying106 rfl hmn6 (.string on) (.slice A6 1 c6) _ rfl rfl hkey HNV.out ?_; intro w7 hM7 hG7; have hmb6 := hmn6.isM; have bY7 := below_store bY6 hG7 (by have := bY6.size; omega) (Nat.le_refl _); have hown7 := own_kept hownO hG7 (fun r hr => by injection hr with hr; subst hr; exact hmb6); have hll7 := hllO.kept hG7 hmb6; have hem7 := hem6.kept hG7 hmb6))
            have R2 := Lib.hid (R.out A6 c6)
            have hmq : (L ++ [(⟨on, A6, c6, [k]⟩ : En)]).map enV = L.map enV ++ [(.string on, .slice A6 1 c6)] := by rw [List.map_append]; rfl
            rw [← hmq] at hM7
            clear R hmq hlk hkey hown6 hb6 hf6 hownO hllO hem6 hmn6 hmb6 hG7 hown5 hll5 hem5 hmn5 bY6
            go_wp2_with fail
            go_roundw
            case rel => exact ⟨k + 1, r ++ [⟨(⟨key, veh, sys, cls, tm, lns, cn⟩ : CV), A9, c9⟩], A8, c8, L ++ [⟨on, A6, c6, [k]⟩], HK.out, by go_num, by rw [HRL.out], HRV8, R2, hown7, hll7, hem7, hM7, bY7⟩
            case measure => have := HK.out; simp [RowKit.intOf]; omega
      · obtain rfl : k = l.length := by omega
        have hrk : r.length = l.length := by rw [← cvs_len r, HRV.out, List.length_take, cvs_len]; omega
        have HRM : Hid (cvs r = mixL (vals acs) caps (cvs l) (fun _ => false)) := Lib.hid (by rw [mixL_none, HRV.out, List.take_of_length_le (Nat.le_of_eq (cvs_len l))])
        have HEN : Hid (EnOk (vals acs) (cvs l) (cvs l).length L) := Lib.hid (by rw [cvs_len]; exact HEN.out)
        have hzr : mb ≤ wr.heap.size := by have := bY.size; omega
        rw [hrk]
        clear HRV
        have HRK := Lib.hid hrk
        clear hrk
        go_wp2_with (first | (refine wpList_rangeN rfl (.tmp 67) 106 rfl Tryd.underlying106 rfl hmn ?_; intro w6 hIt hG6 hs6))
        (try simp only [Act.put, List.setIfInBounds_toArray, List.set_cons_zero, List.set_cons_succ])
        obtain ⟨rb, hrb⟩ : ∃ rb, wr.heap.size = rb := ⟨_, rfl⟩
        rw [hrb] at hIt ⊢
        have hrbm : mb ≤ rb := by omega
        have hb6 : Below wr.heap.size wr w6 := below_none hG6
        have hown6 := hown.st hb6
        have hll6 := hll.st hb6
        have hem6 := hem.st hb6
        have bY6 := bY.trans (hb6.mono hzr)
        clear hown hll hem hmn bY hG6 hs6 hb6 hrb
        go_loopw [15] (fun _ wr => ∃ (r : List Cg) (left : Nat → Bool) (cnt : Nat) (D : Nat → Bool), Hid (cvs r = mixL (vals acs) caps (cvs l) D) ∧ Hid (r.length = l.length) ∧ Hid (DoneR L left (cvs l).length D) ∧ Own 82 encCg 7 wr mb A' c' r ∧ LList wr mb r ∧ EnMem wr mb L ∧ MapIt Tryd.prog 9 wr rb mb (L.map enV) left cnt ∧ Below mb Z wr) (fun _ wr => wr.rangeLeft mb rb)
        case atStart => exact ⟨r, _, _, _, HRM, HRK, DoneR.start, hown6, hll6, hem6, hIt, bY6⟩
        case round =>
          clear hown6 hll6 hem6 hIt bY6 HRM HRK
          obtain ⟨r, left, cnt, D, HRM, HRK, HDR, hown, hll, hem, hIt, bY⟩ := hrel
          have hmeas := hIt.left_eq
          go_wp2_with (at_next; refine wpList_nextN rfl (.tmp 68) rfl rfl hIt ?_ ?_)
          · intro h0 hdl
            have R : Hid (cvs r = cappedL (vals acs) caps (cvs l)) := Lib.hid (by rw [HRM.out]; exact HDR.out.all HEN.out (fun j hj => hdl j (by simpa using hj)))
            have hll9 : CgRs wr r := hll.rs (capped_lns HLN.out R.out)
            have hmw : w.heap.size ≤ mb := by omega
            have bW9 := HBZ.out.trans (bY.mono hmw)
            rw [← HRK.out]
            clear hmeas h0 hdl HDR HRM
            go_wp2_with fail
            go_ret2
            exact ⟨A', c', r, by rw [HE0.out]; rfl, fun _ => R.out, fun q => absurd HE0.out q, hown.mono hmw, hll9, bW9⟩
          · intro i key v w7 cnt' en hen hev hleft hIt7 hlt hg7 hs7 hentry
            simp only [enV, Prod.mk.injEq] at hev
            obtain ⟨rfl, rfl⟩ := hev
            have HMEAS := Lib.hid (And.intro hmeas hlt)
            have hmr := hIt.isM
            have hown7 := own_kept hown hg7 (fun r hr => by injection hr with hr; subst hr; exact hmr)
            have hll7 := hll.kept hg7 hmr
            have hem7 := hem.kept hg7 hmr
            have bY7 := below_store bY hg7 (by have := bY.size; omega) hrbm
            have HHEN := Lib.hid hen
            have hem := List.mem_of_getElem? hen
            have HPL := Lib.hid (HEN.out.2.1 en hem)
            have hpne := HEN.out.2.2.2 en hem
            have HPI := Lib.hid (fun (j x : Nat) (q : en.pl[j]? = some x) => show x < l.length by
              have := List.mem_of_getElem? q
              rw [HPL.out] at this
              have := (idxL_lt this).1
              rwa [cvs_len] at this)
            have HFR := Lib.hid (fun (x : Nat) (q : x ∈ en.pl) => HDR.out.fresh HEN.out hen hleft q)
            have HNX := Lib.hid (fun (D' : Nat → Bool) q => HDR.out.next hen (D' := D') q)
            have HND := Lib.hid (show en.pl.Nodup by rw [HPL.out]; exact idxL_nodup _ _ _ _)
            have hpl1 : en.pl.length ≤ 1000 := by
              rw [HPL.out]
              have : (idxL (vals acs) en.nm (cvs l) (cvs l).length).length ≤ (cvs l).length := by unfold idxL; have := List.length_filter_le (fun i => isO (vals acs) en.nm (chAt (cvs l) i)) (List.range (cvs l).length); simpa using this
              have := cvs_len l; omega
            have hmw : w.heap.size ≤ mb := by omega
            have HBW7 := Lib.hid (HBZ.out.trans (bY7.mono hmw))
            have HEO := Lib.hid (hem7.1 en hem)
            have HOW7 := Lib.hid hown7
            have HLL7 := Lib.hid hll7
            have HEM7 := Lib.hid hem7
            have HIT7 := Lib.hid hIt7
            have HBY7 := Lib.hid bY7
            have HPC := Lib.hid (castL_len en.pl)
            clear hmeas hlt hmr hown hll hem hIt bY hg7 hs7 hen hown7 hll7 hem7 hIt7 bY7 HDR
            go_wp2_with fail
            clear hentry
            go_loopw [16, 75] (fun q i wr => ∃ (m : Nat) (qs : List Cg) (A4 : Option Addr) (c4 : Nat), m ≤ en.pl.length ∧ i = .int .i64 m ∧ q = .slice A4 qs.length c4 ∧ Hid (cvs qs = (en.pl.take m).map (chAt (cvs l))) ∧ Own 82 encCg 7 wr w7.heap.size A4 c4 qs ∧ Below w7.heap.size w7 wr) (fun _ i _ => en.pl.length - (RowKit.intOf i).toNat)
            case atStart => exact ⟨0, [], none, 0, Nat.zero_le _, rfl, rfl, (by unfold Hid; simp [cvs]), Own.nil _ _, Below.refl _ _⟩
            case round =>
              obtain ⟨m, qs, A4, c4, hm, rfl, rfl, HQ, hownq, bS⟩ := hrel
              have hql : qs.length ≤ 1000 := by rw [← cvs_len qs, HQ.out, List.length_map, List.length_take]; omega
              by_cases hmi : m < en.pl.length
              · obtain ⟨p, hp⟩ : ∃ p, en.pl[m]? = some p := ⟨_, List.getElem?_eq_getElem hmi⟩
                have hpl := HPI.out m p hp
                obtain ⟨bo, oo, xo, hAo, hbo, hxo, g0⟩ := ((HEO.out.rd encI_ok).st bS).i (i := m) (by rw [HPC.out]; exact hmi)
                rw [castL_at hp] at hxo
                obtain rfl : (p : Int) = xo := by simpa using hxo
                have HAo := Lib.hid hAo
                obtain ⟨b, off, x, hA, hb, hx, d0, d1, d2, d3, d4, d5, d6⟩ := (H.out.st (HBW7.out.st bS)).cl.cg hpl
                have HA := Lib.hid hA
                have R := Lib.hid (show cvs (qs ++ [x]) = (en.pl.take (m + 1)).map (chAt (cvs l)) by rw [cvs_app, HQ.out, take_snoc hp, List.map_append, List.map_cons, List.map_nil, chAt_of (cvs_at hx)]; rfl)
                obtain ⟨⟨key, veh, sys, cls, tm, lns, cn⟩, lA, lc⟩ := x
                have HMI := Lib.hid hmi
                have m1 : (0 : Int) ≤ (m : Int) := by omega
                have m2 : (m : Int) < (en.pl.length : Int) := by omega
                have p1 : (0 : Int) ≤ (p : Int) := by omega
                have p2 : (p : Int) < (l.length : Int) := by omega
                have bSz := bS.size
                simp only at *
                clear hp hxo hx hmi hb hbo HQ
                rw [hAo, hA]
                clear hAo hA
                go_wp2_with (at_builtin; refine wpList_app1b rfl (.tmp 79) (.tmp 84) tyCg encCg_ok rfl (⟨(⟨key, veh, sys, cls, tm, lns, cn⟩ : CV), lA, lc⟩ : Cg) rfl _ rfl (by simp) hownq rfl (by first | rfl | simp) (by first | omega | (simp; omega)) (by first | omega | (simp; omega)) (by first | exact bS.size | (have := bS.size; omega)) ?_; intro A8 c8 w8 hown8 hb8 hs8 hf8; have hbel8 := bS.trans hb8)
                clear hownq hb8 hf8 hs8
                go_wp2_with fail
                go_roundw
                case rel => exact ⟨m + 1, qs ++ [⟨(⟨key, veh, sys, cls, tm, lns, cn⟩ : CV), lA, lc⟩], A8, c8, HMI.out, by go_num, by simp, R, hown8, hbel8⟩
                case measure => have := HMI.out; simp [RowKit.intOf]; omega
              · obtain rfl : m = en.pl.length := by omega
                have HQO : Hid (cvs qs = ofL (vals acs) en.nm (cvs l)) := Lib.hid (by rw [HQ.out, List.take_length, HPL.out]; exact (ofL_idx _ _ _).symm)
                have bW8 := HBW7.out.st bS
                have BC8 := (HBCZ.out.below HBY7.out hwm).below bS (by have := HBY7.out.size; omega)
                have g14 := BC8.cell 14 (v := .slice cA caps.length cc) rfl
                have hqr := hownq.rd encCg_ok
                have CA := Lib.hid (apply_any cc c4 ((H.out.st bW8).cp) hqr (H.out.st bW8).mon (by have := H.out.cpl; omega) (by omega))
                have HE8 : Hid (applyE caps (cvs qs) = 0) := Lib.hid (by rw [HQO.out]; exact applyE_part HE0.out (fun x hx => ofL_sub x hx) (ofL_len _ _ _))
                have HOQ := Lib.hid hownq
                have HBS := Lib.hid bS
                clear hownq hqr bW8 BC8 HQ bS
                go_wp2_with fail
                refine CA.out.mono ?_
                rintro e w9 ⟨A9, c9, pd, rfl, hp0, -, hownp, hb9⟩
                rw [HE8.out]
                have HPD : Hid (pd = paidL caps (ofL (vals acs) en.nm (cvs l))) := Lib.hid (by rw [hp0 HE8.out, HQO.out])
                clear hp0 CA g14
                have HWW := Lib.hid (HBS.out.st hb9)
                have hw79 := HWW.out.size
                have hown9 := HOW7.out.st HWW.out
                have hll9 := HLL7.out.st HWW.out
                have hem9 := HEM7.out.st HWW.out
                have hit9 := HIT7.out.st HWW.out
                have bY9 := HBY7.out.trans (HWW.out.mono (by have := HBY7.out.size; omega))
                have hoq9 := HOQ.out.st hb9
                have hpr9 := hownp
                obtain ⟨go, hgo, hgo1, hgo2⟩ := HOW7.out.exB (by
                  intro q
                  obtain ⟨x, hx⟩ := List.exists_mem_of_ne_nil _ hpne
                  obtain ⟨j, hj⟩ := List.mem_iff_getElem?.1 hx
                  have := HPI.out j x hj
                  have := HRK.out
                  rw [q] at this
                  simp at this; omega)
                subst hgo
                have heo9 := hem9.1 en (List.mem_of_getElem? HHEN.out)
                have HPLR := Lib.hid (fun (X : World) (hX : ChO go w9 X) => Rd.cho heo9 encI_ok hX (by decide) (fun g hg => heo9.apart hown9 (by decide) hg rfl))
                have HPDR := Lib.hid (fun (X : World) (hX : ChO go w9 X) => Rd.cho hpr9 encI_ok hX (by decide) (fun g hg => hpr9.apart hown9 (by decide) hg rfl))
                have HOQR := Lib.hid (fun (X : World) (hX : ChO go w9 X) => Rd.cho hoq9 encCg_ok hX (by decide) (fun g hg => by
                  rcases hoq9.form with ⟨q, _⟩ | ⟨g', q, hg1, _⟩
                  · rw [q] at hg; cases hg
                  · rw [q] at hg; injection hg with hg; injection hg with hg; omega))
                have HITX := Lib.hid (fun (X : World) (hX : ChO go w9 X) => hit9.cho hX hown9)
                have HEMX := Lib.hid (fun (X : World) (hX : ChO go w9 X) => hem9.cho hX hown9)
                have HPNE := Lib.hid (fun (g : Nat) (hg : A9 = some ⟨g, 0, none⟩) => hpr9.apart hown9 (by decide) hg rfl)
                have HMX := Lib.hid (show ∀ (j x : Nat) (pv : Int), en.pl[j]? = some x → pd[j]? = some pv → (0 ≤ pv ∧ pv ≤ (chAt (cvs l) x).ct ∧ (chAt (cvs l) x).ct ≤ 1125899906842624) ∧ capOne (vals acs) caps (cvs l) x = lessC (chAt (cvs l) x) pv from fun j x pv h1 h2 => by
                  have h1' : (idxL (vals acs) en.nm (cvs l) (cvs l).length)[j]? = some x := by rw [← HPL.out]; exact h1
                  have hpa := paidAt_idx (caps := caps) h1'
                  have hc0 : ∀ c ∈ caps, 0 ≤ c.ct := fun c hc => (capE_ok (HX.out.2.2.1 c hc)).1
                  have hx0 : ∀ x ∈ cvs l, 0 ≤ x.ct := fun x hx => (chE_ok (HX.out.2.2.2 x hx)).1.1
                  have hjl : j < (ofL (vals acs) en.nm (cvs l)).length := by rw [ofL_idx, List.length_map]; exact (List.getElem?_eq_some_iff.1 h1').1
                  have hb := pdAt_bnd (caps := caps) hc0 (fun x h => hx0 x (ofL_sub x h)) hjl
                  have e3 : chAt (ofL (vals acs) en.nm (cvs l)) j = chAt (cvs l) x := by rw [ofL_idx, chAt_map h1']
                  have e4 : pdAt caps (ofL (vals acs) en.nm (cvs l)) j = pv := by unfold pdAt; rw [← HPD.out, h2]; rfl
                  rw [e3, e4] at hb
                  have e5 : ((paidL caps (ofL (vals acs) en.nm (cvs l)))[j]?).getD 0 = pv := e4
                  exact ⟨⟨hb.1, hb.2, (chE_ok (HX.out.2.2.2 _ (chAt_mem hpa.2.2))).1.2⟩, by rw [hpa.2.1, e5]⟩)
                have hpdl : pd.length = en.pl.length := by rw [HPD.out, paidL_len, ofL_idx, List.length_map, ← HPL.out]
                have HQL : Hid (qs.length = en.pl.length) := Lib.hid (by rw [← cvs_len qs, HQO.out, ofL_idx, List.length_map, ← HPL.out])
                have HQC := Lib.hid (fun (j x : Nat) (h1 : en.pl[j]? = some x) => show (cvs qs)[j]? = some (chAt (cvs l) x) by
                  rw [HQO.out, ofL_idx, ← HPL.out, List.getElem?_map, h1]; rfl)
                have HPDL := Lib.hid hpdl
                clear hownp hpr9 hoq9 heo9 hpdl hem9 hit9 hb9 HOQ HBS
                go_wp2_with fail
                go_loopw [99] (fun i wr => ∃ (m : Nat) (r' : List Cg), m ≤ en.pl.length ∧ i = .int .i64 m ∧ Hid (cvs r' = mixL (vals acs) caps (cvs l) (fun x => D x || decide (x ∈ en.pl.take m))) ∧ Hid (r'.length = l.length) ∧ Own 82 encCg 7 wr mb (some ⟨go, 0, none⟩) c' r' ∧ LList wr mb r' ∧ ChO go w9 wr ∧ Below mb Z wr) (fun i _ => en.pl.length - (RowKit.intOf i).toNat)
                case atStart => exact ⟨0, r, Nat.zero_le _, rfl, Lib.hid (by rw [HRM.out]; congr 1; funext x; simp), HRK, hown9, hll9, ChO.refl _ _, bY9⟩
                case round =>
                  clear hown9 hll9 bY9
                  obtain ⟨m, r', hm, rfl, HRM', HRK', hown, hll, hch, bY⟩ := hrel
                  by_cases hmi : m < en.pl.length
                  · obtain ⟨p, hp⟩ : ∃ p, en.pl[m]? = some p := ⟨_, List.getElem?_eq_getElem hmi⟩
                    have hpl := HPI.out m p hp
                    have hps := HPI.out m p hp
                    have HP := Lib.hid hp
                    obtain ⟨bo, oo, xo, hAo, hbo, hxo, g0⟩ := (HPLR.out wr hch).i (i := m) (by rw [HPC.out]; exact hmi)
                    rw [castL_at hp] at hxo
                    obtain rfl : (p : Int) = xo := by simpa using hxo
                    obtain ⟨bp, op, pv, hAp, hbp, hpv, g1⟩ := (HPDR.out wr hch).i (i := m) (by rw [HPDL.out]; exact hmi)
                    have HPV := Lib.hid (show ∀ X, ChO go w9 X → X.cell? ⟨bp, op + m, none⟩ = some (.int .i64 pv) from fun X hX => by
                      obtain ⟨b', o', v', hA', _, hv', hc'⟩ := (HPDR.out X hX).i (i := m) (by rw [HPDL.out]; exact hmi)
                      rw [hAp] at hA'
                      injection hA' with hA'
                      injection hA' with e1 e2
                      subst e1 e2
                      rw [hpv] at hv'
                      rw [Option.some.inj hv']
                      exact hc')
                    obtain ⟨bq, oq, y, hAq, hbq, hy, -, -, -, -, -, -, g2⟩ := (HOQR.out wr hch).cg (i := m) (by rw [HQL.out]; exact hmi)
                    have hyc : y.c = chAt (cvs l) p := by
                      have := HQC.out m p hp
                      rw [cvs_at hy] at this
                      exact Option.some.inj this
                    obtain ⟨⟨hb1, hb2, hb3⟩, hcap⟩ := HMX.out m p pv hp hpv
                    obtain ⟨x, hx⟩ : ∃ x, r'[p]? = some x := ⟨_, List.getElem?_eq_getElem (by rw [HRK'.out]; exact hpl)⟩
                    have hpt : p ∉ en.pl.take m := fun q => by
                      obtain ⟨j, hj⟩ := List.mem_iff_getElem?.1 q
                      rw [List.getElem?_take] at hj
                      split at hj
                      · rename_i hjm
                        obtain ⟨h1, h1e⟩ := List.getElem?_eq_some_iff.1 hj
                        obtain ⟨h2, h2e⟩ := List.getElem?_eq_some_iff.1 hp
                        have := List.pairwise_iff_getElem.1 (List.nodup_iff_pairwise_ne.1 HND.out) j m h1 h2 hjm
                        rw [h1e, h2e] at this
                        exact this rfl
                      · cases hj
                    have hxc : x.c = chAt (cvs l) p := by
                      have := cvs_at hx
                      rw [HRM'.out, mixL_at (by rw [cvs_len]; exact hpl), HFR.out p (List.mem_of_getElem? hp)] at this
                      simp only [Bool.false_or, decide_eq_true_eq, if_neg hpt] at this
                      exact (Option.some.inj this).symm
                    have HTK := Lib.hid (show (fun x => D x || decide (x ∈ en.pl.take (m + 1))) = fun x => (D x || decide (x ∈ en.pl.take m)) || x == p by
                      funext x
                      rw [take_snoc hp, Bool.or_assoc]
                      congr 1
                      rw [Bool.eq_iff_iff]
                      simp)
                    have HSET := Lib.hid (mixL_set (ac := vals acs) (caps := caps) (cs := cvs l) (D := fun x => D x || decide (x ∈ en.pl.take m)) (i := p) (by rw [cvs_len]; exact hpl))
                    have HSKP := Lib.hid (fun q => mixL_skip (ac := vals acs) (caps := caps) (cs := cvs l) (D := fun x => D x || decide (x ∈ en.pl.take m)) (i := p) q)
                    rw [hcap] at HSET HSKP
                    rw [← hxc] at hyc hb2 hb3 HSET HSKP
                    rw [hyc] at g2
                    have HLX := Lib.hid (hll.1 x (List.mem_of_getElem? hx))
                    have HXN : Hid (x.c.lns.length ≤ 900) := Lib.hid (by
                      rw [hxc, chAt_of (cvs_at (List.getElem?_eq_getElem hpl))]
                      exact HLN.out _ (List.getElem_mem hpl))
                    have HPN := Lib.hid (fun (e : bp = go) => HPNE.out)
                    obtain ⟨⟨key, veh, sys, cls, tm, lns, cn⟩, lA, lc⟩ := x
                    simp only at *
                    have HX2 := Lib.hid hx
                    have HMI := Lib.hid hmi
                    have m1 : (0 : Int) ≤ (m : Int) := by omega
                    have m2 : (m : Int) < (en.pl.length : Int) := by omega
                    have m3 : (m : Int) < (pd.length : Int) := by rw [HPDL.out]; omega
                    have m4 : (m : Int) < (qs.length : Int) := by rw [HQL.out]; omega
                    have p1 : (0 : Int) ≤ (p : Int) := by omega
                    have p2 : (p : Int) < (l.length : Int) := by omega
                    have hws : IntKind.i64.wrap (pv - cn) = pv - cn := IntWalk.i64_in _ (by omega)
                    clear hp hxo hpv hy hyc hx hpt hxc hcap hmi hps hbo hbq
                    rw [hAo, hAp, hAq]
                    by_cases hlt : pv < cn
                    · have hld : decide (pv - cn < 0) = true := decide_eq_true (by omega)
                      have hxn := HXN.out
                      have HLS : Hid (lessC (⟨key, veh, sys, cls, tm, lns, cn⟩ : CV) pv = ⟨key, veh, sys, cls, tm, lns ++ [(capS, pv - cn)], pv⟩) := Lib.hid (by unfold lessC; rw [if_pos hlt])
                      clear HSKP
                      go_wp2_with fail
                      go_quiet (fail)
                      obtain ⟨W0, hW0⟩ : ∃ W0, W0 = wr.drewN nq := ⟨_, rfl⟩
                      have hown0 : Own 82 encCg 7 W0 mb (some ⟨go, 0, none⟩) c' r' := by rw [hW0]; exact hown.drewN _
                      have hll0 : LList W0 mb r' := by rw [hW0]; exact hll
                      have hlx0 : Own 99 encLn 2 W0 mb lA lc lns := by rw [hW0]; exact HLX.out
                      have hch0 : ChO go w9 W0 := by rw [hW0]; exact hch
                      have bY0 : Below mb Z W0 := by rw [hW0]; exact below_drewN bY _
                      have g1 : W0.cell? ⟨bp, op + m, none⟩ = some (.int .i64 pv) := HPV.out W0 hch0
                      have c5 := hown0.cells encCg_ok rfl HX2.out (j := 5) rfl
                      rw [← hW0]
                      have hz0 : mb ≤ W0.heap.size := by have := bY0.size; omega
                      clear hW0 hown hll hch bY HLX g0 g2
                      go_wp2_with (first | (at_builtin; refine wpList_app1a rfl (.tmp 122) (.tmp 125) tyLn encLn_ok rfl ((capS, pv - cn) : Ln) rfl _ rfl rfl hlx0 rfl (by first | rfl | simp) (by omega) (by omega) hz0 ?_; intro A8 c8 w8 hown8 hb8 hs8 hf8 hl8; have hownO := hown0.keepB (fun g hg hl => hf8 g hl (fun g' e' => hown0.apart hlx0 (by decide) hg e')); have hll8 := hll0.upd HX2.out (x' := ⟨⟨key, veh, sys, cls, tm, lns ++ [(capS, pv - cn)], pv⟩, A8, c8⟩) hown8 hf8 hl8; have hch8 := hch0.trans (ChO.app hlx0 (Nat.le_of_lt hs8) hf8); have bY8 := bY0.trans hb8; have hs1 := hownO.stored encCg_ok rfl HX2.out (j := 5) (u := .slice A8 (lns.length + 1) c8) (y := ⟨⟨key, veh, sys, cls, tm, lns ++ [(capS, pv - cn)], cn⟩, A8, c8⟩) (by omega) (by simp [encCg]); have hget2 := set_get HX2.out (⟨⟨key, veh, sys, cls, tm, lns ++ [(capS, pv - cn)], cn⟩, A8, c8⟩ : Cg); have hs2 := hs1.stored encCg_ok rfl hget2 (j := 6) (u := .int .i64 pv) (y := ⟨⟨key, veh, sys, cls, tm, lns ++ [(capS, pv - cn)], pv⟩, A8, c8⟩) (by omega) (by simp [encCg]); rw [List.set_set] at hs2; have hl81 := hll8.setO hownO (p * 7 + 5) (.slice A8 (lns.length + 1) c8); have hl82 := hl81.setO hs1 (p * 7 + 6) (.int .i64 pv); have hc81 := hch8.set (j := p * 7 + 5) (.slice A8 (lns.length + 1) c8); have hc82 := hc81.set (j := p * 7 + 6) (.int .i64 pv); have hb82 := (bY8.setCell (p := ⟨go, p * 7 + 5, none⟩) hgo1 (.slice A8 (lns.length + 1) c8)).setCell (p := ⟨go, p * 7 + 6, none⟩) hgo1 (.int .i64 pv); have g1 := HPV.out _ hc81; have c5 := hownO.cells encCg_ok rfl HX2.out (j := 5) rfl; have f5 := hownO.frozen rfl (p * 7 + 5); have c6 := hs1.cells encCg_ok rfl hget2 (j := 6) rfl; have f6 := hs1.frozen rfl (p * 7 + 6)))
                      have R : Hid (cvs (r'.set p ⟨⟨key, veh, sys, cls, tm, lns ++ [(capS, pv - cn)], pv⟩, A8, c8⟩) = mixL (vals acs) caps (cvs l) (fun x => D x || decide (x ∈ en.pl.take (m + 1)))) := Lib.hid (by
                        rw [HTK.out, ← HSET.out, ← HRM'.out, HLS.out]
                        unfold cvs
                        rw [List.map_set])
                      go_wp2_with fail
                      go_roundw
                      case rel => exact ⟨m + 1, _, HMI.out, by go_num, R, Lib.hid (by rw [List.length_set]; exact HRK'.out), hs2, hl82, hc82, hb82⟩
                      case measure => have := HMI.out; simp [RowKit.intOf]; omega
                    · have hld : decide (pv - cn < 0) = false := decide_eq_false (by omega)
                      have R : Hid (cvs r' = mixL (vals acs) caps (cvs l) (fun x => D x || decide (x ∈ en.pl.take (m + 1)))) := Lib.hid (by
                        rw [HTK.out, HRM'.out]
                        exact HSKP.out (lessC_same (by show cn ≤ pv; omega)))
                      clear HSET HSKP HTK HRM' hAo hAp hAq
                      go_wp2_with fail
                      go_quiet (fail)
                      go_wp2_with fail
                      go_roundw
                      case rel => exact ⟨m + 1, r', HMI.out, by go_num, R, HRK', hown.drewN _, hll, hch, below_drewN bY _⟩
                      case measure => have := HMI.out; simp [RowKit.intOf]; omega
                  · obtain rfl : m = en.pl.length := by omega
                    have hit := HITX.out _ hch
                    have hem := HEMX.out _ hch
                    have HM3 := Lib.hid hit.left_eq
                    have HDR' := Lib.hid (HNX.out (fun x => D x || decide (x ∈ en.pl)) (fun _ => rfl))
                    have HRM'' : Hid (cvs r' = mixL (vals acs) caps (cvs l) (fun x => D x || decide (x ∈ en.pl))) := Lib.hid (by rw [HRM'.out, List.take_length])
                    clear HRM'
                    go_wp2_with fail
                    go_roundw
                    case rel => exact ⟨r', _, cnt', _, HRM'', HRK', HDR', hown, hll, hem, hit, bY⟩
                    case measure => have := HM3.out; have := HMEAS.out; omega
  · have hE2 : (applyE caps (cvs l) != 0) = true := by simp [hE]
    have HE := Lib.hid hE
    clear hE
    have bW3 := HbW.out.st hb3
    go_wp2_with fail
    go_ret2
    exact ⟨none, 0, [], rfl, fun q => absurd q HE.out, fun _ => rfl, Own.nil _ _, (fun x hx => by cases hx), bW3⟩
end Go.Proofs.YtlnnbkpcnhlfcaaDoor
