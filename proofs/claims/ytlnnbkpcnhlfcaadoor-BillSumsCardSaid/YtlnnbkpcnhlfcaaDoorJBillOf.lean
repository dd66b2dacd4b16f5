/- Joined texts: BillOf, AccROwner. -/
import Derived.Test.YtlnnbkpcnhlfcaaDoorJCapRMath
import Derived.Test.YtlnnbkpcnhlfcaaDoorJAccOwner
/- bill.Of, walked. -/
set_option linter.unusedSimpArgs false
namespace Go.Proofs.YtlnnbkpcnhlfcaaDoor
open Go.RowKit Go.Lib

theorem ofL_tk {ac : List Av} {nm : ByteArray} {cs : List CV} {k : Nat} {x : CV} (hx : cs[k]? = some x) : ofL ac nm (cs.take (k + 1)) = ofL ac nm (cs.take k) ++ (if isO ac nm x = true then [x] else []) := by
  unfold ofL
  rw [take_snoc hx, List.filter_append]
  cases h : isO ac nm x <;> simp [List.filter_cons, h]
theorem cvs_app (a b : List Cg) : cvs (a ++ b) = cvs a ++ cvs b := by simp [cvs]
/-- what Of hands back -/
def OfR (ac : List Av) (nm : ByteArray) (cs : List CV) (w w' : World) (e : Ending) : Prop :=
  ∃ A c r, e = .returned (.slice A r.length c) ∧ cvs r = ofL ac nm cs ∧ Own 82 encCg 7 w' w.heap.size A c r ∧ CgRs w' r ∧ Below w.heap.size w w'
theorem LList.len {w : World} {l : List Cg} (h : CgRs w l) : ∀ x ∈ l, x.c.lns.length ≤ 1000 := fun x hx => (h x hx).2

set_option maxRecDepth 100000 in
set_option maxHeartbeats 1000000 in
theorem of_any {aA cA A : Option Addr} {acs : List Ac} {caps : List Cp} {l : List Cg} (ac cc c : Nat) (nm : ByteArray) {w : World} (h : BLO w aA ac acs cA caps A l) :
    Calls Tryd.prog 24 #[.agg #[.slice none 0 0, .slice none 0 0, .slice none 0 0, .slice none 0 0, .slice none 0 0, .slice none 0 0, .int .i64 0, .int .i64 0, .slice none 0 0, .int .i64 0, .slice none 0 0, .slice none 0 0, .slice none 0 0, .slice none 0 0, .slice cA caps.length cc, .slice none 0 0, .slice none 0 0, .slice aA acs.length ac, .slice none 0 0, .slice none 0 0, .slice none 0 0, .slice none 0 0, .int .i64 0, .slice none 0 0, .string ⟨#[]⟩], .string nm, .slice A l.length c] w fun e w' => OfR (vals acs) nm (cvs l) w w' e := by
  have H := Lib.hid h
  have hl1 : l.length ≤ 1000 := h.cll
  obtain ⟨Y, hY⟩ : ∃ Y, w.alloc (.cells #[.slice none 0 0, .slice none 0 0, .slice none 0 0, .slice none 0 0, .slice none 0 0, .slice none 0 0, .int .i64 0, .int .i64 0, .slice none 0 0, .int .i64 0, .slice none 0 0, .slice none 0 0, .slice none 0 0, .slice none 0 0, .slice cA caps.length cc, .slice none 0 0, .slice none 0 0, .slice aA acs.length ac, .slice none 0 0, .slice none 0 0, .slice none 0 0, .slice none 0 0, .int .i64 0, .slice none 0 0, .string ⟨#[]⟩] 62) = Y := ⟨_, rfl⟩
  have BC : Blk Y w.heap.size #[.slice none 0 0, .slice none 0 0, .slice none 0 0, .slice none 0 0, .slice none 0 0, .slice none 0 0, .int .i64 0, .int .i64 0, .slice none 0 0, .int .i64 0, .slice none 0 0, .slice none 0 0, .slice none 0 0, .slice none 0 0, .slice cA caps.length cc, .slice none 0 0, .slice none 0 0, .slice aA acs.length ac, .slice none 0 0, .slice none 0 0, .slice none 0 0, .slice none 0 0, .int .i64 0, .slice none 0 0, .string ⟨#[]⟩] 62 := by rw [← hY]; exact Blk.new w _ _
  have bW : Below w.heap.size w Y := by rw [← hY]; exact (Below.refl _ w).al _
  have s1 : Y.heap.size = w.heap.size + 1 := by rw [← hY]; simp
  have HBC := Lib.hid BC
  have HbW := Lib.hid bW
  clear h
  go_enter Tryd.func24, Tryd.ntmps24
  go_wp2_with fail
  clear hY BC bW
  go_loopw [7, 14] (fun o i wr => ∃ (k : Nat) (r : List Cg) (A' : Option Addr) (c' : Nat), k ≤ l.length ∧ i = .int .i64 k ∧ o = .slice A' r.length c' ∧ Hid (r.length ≤ k) ∧ Hid (cvs r = ofL (vals acs) nm ((cvs l).take k)) ∧ Own 82 encCg 7 wr (w.heap.size + 1) A' c' r ∧ LList wr (w.heap.size + 1) r ∧ Hid (∀ x ∈ r, x.c.lns.length ≤ 1000) ∧ Below (w.heap.size + 1) Y wr) (fun _ i _ => l.length - (RowKit.intOf i).toNat)
  case atStart => exact ⟨0, [], none, 0, Nat.zero_le _, rfl, rfl, (by unfold Hid; simp), Lib.hid (by simp [cvs, ofL]), Own.nil _ _, LList.nil _ _, (by unfold Hid; simp), by rw [← s1]; exact Below.refl _ _⟩
  case round =>
    obtain ⟨k, r, A', c', hk, rfl, rfl, HRL, HRV, hown, hll, HRN, bY⟩ := hrel
    by_cases hi : k < l.length
    · have bW : Below w.heap.size w wr := HbW.out.trans (bY.mono (by omega))
      obtain ⟨b, off, x, rfl, hb, hx, d0, d1, d2, d3, d4, d5, d6⟩ := (H.out.st bW).cl.cg hi
      have HK := Lib.hid hi
      have hxc : (cvs l)[k]? = some x.c := cvs_at hx
      have HT := Lib.hid (ofL_tk (ac := vals acs) (nm := nm) hxc)
      have HXM := Lib.hid (H.out.rs x (List.mem_of_getElem? hx))
      obtain ⟨⟨key, veh, sys, cls, tm, lns, cn⟩, lA, lc⟩ := x
      simp only at *
      have hsz : w.heap.size + 1 ≤ wr.heap.size := by have := bY.size; omega
      obtain ⟨Y2, hY2⟩ : ∃ Y, wr.alloc (.cells #[.string key, .string veh, .string sys, .int .i64 cls, .int .i64 tm, .slice lA lns.length lc, .int .i64 cn] 82) = Y := ⟨_, rfl⟩
      have BX : Blk Y2 wr.heap.size #[.string key, .string veh, .string sys, .int .i64 cls, .int .i64 tm, .slice lA lns.length lc, .int .i64 cn] 82 := by rw [← hY2]; exact Blk.new wr _ _
      have b2 : Below wr.heap.size wr Y2 := by rw [← hY2]; exact (Below.refl _ wr).al _
      have s2 : Y2.heap.size = wr.heap.size + 1 := by rw [← hY2]; simp
      have BC := HBC.out.below (bY.trans (b2.mono hsz)) (by omega)
      have g17 := BC.cell 17 (v := .slice aA acs.length ac) rfl
      have x1 := BX.cell 1 (v := .string veh) rfl
      have x4 := BX.cell 4 (v := .int .i64 tm) rfl
      have OC := Lib.hid (owner_any ac veh tm (H.out.al.st (bW.st b2)) H.out.sm)
      clear hx hxc hi hb
      go_wp2_with fail
      refine OC.out.mono ?_
      rintro e w3 ⟨rfl, hbn⟩
      have b3 := b2.st hbn
      have bY3 := bY.trans (b3.mono hsz)
      have hown3 := hown.st b3
      have hll3 := hll.st b3
      have BX := BX.below hbn BX.lt
      have sz3 := hbn.size
      have HXM3 := Lib.hid (HXM.out.1.st (bW.st b3))
      have HXL := Lib.hid HXM.out.2
      have HIS : Hid (isO (vals acs) nm (⟨key, veh, sys, cls, tm, lns, cn⟩ : CV) = (ownerB (vals acs) veh tm && eqS (ownerN (vals acs) veh tm) nm)) := Lib.hid rfl
      clear OC hbn hown hll b2 hY2 HXM x1 x4 g17 BC d0 d1 d2 d3 d4 d5 d6
      generalize ownerN (vals acs) veh tm = on at *
      generalize ownerB (vals acs) veh tm = ob at *
      cases ob
      · have R : Hid (cvs r = ofL (vals acs) nm ((cvs l).take (k + 1))) := Lib.hid (by rw [HT.out, HIS.out, HRV.out]; simp)
        clear HT HIS HRV
        go_wp2_with fail
        go_roundw
        case rel => exact ⟨k + 1, r, _, _, HK.out, by go_num, rfl, Lib.hid (by have := HRL.out; omega), R, hown3, hll3, HRN, bY3⟩
        case measure => have := HK.out; simp [RowKit.intOf]; omega
      · cases he : eqS on nm
        · have R : Hid (cvs r = ofL (vals acs) nm ((cvs l).take (k + 1))) := Lib.hid (by rw [HT.out, HIS.out, HRV.out, he]; simp)
          have he2 : (on.toList == nm.toList) = false := he
          clear HT HIS HRV he
          go_wp2_with fail
          go_roundw
          case rel => exact ⟨k + 1, r, _, _, HK.out, by go_num, rfl, Lib.hid (by have := HRL.out; omega), R, hown3, hll3, HRN, bY3⟩
          case measure => have := HK.out; simp [RowKit.intOf]; omega
        · have HE := Lib.hid (show isO (vals acs) nm (⟨key, veh, sys, cls, tm, lns, cn⟩ : CV) = true by rw [HIS.out, he]; rfl)
          have he2 : (on.toList == nm.toList) = true := he
          have CC := Lib.hid (bcopied_any (⟨key, veh, sys, cls, tm, lns, cn⟩ : CV) lc HXM3.out (Nat.le_trans HXL.out (by decide)))
          have hrl : r.length ≤ 1000 := by have := HRL.out; omega
          clear HIS he
          go_wp2_with (first | (refine wpList_boxLoad rfl (ty := 82) (x := .tmp 9) (cs := #[.string key, .string veh, .string sys, .int .i64 cls, .int .i64 tm, .slice lA lns.length lc, .int .i64 cn]) rfl BX rfl ⟨_, Tryd.underlying82, by kernel_rfl⟩ ?_))
          refine CC.out.mono ?_
          rintro e w4 ⟨A9, c9, rfl, hown9, hbn⟩
          simp only [CHV]
          have b4 := b3.st hbn
          have bY4 := bY.trans (b4.mono hsz)
          have hown4 := hown3.st hbn
          have hll4 := hll3.snoc (x := ⟨(⟨key, veh, sys, cls, tm, lns, cn⟩ : CV), A9, c9⟩) hbn hown9 (by omega)
          clear hown3 hll3 CC hown9
          go_wp2_with (at_builtin; refine wpList_app1b rfl (.tmp 34) (.tmp 37) tyCg encCg_ok rfl (⟨(⟨key, veh, sys, cls, tm, lns, cn⟩ : CV), A9, c9⟩ : Cg) rfl _ rfl (by simp) hown4 rfl (by first | rfl | simp) (by first | omega | (simp; omega)) (by first | omega | (simp; omega)) (by first | exact bY4.size | (have := bY4.size; omega)) ?_; intro A8 c8 w8 hown8 hb8 hs8 hf8; have hbel8 := bY4.trans hb8)
          have hll8 := hll4.keepA hown4 (by decide) hf8
          have R : Hid (cvs (r ++ [⟨(⟨key, veh, sys, cls, tm, lns, cn⟩ : CV), A9, c9⟩]) = ofL (vals acs) nm ((cvs l).take (k + 1))) := Lib.hid (by rw [HT.out, if_pos HE.out, cvs_app, HRV.out]; rfl)
          have RN : Hid (∀ x ∈ r ++ [(⟨(⟨key, veh, sys, cls, tm, lns, cn⟩ : CV), A9, c9⟩ : Cg)], x.c.lns.length ≤ 1000) := Lib.hid (by
            intro x hx
            rcases List.mem_append.1 hx with q | q
            · exact HRN.out x q
            · rw [List.mem_singleton] at q; subst q; exact HXL.out)
          clear hown4 hll4 hb8 hf8 HT HE HRV HRN
          go_wp2_with fail
          go_roundw
          case rel => exact ⟨k + 1, r ++ [⟨(⟨key, veh, sys, cls, tm, lns, cn⟩ : CV), A9, c9⟩], A8, c8, HK.out, by go_num, by simp, Lib.hid (by have := HRL.out; simp; omega), R, hown8, hll8, RN, hbel8⟩
          case measure => have := HK.out; simp [RowKit.intOf]; omega
    · obtain rfl : k = l.length := by omega
      have R : Hid (cvs r = ofL (vals acs) nm (cvs l)) := Lib.hid (by rw [HRV.out, List.take_of_length_le (Nat.le_of_eq (cvs_len l))])
      clear HRV
      go_wp2_with fail
      go_ret
      exact ⟨A', c', r, rfl, R.out, hown.mono (by omega), hll.rs HRN.out, HbW.out.trans (bY.mono (by omega))⟩
end Go.Proofs.YtlnnbkpcnhlfcaaDoor
/- The reference's owns and Owner, walked. -/
namespace Go.Proofs.YtlnnbkpcnhlfcaaDoor
open Go.RowKit Go.Lib

theorem rspan_any (f t : Int) (w : World) :
    Calls Tryd.prog 94 #[.agg #[.int .i64 f, .int .i64 t]] w fun e w' => e = .returned (.bool (validB f t)) ∧ w.alloc (.cells #[.int .i64 f, .int .i64 t] 68) = w' := by
  unfold validB
  go_enter Tryd.func94, Tryd.ntmps94
  go_wp2
  all_goals (go_ret; exact ⟨ret_bool (by rw [Bool.eq_iff_iff]; simp; omega), rfl⟩)
theorem owns_span {v : ByteArray} {t : Int} {o : Ow} (h : emp v = false) (h1 : eqS o.tag v = true ∨ eqS o.pl v = true) : ownsB v t o = (validB o.f o.t && decide (o.f ≤ t) && decide (t < o.t)) := by rw [owns_one h h1, hasB_one]

set_option maxRecDepth 100000 in
set_option maxHeartbeats 8000000 in
theorem rowns_any {A : Option Addr} (c : Nat) {l : List Ow} (v : ByteArray) (t : Int) {w : World} (h : Rd encOw 4 w w.heap.size A l) (hlen : l.length ≤ 9223372036854775807) :
    Calls Tryd.prog 77 #[.slice A l.length c, .string v, .int .i64 t] w fun e w' => (∃ i, e = .returned (.int .i64 i) ∧ IdxR (ownsB v t) l i) ∧ Below w.heap.size w w' := by
  have H := Lib.hid h
  have CV := Lib.hid (fun (f t : Int) (X : World) => rspan_any f t X)
  have HE := Lib.hid (fun (q : emp v = true) (o : Ow) => owns_emp q t o)
  have HX := Lib.hid (fun (o : Ow) q1 q2 => owns_neither (v := v) (t := t) (o := o) q1 q2)
  have HO := Lib.hid (fun (q : emp v = false) (o : Ow) q1 => owns_span (v := v) (t := t) (o := o) q q1)
  clear h
  by_cases hv : emp v = true
  · obtain rfl := (emp_iff v).1 hv
    have HE := Lib.hid (HE.out hv)
    clear HX HO CV
    clear hv
    go_enter Tryd.func77, Tryd.ntmps77
    go_wp2
    go_loopw [7] (fun i wr => ∃ k : Nat, k ≤ l.length ∧ i = .int .i64 k ∧ Hid (∀ y ∈ l.take k, ownsB ⟨#[]⟩ t y = false) ∧ Below w.heap.size w wr) (fun i _ => l.length - (RowKit.intOf i).toNat)
    case atStart => exact ⟨0, Nat.zero_le _, rfl, (by unfold Hid; simp), Below.refl _ _⟩
    case round =>
      obtain ⟨k, hk, rfl, HN, bW⟩ := hrel
      by_cases hi : k < l.length
      · have HK := Lib.hid hi
        have R := Lib.hid (all_succ' (p := ownsB ⟨#[]⟩ t) (List.getElem?_eq_getElem hi) HN.out (HE.out _))
        go_wp2_with fail; go_roundw; (case rel => exact ⟨k + 1, HK.out, by go_num, R, bW⟩); (case measure => have := HK.out; simp [RowKit.intOf]; omega)
      · obtain rfl : k = l.length := by omega
        have R : Hid (IdxR (ownsB ⟨#[]⟩ t) l (-1)) := Lib.hid (Or.inl ⟨rfl, by have := HN.out; rwa [List.take_length] at this⟩)
        go_wp2
        go_ret
        exact ⟨⟨_, rfl, R.out⟩, bW⟩
  · rw [Bool.not_eq_true] at hv
    have HO := Lib.hid (HO.out hv)
    obtain ⟨n1, n2, n3⟩ := toList_neE hv
    clear HE hv
    go_enter Tryd.func77, Tryd.ntmps77
    go_wp2
    go_loopw [7] (fun i wr => ∃ k : Nat, k ≤ l.length ∧ i = .int .i64 k ∧ Hid (∀ y ∈ l.take k, ownsB v t y = false) ∧ Below w.heap.size w wr) (fun i _ => l.length - (RowKit.intOf i).toNat)
    case atStart => exact ⟨0, Nat.zero_le _, rfl, (by unfold Hid; simp), Below.refl _ _⟩
    case round =>
      obtain ⟨k, hk, rfl, HN, bW⟩ := hrel
      by_cases hi : k < l.length
      · obtain ⟨b, off, o, rfl, hb, hx, d0, d1, d2, d3⟩ := (H.out.st bW).ow hi
        have HK := Lib.hid hi
        have HXk := Lib.hid hx
        have i1 : (0 : Int) ≤ (k : Int) := by omega
        have i2 : (k : Int) < (l.length : Int) := by omega
        have C5 := Lib.hid (CV.out o.f o.t wr)
        have key : ∀ (e : Bool), eqS o.tag v = e → (e = true ∨ eqS o.pl v = true) → ownsB v t o = (validB o.f o.t && decide (o.f ≤ t) && decide (t < o.t)) := fun e q q1 => HO.out o (q1.elim (fun q2 => Or.inl (q.trans q2)) Or.inr)
        obtain ⟨Y, hY⟩ : ∃ Y, wr.alloc (.cells #[.int .i64 o.f, .int .i64 o.t] 68) = Y := ⟨_, rfl⟩
        have bY : Below w.heap.size w Y := by rw [← hY]; exact bW.al _
        have y2 : World.cell? Y ⟨b, off + k * 4 + 2, none⟩ = some (.int .i64 o.f) := by rw [← hY]; exact (World.cell?_alloc_lt wr _ ⟨b, _, none⟩ hb).trans d2
        have y3 : World.cell? Y ⟨b, off + k * 4 + 3, none⟩ = some (.int .i64 o.t) := by rw [← hY]; exact (World.cell?_alloc_lt wr _ ⟨b, _, none⟩ hb).trans d3
        have KEY := Lib.hid key
        clear key
        rw [hY] at C5
        cases e1 : eqS o.tag v
        · cases e2 : eqS o.pl v
          · have R := Lib.hid (all_succ' (p := ownsB v t) hx HN.out (HX.out o e1 e2))
            have e1b : (o.tag.toList == v.toList) = false := e1
            have e2b : (o.pl.toList == v.toList) = false := e2
            clear hx e1 e2 hi C5 bY
            go_wp2_with fail; go_roundw; (case rel => exact ⟨k + 1, HK.out, by go_num, R, bW⟩); (case measure => have := HK.out; simp [RowKit.intOf]; omega)
          · have HV := Lib.hid (KEY.out false e1 (Or.inr e2))
            have e1b : (o.tag.toList == v.toList) = false := e1
            have e2b : (o.pl.toList == v.toList) = true := e2
            clear hx e1 e2 hi KEY hY
            go_wp2_with fail
            refine C5.out.mono ?_
            rintro e w5 ⟨rfl, rfl⟩
            clear bW
            have bW := bY
            clear bY
            by_cases hq : (validB o.f o.t && decide (o.f ≤ t) && decide (t < o.t)) = true
            · have R : Hid (IdxR (ownsB v t) l (k : Int)) := Lib.hid (Or.inr ⟨k, o, HXk.out, rfl, HV.out.trans hq, HN.out⟩)
              simp only [Bool.and_eq_true, decide_eq_true_eq] at hq
              obtain ⟨⟨q1, q2⟩, q3⟩ := hq
              go_wp2_with fail
              go_ret
              exact ⟨⟨_, rfl, R.out⟩, bW⟩
            · have R := Lib.hid (all_succ' (p := ownsB v t) HXk.out HN.out (HV.out.trans (by simpa using hq)))
              rw [Bool.not_eq_true] at hq
              cases q1 : validB o.f o.t
              · clear hq
                go_wp2_with fail; go_roundw; (case rel => exact ⟨k + 1, HK.out, by go_num, R, bW⟩); (case measure => have := HK.out; simp [RowKit.intOf]; omega)
              · by_cases q2 : o.f ≤ t
                · have q3 : ¬ t < o.t := by
                    intro q3
                    rw [q1, decide_eq_true q2, decide_eq_true q3] at hq
                    cases hq
                  clear hq
                  go_wp2_with fail; go_roundw; (case rel => exact ⟨k + 1, HK.out, by go_num, R, bW⟩); (case measure => have := HK.out; simp [RowKit.intOf]; omega)
                · clear hq
                  go_wp2_with fail; go_roundw; (case rel => exact ⟨k + 1, HK.out, by go_num, R, bW⟩); (case measure => have := HK.out; simp [RowKit.intOf]; omega)
        · have HV := Lib.hid (KEY.out true e1 (Or.inl rfl))
          have e1b : (o.tag.toList == v.toList) = true := e1
          clear hx e1 hi KEY hY
          go_wp2_with fail
          refine C5.out.mono ?_
          rintro e w5 ⟨rfl, rfl⟩
          clear bW
          have bW := bY
          clear bY
          by_cases hq : (validB o.f o.t && decide (o.f ≤ t) && decide (t < o.t)) = true
          · have R : Hid (IdxR (ownsB v t) l (k : Int)) := Lib.hid (Or.inr ⟨k, o, HXk.out, rfl, HV.out.trans hq, HN.out⟩)
            simp only [Bool.and_eq_true, decide_eq_true_eq] at hq
            obtain ⟨⟨q1, q2⟩, q3⟩ := hq
            go_wp2_with fail
            go_ret
            exact ⟨⟨_, rfl, R.out⟩, bW⟩
          · have R := Lib.hid (all_succ' (p := ownsB v t) HXk.out HN.out (HV.out.trans (by simpa using hq)))
            rw [Bool.not_eq_true] at hq
            cases q1 : validB o.f o.t
            · clear hq
              go_wp2_with fail; go_roundw; (case rel => exact ⟨k + 1, HK.out, by go_num, R, bW⟩); (case measure => have := HK.out; simp [RowKit.intOf]; omega)
            · by_cases q2 : o.f ≤ t
              · have q3 : ¬ t < o.t := by
                  intro q3
                  rw [q1, decide_eq_true q2, decide_eq_true q3] at hq
                  cases hq
                clear hq
                go_wp2_with fail; go_roundw; (case rel => exact ⟨k + 1, HK.out, by go_num, R, bW⟩); (case measure => have := HK.out; simp [RowKit.intOf]; omega)
              · clear hq
                go_wp2_with fail; go_roundw; (case rel => exact ⟨k + 1, HK.out, by go_num, R, bW⟩); (case measure => have := HK.out; simp [RowKit.intOf]; omega)
      · obtain rfl : k = l.length := by omega
        have R : Hid (IdxR (ownsB v t) l (-1)) := Lib.hid (Or.inl ⟨rfl, by have := HN.out; rwa [List.take_length] at this⟩)
        go_wp2
        go_ret
        exact ⟨⟨_, rfl, R.out⟩, bW⟩

set_option maxRecDepth 100000 in
set_option maxHeartbeats 8000000 in
theorem rowner_any {A : Option Addr} (c : Nat) {l : List Ac} (v : ByteArray) (t : Int) {w : World} (h : AL w A c l) (hsm : smL l) :
    Calls Tryd.prog 42 #[.slice A l.length c, .string v, .int .i64 t] w fun e w' => e = .returned (.tuple #[.string (ownerN (vals l) v t), .bool (ownerB (vals l) v t)]) ∧ Below w.heap.size w w' := by
  have H := Lib.hid h
  have CO := Lib.hid (fun (a : Ac) (ha : a ∈ l) (X : World) (hX : Below w.heap.size w X) => rowns_any a.oc v t (h.2.1.st hX a ha).1 (by have := (hsm.2 a ha).1; omega))
  have HAT := Lib.hid (fun (k : Nat) (a : Ac) (hx : l[k]? = some a) q1 q2 => owner_at (v := v) (t := t) hx q1 q2)
  have HNO := Lib.hid (owner_none (l := l) (v := v) (t := t))
  have hlen : l.length ≤ 1000 := hsm.1
  generalize ownerN (vals l) v t = rn at *
  generalize ownerB (vals l) v t = rb at *
  clear h hsm
  go_enter Tryd.func42, Tryd.ntmps42
  go_wp2
  go_loopw [8] (fun i wr => ∃ k : Nat, k ≤ l.length ∧ i = .int .i64 k ∧ Hid (∀ y ∈ l.take k, ownA v t y.v = false) ∧ Below w.heap.size w wr) (fun i _ => l.length - (RowKit.intOf i).toNat)
  case atStart => exact ⟨0, Nat.zero_le _, rfl, (by unfold Hid; simp), Below.refl _ _⟩
  case round =>
    obtain ⟨k, hk, rfl, HN, bW⟩ := hrel
    by_cases hi : k < l.length
    · obtain ⟨b, off, a, rfl, hb, hx, d0, d1, d2, d3, d4, d5, d6, d7, d8⟩ := (H.out.1.st bW).ac hi
      have i1 : (0 : Int) ≤ (k : Int) := by omega
      have i2 : (k : Int) < (l.length : Int) := by omega
      have HK := Lib.hid hi
      have HX := Lib.hid hx
      have COa := Lib.hid (CO.out a (List.mem_of_getElem? hx) wr bW)
      clear hx hi
      go_wp2_with fail
      refine COa.out.mono ?_
      rintro e w5 ⟨⟨i, rfl, hI⟩, hbn⟩
      have bW5 := bW.st hbn
      have y0 : World.cell? w5 ⟨b, off + k * 9, none⟩ = some (.string a.v.name) := (hbn.cell (p := ⟨b, _, none⟩) hb).trans d0
      rcases ownA_idx hI with ⟨hq, rfl⟩ | ⟨hq, j, rfl⟩
      · have R := Lib.hid (all_succ' (p := fun y : Ac => ownA v t y.v) HX.out HN.out hq)
        clear hq hI
        go_wp2_with fail
        go_roundw
        case rel => exact ⟨k + 1, HK.out, by go_num, R, bW5⟩
        case measure => have := HK.out; simp [RowKit.intOf]; omega
      · have R := Lib.hid (HAT.out k a HX.out hq HN.out)
        have j0 : (0 : Int) ≤ (j : Int) := by omega
        clear hq hI
        go_wp2_with fail
        go_ret2
        obtain ⟨rfl, rfl⟩ := R.out
        exact ⟨rfl, bW5⟩
    · obtain rfl : k = l.length := by omega
      have R := Lib.hid (HNO.out HN.out)
      go_wp2
      go_ret2
      obtain ⟨rfl, rfl⟩ := R.out
      exact ⟨rfl, bW⟩
end Go.Proofs.YtlnnbkpcnhlfcaaDoor
