/- Joined texts: DevAt, Valid. -/
import Derived.Test.YtekdppnlgkfcdaaDevCopy
import Derived.Test.YtekdppnlgkfcdaaStabOwn
import Derived.Test.YtekdppnlgkfcdaaJStrEq
import Derived.Test.YtekdppnlgkfcdaaJFirst
import Derived.IntWalk
import Derived.BigRegion
/- device.At, walked. -/
namespace Go.Proofs.Ytekdppnlgkfcdaa
open Go.RowKit Go.Lib Go.Sort Go.Shelf

def ltW (x y : Val) : Bool := sltB x.1 y.1
def cfD (x y : Dv) : Int := Lib.compareBytes x.name.data.toList y.name.data.toList
theorem ltOf_cfD (x y : Dv) : ltOf cfD x y = ltW (vD x) (vD y) := cmp_slt x.name y.name
theorem swoW : SWO ltW := ⟨fun x => sltB_swo.irrefl x.1, fun x y z => sltB_swo.trans x.1 y.1 z.1, fun x y z => sltB_swo.ntrans x.1 y.1 z.1⟩
theorem swoD : SWO (ltOf cfD) := ⟨fun x => by rw [ltOf_cfD]; exact swoW.irrefl _, fun x y z => by rw [ltOf_cfD, ltOf_cfD, ltOf_cfD]; exact swoW.trans _ _ _, fun x y z => by rw [ltOf_cfD, ltOf_cfD, ltOf_cfD]; exact swoW.ntrans _ _ _⟩
def selB (pt : ByteArray) (kd : Int) (d : Dv) : Bool := eqS d.pt pt && (kd == 0 || d.kind == kd)
/-- the devices of a kind at a point, by names -/
def AtOf (pt : ByteArray) (kd : Int) (l r : List Dv) : Prop := StabOf ltW ((l.filter (selB pt kd)).map vD) (r.map vD)

set_option maxHeartbeats 2000000 in
theorem atCmp_any (W : World) (x y : Dv) :
    Calls Try.prog 40 #[DV x, DV y] W fun e w' => e = .returned (.int .i64 (cfD x y)) ∧ Gr W w' := by
  have CS := Lib.hid (fun w => Any.strings_Compare Try.lay_scmp_f41 x.name y.name w)
  unfold cfD
  generalize Lib.compareBytes x.name.data.toList y.name.data.toList = q at *
  obtain ⟨nm, pt, kd, ln, oA, oc, os, dA, dc, ds⟩ := x
  obtain ⟨nm', pt', kd', ln', oA', oc', os', dA', dc', ds'⟩ := y
  simp only [DV] at *
  have HG2 := Lib.hid ((Gr.alloc W (.cells #[.string nm, .string pt, .int .i64 kd, .int .i64 ln, .slice oA os.length oc, .slice dA ds.length dc] 79)).trans (Gr.alloc _ (.cells #[.string nm', .string pt', .int .i64 kd', .int .i64 ln', .slice oA' os'.length oc', .slice dA' ds'.length dc'] 79)))
  go_enter Try.func40, Try.ntmps40
  go_wp2_with fail
  refine (CS.out _).mono ?_
  rintro e w' ⟨rfl, rfl⟩
  go_wp2
  go_ret
  exact ⟨rfl, HG2.out⟩

theorem filter_snoc {α : Type} {l : List α} {k : Nat} {x : α} (p : α → Bool) (hx : l[k]? = some x) : (l.take (k + 1)).filter p = if p x = true then (l.take k).filter p ++ [x] else (l.take k).filter p := by
  rw [take_snoc hx, List.filter_append]
  split
  · rename_i h; simp [h]
  · rename_i h; simp [h]

set_option maxRecDepth 100000 in
set_option maxHeartbeats 8000000 in
theorem dat_any {A : Option Addr} (c : Nat) {l : List Dv} (pt : ByteArray) (kd : Int) {w : World} (h : Rd encD 6 w w.heap.size A l) (hz : DsOk w l) (hsm : ∀ d ∈ l, smallD d) (hl : l.length ≤ 100000000) :
    Calls Try.prog 27 #[.slice A l.length c, .string pt, .int .i64 kd] w fun e w' => ∃ A' c' r, e = .returned (.slice A' r.length c') ∧ Own 79 encD 6 w' w.heap.size A' c' r ∧ (∀ d ∈ r, DOwn w' w.heap.size d) ∧ AtOf pt kd l r ∧ Below w.heap.size w w' := by
  have H := Lib.hid h
  have HZ := Lib.hid hz
  have HS := Lib.hid hsm
  have eg : ∀ args w, (callFunc 40 args).run Try.prog w = .ok (.enter 40 args) w := enters_of Try.func40 (by kernel_rfl) rfl
  have CSort := Lib.hid (fun (X : World) (A' : Option Addr) (c' : Nat) (o : List Dv) (ho : Own 79 encD 6 X w.heap.size A' c' o) (hX : w.heap.size ≤ X.heap.size) (hlo : o.length ≤ 100000000) => stab_own (w := X) encD_ok cfD swoD 40 #[] eg (fun W x y => atCmp_any W x y) ho hX (by omega))
  clear h hz hsm eg
  go_enter Try.func27, Try.ntmps27
  go_wp2_with fail
  go_loopw [7, 12] (fun v i wr => ∃ (k : Nat) (A' : Option Addr) (c' : Nat) (o : List Dv), k ≤ l.length ∧ i = .int .i64 k ∧ v = .slice A' o.length c' ∧ o.length ≤ k ∧ Hid (o.map vD = ((l.take k).filter (selB pt kd)).map vD) ∧ Own 79 encD 6 wr w.heap.size A' c' o ∧ Hid (∀ d ∈ o, DOwn wr w.heap.size d) ∧ Below w.heap.size w wr) (fun _ i _ => l.length - (intOf i).toNat)
  case atStart => exact ⟨0, none, 0, [], Nat.zero_le _, rfl, rfl, Nat.zero_le _, rfl, Own.nil _ _, (fun d hd => by cases hd), Below.refl _ _⟩
  case round =>
    obtain ⟨k, A', c', o, hk, rfl, rfl, hok, HV, hown, HD, hbr⟩ := hrel
    by_cases hlt : k < l.length
    · obtain ⟨b, off, d, rfl, hg, hx, d0, d1, d2, d3, d4, d5⟩ := (H.out.st hbr).d hlt
      have hF := filter_snoc (selB pt kd) hx
      have hmem := List.mem_of_getElem? hx
      have CC := Lib.hid (fun (X : World) (hX : Below wr.heap.size wr X) => copied_any d ((HZ.out d hmem).st (hbr.st hX)) (HS.out d hmem).1 (HS.out d hmem).2)
      have hb1 := (Below.refl wr.heap.size wr).al (.cells #[.string d.name, .string d.pt, .int .i64 d.kind, .int .i64 d.lane, .slice d.oA d.os.length d.oc, .slice d.dA d.ds.length d.dc] 79)
      by_cases hs : selB pt kd d = true
      · rw [if_pos hs] at hF
        have HVn : Hid (∀ d', Cpy d d' → (o ++ [d']).map vD = ((l.take (k + 1)).filter (selB pt kd)).map vD) := fun d' hc => by rw [hF, List.map_append, List.map_append, HV.out]; simp [hc.val]
        have HFin : Hid (∀ (w2 w4 : World) (d' : Dv) (A4 : Option Addr) (c4 : Nat), Below wr.heap.size wr w2 → Cpy d d' → DOwn w2 w.heap.size d' → Own 79 encD 6 w2 w.heap.size A' c' o → (∀ b, b < w2.heap.size → (∀ g, A' = some ⟨g, 0, none⟩ → b ≠ g) → w4.heap[b]? = w2.heap[b]?) → ∀ x ∈ o ++ [d'], DOwn w4 w.heap.size x) := by
          intro w2 w4 d' A4 c4 hb hc hdo hown2 hf x hx
          rw [List.mem_append] at hx
          rcases hx with hx | hx
          · exact ((HD.out x hx).st hb).kept hown2 hf
          · simp only [List.mem_singleton] at hx
            subst hx
            exact hdo.kept hown2 hf
        have hown1 := hown.st hb1
        have hbr1 := hbr.st hb1
        have hol : o.length ≤ 100000000 := by omega
        have hzw := hbr1.size
        have HLT := Lib.hid hlt
        unfold selB at hs
        clear hx hF HV HD hmem H HZ HS CSort
        obtain ⟨nm, pt1, kd1, ln, oA, oc, os, dA, dc, ds⟩ := d
        simp only [DV] at *
        have he2 : (pt1.toList == pt.toList) = true := by
          cases q : eqS pt1 pt
          · rw [q] at hs; cases hs
          · exact q
        have hs2 : kd = 0 ∨ (kd ≠ 0 ∧ kd1 = kd) := by
          have q : eqS pt1 pt = true := he2
          rw [q] at hs
          by_cases z : kd = 0
          · exact .inl z
          · right
            simp [z] at hs
            exact ⟨z, hs⟩
        clear hs
        rcases hs2 with rfl | ⟨hk0, rfl⟩
        all_goals
          go_wp2_with fail
          refine (CC.out _ hb1).mono ?_
          rintro e w2 ⟨d', rfl, hcp, hdo, hb2⟩
          have hbx := hb1.st hb2
          have hown2 := hown1.st hb2
          have hbr2 := hbr1.st hb2
          have hdo2 := hdo.mono hzw
          have HV2 := Lib.hid (HVn.out d' hcp)
          have HF2 := Lib.hid (fun w4 A4 c4 hf => HFin.out w2 w4 d' A4 c4 hbx hcp hdo2 hown2 hf)
          clear HVn HFin hcp hdo hdo2 CC
          obtain ⟨nm2, pt2, kd2, ln2, oA2, oc2, os2, dA2, dc2, ds2⟩ := d'
          simp only [DV] at *
          go_wp2_with (at_builtin; refine wpList_app1b rfl (.tmp 30) (.tmp 33) tyD encD_ok rfl (⟨nm2, pt2, kd2, ln2, oA2, oc2, os2, dA2, dc2, ds2⟩ : Dv) rfl _ rfl (by simp) hown2 rfl (by first | rfl | simp) (by first | omega | (simp; omega)) (by first | omega | (simp; omega)) hbr2.size ?_; intro A4 c4 w4 hown4 hb4 hs4 hf4; have hbel4 := hbr2.trans hb4)
          go_roundw
          case rel => exact ⟨k + 1, A4, c4, _, HLT.out, by go_num, by simp, by simp; omega, HV2, hown4, HF2.out _ A4 c4 hf4, hbel4⟩
          case measure => have := HLT.out; simp [intOf]; omega
      · rw [if_neg hs] at hF
        have HVn : Hid (o.map vD = ((l.take (k + 1)).filter (selB pt kd)).map vD) := by rw [hF]; exact HV.out
        have HDn : Hid (∀ x ∈ o, DOwn (wr.alloc (.cells #[.string d.name, .string d.pt, .int .i64 d.kind, .int .i64 d.lane, .slice d.oA d.os.length d.oc, .slice d.dA d.ds.length d.dc] 79)) w.heap.size x) := fun x hx => (HD.out x hx).st hb1
        have ho1 := hown.alloc (.cells #[.string d.name, .string d.pt, .int .i64 d.kind, .int .i64 d.lane, .slice d.oA d.os.length d.oc, .slice d.dA d.ds.length d.dc] 79)
        have hbr1 := hbr.st hb1
        unfold selB at hs
        clear hx hF CC HV HD hmem
        obtain ⟨nm, pt1, kd1, ln, oA, oc, os, dA, dc, ds⟩ := d
        simp only at *
        cases he : eqS pt1 pt
        · have he2 : (pt1.toList == pt.toList) = false := he
          clear he hs
          go_wp2_with fail
          go_roundw
          case rel => exact ⟨k + 1, A', c', o, by omega, by go_num, rfl, by omega, HVn, ho1, HDn, hbr1⟩
          case measure => simp [intOf]; omega
        · have he2 : (pt1.toList == pt.toList) = true := he
          rw [he] at hs
          have k1 : (kd == 0) = false := by cases q : (kd == 0) <;> simp_all
          have k2 : (kd1 == kd) = false := by cases q : (kd1 == kd) <;> simp_all
          clear he hs
          go_wp2_with fail
          go_roundw
          case rel => exact ⟨k + 1, A', c', o, by omega, by go_num, rfl, by omega, HVn, ho1, HDn, hbr1⟩
          case measure => simp [intOf]; omega
    · obtain rfl : k = l.length := by omega
      have CS2 := Lib.hid (CSort.out wr A' c' o hown hbr.size (by omega))
      have HX : Hid (∀ (w2 : World) (r : List Dv), StabOf (ltOf cfD) o r → (∀ b, b < wr.heap.size → (∀ g, A' = some ⟨g, 0, none⟩ → b ≠ g) → w2.heap[b]? = wr.heap[b]?) → (∀ d ∈ r, DOwn w2 w.heap.size d) ∧ AtOf pt kd l r ∧ r.length = o.length) := by
        intro w2 r hst hk
        refine ⟨fun d hd => (HD.out d (hst.perm.subset hd)).kept hown hk, ?_, hst.perm.length_eq⟩
        have := hst.map vD (lt' := ltW) ltOf_cfD
        rw [HV.out, List.take_length] at this
        exact this
      clear HV HD H HZ HS CSort
      go_wp2_with fail
      refine CS2.out.mono ?_
      rintro e w2 ⟨rfl, r, hst, hown2, hbel, hsz, hk2⟩
      obtain ⟨x1, x2, x3⟩ := HX.out w2 r hst hk2
      have X1 := Lib.hid x1
      have X2 := Lib.hid x2
      have X3 := Lib.hid x3
      have hb9 := hbr.trans hbel
      clear x1 x2 x3 hst hk2 HX
      go_wp2
      go_ret
      exact ⟨A', c', r, by rw [X3.out]; rfl, hown2, X1.out, X2.out, hb9⟩
end Go.Proofs.Ytekdppnlgkfcdaa
/- span.Valid, walked. -/
namespace Go.Proofs.Ytekdppnlgkfcdaa
open Go.RowKit Go.Lib

theorem valid_any (f t : Int) (w : World) :
    Calls Try.prog 44 #[.agg #[.int .i64 f, .int .i64 t]] w fun e w' => e = .returned (.bool (validB f t)) ∧ w.alloc (.cells #[.int .i64 f, .int .i64 t] 84) = w' := by
  unfold validB
  go_enter Try.func44, Try.ntmps44
  go_wp2
  all_goals (go_ret; exact ⟨ret_bool (by rw [Bool.eq_iff_iff]; simp; omega), rfl⟩)
end Go.Proofs.Ytekdppnlgkfcdaa
