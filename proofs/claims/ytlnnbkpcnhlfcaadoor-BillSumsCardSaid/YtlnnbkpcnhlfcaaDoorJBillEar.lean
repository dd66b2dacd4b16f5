/- Joined texts: BillEar, Open. -/
import Derived.Test.YtlnnbkpcnhlfcaaDoorJBillFew
import Derived.Test.YtlnnbkpcnhlfcaaDoorBase
import Derived.ProofKit
import Derived.OpenShut
import Derived.ShutString
import Derived.ChangeOld
import Derived.Deep.Slices
/- bill.Earlier, walked. -/
set_option linter.unusedSimpArgs false
namespace Go.Proofs.YtlnnbkpcnhlfcaaDoor
open Go.RowKit Go.Lib

theorem earN_tk {l : List Trp} {x y : Trp} {k : Nat} (hy : l[k]? = some y) : ((l.take (k + 1)).filter (earB x)).length = ((l.take k).filter (earB x)).length + if earB x y = true then 1 else 0 := by
  rw [take_snoc hy, List.filter_append, List.length_append]
  cases h : earB x y <;> simp [List.filter_cons, h]
def TrsOk (w : World) (l : List Trp) : Prop := ∀ t ∈ l, TrOk w t
theorem TrsOk.st {w w' : World} {l : List Trp} (h : TrsOk w l) (hb : Below w.heap.size w w') : TrsOk w' l := fun t ht => (h t ht).st hb
theorem ss_zero {t : Trp} (h : t.ss = []) : ((t.ss.length : Int) == 0) = true ∧ ¬ (0 : Int) < t.ss.length := by rw [h]; simp
theorem ss_pos {t : Trp} (h : t.ss ≠ []) : ((t.ss.length : Int) == 0) = false ∧ (0 : Int) < t.ss.length := by
  have := List.length_pos_iff.2 h
  exact ⟨by rw [beq_eq_false_iff_ne]; omega, by omega⟩
set_option maxRecDepth 100000 in
set_option maxHeartbeats 2000000 in
theorem earlier_any {A : Option Addr} (c : Nat) {l : List Trp} (x : Trp) {w : World} (hr : Rd encTr 5 w w.heap.size A l) (hok : TrsOk w l) (hx : TrOk w x) (hm : Mon w) (hl : l.length ≤ 1000) :
    Calls Tryd.prog 15 #[.slice A l.length c, TrV x] w fun e w' => e = .returned (.int .i64 (earN l x)) ∧ Below w.heap.size w w' := by
  have H := Lib.hid hr
  have HO := Lib.hid hok
  have HX := Lib.hid hx
  have HM := Lib.hid hm
  have HN : Hid (earN l x = if x.ss = [] ∨ monN (begT x) < 0 then 0 else (l.filter (earB x)).length) := Lib.hid rfl
  have HV : Hid (TrV x = .agg #[.string x.id, .string x.vh, .string x.sy, .int .i64 x.cl, .slice x.sA x.ss.length x.sc]) := Lib.hid rfl
  obtain ⟨rn, hrn⟩ : ∃ n, earN l x = n := ⟨_, rfl⟩
  rw [hrn] at HN ⊢
  rw [HV.out]
  clear hr hok hm hrn
  by_cases hne : x.ss = []
  · have R := Lib.hid (HN.out.trans (if_pos (.inl hne)))
    have hz := ss_zero hne
    clear HN
    obtain ⟨xi, xv, xy, xc, xA, xd, xs⟩ := x
    simp only at *
    obtain ⟨Y, hY⟩ : ∃ Y, w.alloc (.cells #[.string xi, .string xv, .string xy, .int .i64 xc, .slice xA xs.length xd] 28) = Y := ⟨_, rfl⟩
    have BX : Blk Y w.heap.size #[.string xi, .string xv, .string xy, .int .i64 xc, .slice xA xs.length xd] 28 := by rw [← hY]; exact Blk.new w _ _
    have bW : Below w.heap.size w Y := by rw [← hY]; exact (Below.refl _ w).al _
    have x4 := BX.cell 4 (v := .slice xA xs.length xd) rfl
    obtain ⟨hz1, hz2⟩ := hz
    clear hne
    go_enter Tryd.func15, Tryd.ntmps15
    go_wp2_with fail
    go_ret
    exact ⟨by rw [R.out]; rfl, bW⟩
  · obtain ⟨b1, o1, hA1, hb1, p1⟩ := hx.first hne
    have HNE := Lib.hid hne
    obtain ⟨hz1, hz2⟩ := ss_pos hne
    have HEB := Lib.hid (fun (y : Trp) => show earB x y = (eqS y.vh x.vh && decide (y.ss ≠ []) && decide (monN (begT y) = monN (begT x)) && preB y x) from rfl)
    have HTK := Lib.hid (fun (k : Nat) (y : Trp) (hy : l[k]? = some y) => earN_tk (x := x) hy)
    have HPR := Lib.hid (fun (y : Trp) (W : World) (h1 : TrOk W y) (h2 : TrOk W x) (h3 : y.ss ≠ []) => prec_any y x h1 h2 h3 HNE.out)
    have HCM := Lib.hid (fun (t : Int) (W : World) (hW : Mon W) => month_any t hW)
    have HCL : Hid (rn = if monN (begT x) < 0 then 0 else (l.filter (earB x)).length) := Lib.hid (by rw [HN.out]; simp [HNE.out])
    have HFL := Lib.hid (fun (k : Nat) => show ((l.take k).filter (earB x)).length ≤ 1000 by
      have := List.length_filter_le (earB x) (l.take k)
      rw [List.length_take] at this; omega)
    have HFA : Hid (l.take l.length = l) := Lib.hid List.take_length
    have HF0 : Hid (((l.take 0).filter (earB x)).length = 0) := Lib.hid (by simp)
    generalize hcnt : (fun k => ((l.take k).filter (earB x)).length) = cnt
    have HCN := Lib.hid (fun k => congrFun hcnt k)
    clear hcnt HN hne
    simp only [HV.out] at HPR
    obtain ⟨xi, xv, xy, xc, xA, xd, xs⟩ := x
    simp only at *
    obtain ⟨bx, hbx⟩ : ∃ t, begT (⟨xi, xv, xy, xc, xA, xd, xs⟩ : Trp) = t := ⟨_, rfl⟩
    rw [hbx] at p1 HCL
    simp only [hbx] at HEB
    subst hA1
    obtain ⟨xA, hxA⟩ : ∃ q, q = (some ⟨b1, o1, none⟩ : Option Addr) := ⟨_, rfl⟩
    obtain ⟨Y, hY⟩ : ∃ Y, w.alloc (.cells #[.string xi, .string xv, .string xy, .int .i64 xc, .slice (some ⟨b1, o1, none⟩) xs.length xd] 28) = Y := ⟨_, rfl⟩
    have BX : Blk Y w.heap.size #[.string xi, .string xv, .string xy, .int .i64 xc, .slice (some ⟨b1, o1, none⟩) xs.length xd] 28 := by rw [← hY]; exact Blk.new w _ _
    have bW : Below w.heap.size w Y := by rw [← hY]; exact (Below.refl _ w).al _
    have s1 : Y.heap.size = w.heap.size + 1 := by rw [← hY]; simp
    have x4 := BX.cell 4 (v := .slice (some ⟨b1, o1, none⟩) xs.length xd) rfl
    have P1 := (bW.cell (p := ⟨b1, o1 + 1, none⟩) hb1).trans p1
    have CM := Lib.hid (HCM.out bx Y (HM.out.st bW HM.out.1))
    have HBX := Lib.hid BX
    have HbW := Lib.hid bW
    generalize monN bx = mx at *
    clear hxA xA hbx BX bW
    go_enter Tryd.func15, Tryd.ntmps15
    go_wp2_with fail
    refine CM.out.mono ?_
    rintro e w' ⟨rfl, hw'⟩
    rw [hw']
    clear hw' w' CM
    by_cases hmx : mx < 0
    · have R := Lib.hid (HCL.out.trans (if_pos hmx))
      go_wp2_with fail
      go_ret
      exact ⟨by rw [R.out]; rfl, HbW.out⟩
    · have R := Lib.hid (HCL.out.trans (if_neg hmx))
      clear HCL hY x4 P1
      go_wp2_with fail
      go_loopw [6, 23] (fun v i wr => ∃ k : Nat, k ≤ l.length ∧ i = .int .i64 k ∧ v = .int .i64 (cnt k) ∧ Below (w.heap.size + 1) Y wr) (fun _ i _ => l.length - (RowKit.intOf i).toNat)
      case atStart => exact ⟨0, Nat.zero_le _, rfl, by rw [← HCN.out 0, HF0.out]; rfl, by rw [← s1]; exact Below.refl _ _⟩
      case round =>
        obtain ⟨k, hk, rfl, rfl, bY⟩ := hrel
        have hc0 : cnt k ≤ 1000 := by rw [← HCN.out k]; exact HFL.out k
        by_cases hi : k < l.length
        · have bW : Below w.heap.size w wr := HbW.out.trans (bY.mono (by omega))
          obtain ⟨b, off, y, rfl, hb, hy, d0, d1, d2, d3, d4⟩ := (H.out.st bW).tp hi
          have HK := Lib.hid hi
          have hym := List.mem_of_getElem? hy
          have HOY := Lib.hid (fun (X : World) (hX : Below w.heap.size w X) => (HO.out.st hX) y hym)
          have HPY := Lib.hid (fun (X : World) (hX : Below w.heap.size w X) (h : y.ss ≠ []) => HPR.out y X ((HO.out.st hX) y hym) (HX.out.st hX) h)
          have HE := Lib.hid (HEB.out y)
          have HCT := Lib.hid ((HTK.out k y hy))
          rw [HE.out] at HCT
          have HCT : Hid (cnt (k + 1) = cnt k + if (eqS y.vh xv && decide (y.ss ≠ []) && decide (monN (begT y) = mx) && preB y ⟨xi, xv, xy, xc, some ⟨b1, o1, none⟩, xd, xs⟩) = true then 1 else 0) := Lib.hid (by rw [← HCN.out (k + 1), ← HCN.out k]; exact HCT.out)
          have HZ0 := Lib.hid (fun (h : y.ss = []) => ss_zero h)
          have HZ1 := Lib.hid (fun (h : y.ss ≠ []) => ss_pos h)
          have HFI := Lib.hid (fun (X : World) (hX : Below w.heap.size w X) (h : y.ss ≠ []) => (((HO.out.st hX) y hym)).first h)
          generalize preB y ⟨xi, xv, xy, xc, some ⟨b1, o1, none⟩, xd, xs⟩ = pb at *
          obtain ⟨by1, hby⟩ : ∃ t, begT y = t := ⟨_, rfl⟩
          rw [hby] at HCT HFI
          have CMY := Lib.hid (fun (W : World) (hW : Mon W) => HCM.out by1 W hW)
          generalize monN by1 = my at *
          clear hby HE HOY hym hy hi
          obtain ⟨yi, yv, yy, yc, yA, yd, ys⟩ := y
          simp only [TrV] at *
          have hsz : w.heap.size + 1 ≤ wr.heap.size := by have := bY.size; omega
          obtain ⟨Y2, hY2⟩ : ∃ Y, wr.alloc (.cells #[.string yi, .string yv, .string yy, .int .i64 yc, .slice yA ys.length yd] 28) = Y := ⟨_, rfl⟩
          have BY : Blk Y2 wr.heap.size #[.string yi, .string yv, .string yy, .int .i64 yc, .slice yA ys.length yd] 28 := by rw [← hY2]; exact Blk.new wr _ _
          have b2 : Below wr.heap.size wr Y2 := by rw [← hY2]; exact (Below.refl _ wr).al _
          have bY2 := bY.trans (b2.mono hsz)
          have bW2 := bW.st b2
          have BX := HBX.out.below bY2 (by omega)
          have x0 := BX.cell 0 (v := .string xi) rfl
          have x1 := BX.cell 1 (v := .string xv) rfl
          have x2 := BX.cell 2 (v := .string xy) rfl
          have x3 := BX.cell 3 (v := .int .i64 xc) rfl
          have x4 := BX.cell 4 (v := .slice (some ⟨b1, o1, none⟩) xs.length xd) rfl
          have y0 := BY.cell 0 (v := .string yi) rfl
          have y1 := BY.cell 1 (v := .string yv) rfl
          have y2 := BY.cell 2 (v := .string yy) rfl
          have y3 := BY.cell 3 (v := .int .i64 yc) rfl
          have y4 := BY.cell 4 (v := .slice yA ys.length yd) rfl
          clear b2 bY bW
          cases he : eqS yv xv
          · have R : Hid (cnt (k + 1) = cnt k) := Lib.hid (by rw [HCT.out, he]; simp)
            have he2 : (yv.toList == xv.toList) = false := he
            clear HCT he
            go_wp2_with fail
            go_roundw
            case rel => exact ⟨k + 1, HK.out, by go_num, by rw [R.out], bY2⟩
            case measure => have := HK.out; simp [RowKit.intOf]; omega
          · have he2 : (yv.toList == xv.toList) = true := he
            by_cases hys : ys = []
            · have R : Hid (cnt (k + 1) = cnt k) := Lib.hid (by rw [HCT.out, decide_eq_false (by simpa using hys)]; simp)
              obtain ⟨z1, z2⟩ := HZ0.out hys
              clear HCT he hys
              go_wp2_with fail
              go_roundw
              case rel => exact ⟨k + 1, HK.out, by go_num, by rw [R.out], bY2⟩
              case measure => have := HK.out; simp [RowKit.intOf]; omega
            · obtain ⟨z1, z2⟩ := HZ1.out hys
              obtain ⟨b2, o2, hA2, hb2, p2⟩ := HFI.out Y2 bW2 hys
              have HYS := Lib.hid hys
              subst hA2
              have CM2 := Lib.hid (CMY.out Y2 (HM.out.st bW2 HM.out.1))
              clear hys hb2
              by_cases hmm : my = mx
              · have hmd : (my == mx) = true := by simp [hmm]
                have CP := Lib.hid (HPY.out Y2 bW2 HYS.out)
                cases pb
                · have R : Hid (cnt (k + 1) = cnt k) := Lib.hid (by rw [HCT.out]; simp)
                  clear HCT he hmm
                  go_wp2_with (first | (go_at_call 12; with_reducible refine (CM2.out).mono ?_; rintro e w' ⟨rfl, hw'⟩; rw [hw']; clear hw' w'))
                  refine CP.out.mono ?_
                  rintro e w5 ⟨rfl, hbn⟩
                  have bY5 := bY2.trans (hbn.mono (by have := bY2.size; omega))
                  clear hbn CP
                  go_wp2_with fail
                  go_roundw
                  case rel => exact ⟨k + 1, HK.out, by go_num, by rw [R.out], bY5⟩
                  case measure => have := HK.out; simp [RowKit.intOf]; omega
                · have R : Hid (cnt (k + 1) = cnt k + 1) := Lib.hid (by rw [HCT.out, he, decide_eq_true (by simpa using HYS.out), decide_eq_true hmm]; rfl)
                  clear HCT he hmm
                  go_wp2_with (first | (go_at_call 12; with_reducible refine (CM2.out).mono ?_; rintro e w' ⟨rfl, hw'⟩; rw [hw']; clear hw' w'))
                  refine CP.out.mono ?_
                  rintro e w5 ⟨rfl, hbn⟩
                  have bY5 := bY2.trans (hbn.mono (by have := bY2.size; omega))
                  clear hbn CP
                  go_wp2_with fail
                  go_roundw
                  case rel => exact ⟨k + 1, HK.out, by go_num, by rw [R.out]; go_num, bY5⟩
                  case measure => have := HK.out; simp [RowKit.intOf]; omega
              · have hmd : (my == mx) = false := by simp [hmm]
                have R : Hid (cnt (k + 1) = cnt k) := Lib.hid (by rw [HCT.out, decide_eq_false hmm]; simp)
                clear HCT he hmm
                go_wp2_with (first | (go_at_call 12; with_reducible refine (CM2.out).mono ?_; rintro e w' ⟨rfl, hw'⟩; rw [hw']; clear hw' w'))
                go_roundw
                case rel => exact ⟨k + 1, HK.out, by go_num, by rw [R.out], bY2⟩
                case measure => have := HK.out; simp [RowKit.intOf]; omega
        · obtain rfl : k = l.length := by omega
          have R2 := Lib.hid (show rn = cnt l.length by rw [R.out, ← HCN.out l.length]; simp only [HFA.out])
          go_wp2_with fail
          go_ret
          exact ⟨by rw [R2.out]; rfl, HbW.out.trans (bY.mono (by omega))⟩
end Go.Proofs.YtlnnbkpcnhlfcaaDoor
/- Arguments opened: from the row's reading to lists (Rd). -/
namespace Go.Proofs.YtlnnbkpcnhlfcaaDoor
open Go.ChangeShapes Go.WideShapes Go.ChangeAt Go.RowKit Go.Lib Go.Deep

section
variable {H : Type} {encH : TypeId × Value → H} {P : Program} {w : World} {base : Nat} {spare : Nat → Bool} {held : Bool} {α : Type} {enc : α → List Value} {k t e : Nat}

theorem cell_lt {a : Addr} {v : Value} (h : w.cell? a = some v) : a.block < w.heap.size := by
  rcases Nat.lt_or_ge a.block w.heap.size with hlt | hge
  · exact hlt
  · unfold World.cell? at h
    rw [Array.getElem?_eq_none hge] at h
    cases h
theorem add_lit' (a : Addr) (i : Nat) (ha : a.spot = none) : a.add i = ⟨a.block, a.off + i, none⟩ := by
  obtain ⟨b, off, spot⟩ := a
  simp only at ha
  subst ha
  unfold Addr.add
  split <;> simp_all
theorem add_add' (a : Addr) (i j : Nat) : (a.add i).add j = a.add (i + j) := by
  unfold Addr.add
  by_cases hi : i = 0 <;> by_cases hj : j = 0 <;> simp [hi, hj, Nat.add_assoc]

/-- how the cells of one element are opened: they are the code of some x with OK x -/
def Opens (encH : TypeId × Value → H) (P : Program) (w : World) (base : Nat) (spare : Nat → Bool) (held : Bool) (e : Nat) (enc : α → List Value) (OK : α → Prop) : Prop :=
  ∀ (fuel : Nat) (cs : List Value) (x : DataW H × List MemPlace), DataW.trod encH P w base spare held fuel e cs = some x → ∃ a : α, cs = enc a ∧ OK a

theorem open_list {OK : α → Prop} (ht : P.underlying t = some (.slice e)) (hC : P.cellsOf e = k) (hk0 : 0 < k) (hE : ∀ x, (enc x).length = k) (ho : Opens encH P w base spare held e enc OK)
    {fuel : Nat} {cs : List Value} {x : DataW H × List MemPlace} (h : DataW.trod encH P w base spare held fuel t cs = some x) :
    ∃ (A : Option Addr) (cap : Nat) (l : List α), cs = [.slice A l.length cap] ∧ l.length ≤ cap ∧ cap ≤ maxLen ∧ Rd enc k w w.heap.size A l ∧ ∀ a ∈ l, OK a := by
  rcases open_slice ht h with ⟨rfl, _⟩ | ⟨a, len, cap, m, n, D, Pl, rfl, _, hlc, hcm, hmm, _, hi⟩
  · exact ⟨none, 0, [], rfl, Nat.le_refl _, Nat.zero_le _, Rd.nil, by simp⟩
  · have hlm : len ≤ m := by rw [hmm]; split <;> omega
    have hel : ∀ i, i < len → ∃ y : α, OK y ∧ ∀ j u, (enc y)[j]? = some u → w.cell? (a.add (i * k + j)) = some u := by
      intro i hil
      obtain ⟨cs', hc, ht'⟩ := hi i (by omega)
      obtain ⟨y, hy, hok⟩ := ho _ _ _ ht'
      obtain ⟨_, hcl, hat⟩ := World.cells?_some hc
      refine ⟨y, hok, fun j u hu => ?_⟩
      have hj : j < k := by have := (List.getElem?_eq_some_iff.1 hu).1; rwa [hE] at this
      have := hat j (by rw [hC]; exact hj)
      rw [add_add', hC] at this
      rw [this, hy]
      exact hu
    obtain ⟨f, hf⟩ : ∃ f : (i : Nat) → i < len → α, ∀ i hi, OK (f i hi) ∧ ∀ j u, (enc (f i hi))[j]? = some u → w.cell? (a.add (i * k + j)) = some u :=
      ⟨fun i hi => (hel i hi).choose, fun i hi => (hel i hi).choose_spec⟩
    let l : List α := (List.finRange len).map fun i => f i.1 i.2
    have hl : l.length = len := by simp [l]
    refine ⟨some a, cap, l, by rw [hl], by rw [hl]; exact hlc, hcm, ?_, ?_⟩
    · intro hne
      have h0 : 0 < len := by
        rcases Nat.eq_zero_or_pos len with h0 | h0
        · exact absurd (List.eq_nil_of_length_eq_zero (by rw [hl]; exact h0)) hne
        · exact h0
      have hc0 : ∃ u, w.cell? (a.add 0) = some u := by
        have hl0 : 0 < (enc (f 0 h0)).length := by rw [hE]; exact hk0
        exact ⟨_, by simpa using (hf 0 h0).2 0 _ (List.getElem?_eq_getElem hl0)⟩
      obtain ⟨u0, hu0⟩ := hc0
      rw [show a.add 0 = a by simp [Addr.add]] at hu0
      have hsp := World.cell?_spot hu0
      have hb := cell_lt hu0
      refine ⟨a.block, a.off, by obtain ⟨b, o, s⟩ := a; simp only at hsp; subst hsp; rfl, hb, fun i x hx j u hu => ?_⟩
      have hil : i < len := by have := (List.getElem?_eq_some_iff.1 hx).1; rwa [hl] at this
      have hxe : x = f i hil := by
        have := (List.getElem?_eq_some_iff.1 hx).2
        rw [← this]
        simp [l]
      subst hxe
      have := (hf i hil).2 j u hu
      rw [add_lit' a _ hsp, ← Nat.add_assoc] at this
      exact this
    · intro y hy
      simp only [l, List.mem_map] at hy
      obtain ⟨i, _, rfl⟩ := hy
      exact (hf i.1 i.2).1

/-- a struct's cells, part by part -/
theorem pieces (cs : List Value) (o s o' : Nat) (h : o' = o + s) : cs.drop o = (cs.drop o).take s ++ cs.drop o' := by
  subst h
  rw [← List.drop_drop, List.take_append_drop]
end
end Go.Proofs.YtlnnbkpcnhlfcaaDoor
