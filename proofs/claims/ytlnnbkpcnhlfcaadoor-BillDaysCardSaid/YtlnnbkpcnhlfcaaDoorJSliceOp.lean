/- Joined texts: SliceOp, BillRDays. -/
import Derived.Test.YtlnnbkpcnhlfcaaDoorJInts
import Derived.Laws.Slices
import Derived.Test.YtlnnbkpcnhlfcaaDoorJMSortOwn
import Derived.Test.YtlnnbkpcnhlfcaaDoorJMoneyLeaf
/- Slicing a slice: x[:j], x[j:], as operations. -/
namespace Go.Proofs.YtlnnbkpcnhlfcaaDoor
open Go.RowKit Go.Lib
section
variable {α : Type} {enc : α → List Value} {k : Nat} {A : Option Addr} {l : List α} {P : Program} {t e bytes : Nat} {w : World}
theorem TyS.size (T : TyS P t e k bytes) (w : World) : (Go.sizeOf e).run P w = .ok k w := by
  obtain ⟨i, z, hi, hz, hsz, hby, hzs⟩ := T.info
  simp [Go.sizeOf, typeInfo, hi, hsz]
theorem Rd.drop {B : Nat} (h : Rd enc k w B A l) (j c : Nat) (hj : j ≤ l.length) (hc : l.length ≤ c) : Rd enc k w B (if c = j then A else A.map (·.add (j * k))) (l.drop j) := by
  intro hne
  have hlt : j < l.length := by
    rcases Nat.lt_or_ge j l.length with q | q
    · exact q
    · exact absurd (List.drop_eq_nil_of_le q) hne
  obtain ⟨b, off, hA, hb, hcell⟩ := h (fun q => by rw [q] at hlt; cases hlt)
  rw [if_neg (by omega), hA]
  refine ⟨b, off + j * k, by simp [Addr.add], hb, fun i x hi m u hu => ?_⟩
  rw [List.getElem?_drop] at hi
  have := hcell (j + i) x hi m u hu
  rw [show off + (j + i) * k + m = off + j * k + i * k + m by rw [Nat.add_mul]; omega] at this
  exact this
theorem wpList_sliceTo {ops : Array Oper} {rest : List Oper} {o : Oper} {a : Act} {Q : Exit → Act → World → Prop} (hgd : o.guard = none) (x y : Operand) (T : TyS P t e k bytes)
    (ho : o.op = .slice t x none (some y) none) {n c j : Nat} (hx : a.eval x = .slice A n c) (hy : a.eval y = .int .i64 j) (hj : j ≤ c)
    (h : wpList P ops Q rest (a.put o.dst (.slice A j c)) w) : wpList P ops Q (o :: rest) a w := by
  refine wpList_plain hgd fun K hK => ?_
  have hT : P.underlying t = some (.slice (P.elem t)) := by unfold Program.elem; rw [T.under]
  have hE : P.elem t = e := by unfold Program.elem; rw [T.under]
  have hr : (Instr.sliceAt t (.slice A n c) none (some (.int .i64 j)) none).run P w = .ok (.slice A j c) w := by
    rw [run_sliceAt_slice w t _ _ _ _ hT, run_slice_h w t A n c hT .i64 j (by omega) (by omega), hE, T.size]
    simp only [Result.andThen, sliced, Int.toNat_natCast, Nat.zero_mul, Nat.sub_zero]
    congr 2
    split
    · rfl
    · cases A with
      | none => rfl
      | some q => simp [Addr.add]
  unfold Oper.wp
  simp [execOp, ho, hx, hy, hr, Result.andThen]
  exact hK _ _ h
theorem wpList_sliceFrom {ops : Array Oper} {rest : List Oper} {o : Oper} {a : Act} {Q : Exit → Act → World → Prop} (hgd : o.guard = none) (x y : Operand) (T : TyS P t e k bytes)
    (ho : o.op = .slice t x (some y) none none) {n m c j B : Nat} (hx : a.eval x = .slice A n c) (hy : a.eval y = .int .i64 j) (hm : m = n - j) (hn : n = l.length) (hj : j ≤ l.length) (hc : l.length ≤ c) (hr : Rd enc k w B A l)
    (h : ∀ A2, Rd enc k w B A2 (l.drop j) → wpList P ops Q rest (a.put o.dst (.slice A2 m (c - j))) w) : wpList P ops Q (o :: rest) a w := by
  subst hm
  refine wpList_plain hgd fun K hK => ?_
  have hT : P.underlying t = some (.slice (P.elem t)) := by unfold Program.elem; rw [T.under]
  have hE : P.elem t = e := by unfold Program.elem; rw [T.under]
  have hrun : (Instr.sliceAt t (.slice A n c) (some (.int .i64 j)) none none).run P w = .ok (.slice (if c = j then A else A.map (·.add (j * k))) (n - j) (c - j)) w := by
    rw [run_sliceAt_slice w t _ _ _ _ hT, run_slice_l w t A n c hT .i64 j (by omega) (by omega), hE, T.size]
    simp only [Result.andThen, sliced, Int.toNat_natCast]
  unfold Oper.wp
  simp [execOp, ho, hx, hy, hrun, Result.andThen]
  exact hK _ _ (h _ (hr.drop j c hj hc))
end
end Go.Proofs.YtlnnbkpcnhlfcaaDoor
/- The reference's Days, walked. -/
set_option linter.unusedSimpArgs false
namespace Go.Proofs.YtlnnbkpcnhlfcaaDoor
open Go.RowKit Go.Lib Go.Sort Go.Shelf

theorem asc_drop {l : List Int} (h : l.Pairwise (· < ·)) {a : Nat} {z d : Int} (hz : l[a]? = some z) (hd : d < z) : ∀ x ∈ l.drop a, d < x := by
  intro x hx
  obtain ⟨j, hj⟩ := List.mem_iff_getElem?.1 hx
  rw [List.getElem?_drop] at hj
  by_cases q : j = 0
  · subst q; rw [Nat.add_zero, hz] at hj; rw [← Option.some.inj hj]; exact hd
  · obtain ⟨h1, e1⟩ := List.getElem?_eq_some_iff.1 hz
    obtain ⟨h2, e2⟩ := List.getElem?_eq_some_iff.1 hj
    have := (List.pairwise_iff_getElem.1 h) a (a + j) h1 h2 (by omega)
    rw [e1, e2] at this; omega
theorem ins_get {l : List Int} {a : Nat} (h : a ≤ l.length) : (l.take a ++ [(0 : Int)] ++ l.drop a)[a]? = some 0 := by
  rw [List.append_assoc, List.getElem?_append_right (by simp; omega)]
  simp [Nat.min_eq_left h]
theorem ins_set {l : List Int} {a : Nat} (h : a ≤ l.length) {x : Int} : (l.take a ++ [(0 : Int)] ++ l.drop a).set a x = l.take a ++ x :: l.drop a := by
  rw [List.append_assoc, List.set_append_right _ _ (by simp; omega)]
  simp [Nat.min_eq_left h]
theorem ins_app {l : List Int} {a : Nat} {x : Int} : l.take a ++ [x] ++ l.drop a = l.take a ++ x :: l.drop a := by simp
set_option maxRecDepth 100000 in
set_option maxHeartbeats 2000000 in
theorem rdays_any {A : Option Addr} (c : Nat) {l : List Cg} {w : World} (hr : Rd encCg 7 w w.heap.size A l) (hll : l.length ≤ 1000) :
    Calls Tryd.prog 27 #[.slice A l.length c] w fun e w' => DaysX (cvs l) w w' e := by
  have H := Lib.hid hr
  clear hr
  go_enter Tryd.func27, Tryd.ntmps27
  go_wp2_with fail
  go_loopw [4, 5, 6] (fun d s i wr => ∃ (k : Nat) (ds ss : List Int) (A1 : Option Addr) (c1 : Nat) (A2 : Option Addr) (c2 : Nat), k ≤ l.length ∧ i = .int .i64 k ∧ d = .slice A1 ds.length c1 ∧ s = .slice A2 ss.length c2 ∧ Hid (DaysR (itemL ((cvs l).take k)) ds ss) ∧ Hid (Ap A1 A2) ∧ Hid (ds.length ≤ k ∧ ss.length = ds.length) ∧ Own 3 encI 1 wr w.heap.size A1 c1 ds ∧ Own 3 encI 1 wr w.heap.size A2 c2 ss ∧ Below w.heap.size w wr) (fun _ _ i _ => l.length - (RowKit.intOf i).toNat)
  case atStart => exact ⟨0, [], [], none, 0, none, 0, Nat.zero_le _, rfl, rfl, rfl, Lib.hid (by simpa [itemL] using DaysR.nil), Lib.hid (fun g h => by cases h), Lib.hid ⟨Nat.le_refl _, rfl⟩, Own.nil _ _, Own.nil _ _, Below.refl _ _⟩
  case round =>
    obtain ⟨k, ds, ss, A1, c1, A2, c2, hk, rfl, rfl, rfl, HD, HAP, HL, hown1, hown2, bR⟩ := hrel
    by_cases hi : k < l.length
    · obtain ⟨b, off, x, rfl, hb, hx, -, -, -, -, d4, -, d6⟩ := H.out.cg hi
      have HF6 := Lib.hid (fun (X : World) (hX : Below w.heap.size w X) => (hX.cell (p := ⟨b, off + k * 7 + 6, none⟩) hb).trans d6)
      have d4 := (bR.cell (p := ⟨b, off + k * 7 + 4, none⟩) hb).trans d4
      have d6 := HF6.out wr bR
      have HK := Lib.hid hi
      have i1 : (0 : Int) ≤ (k : Int) := by omega
      have i2 : (k : Int) < (l.length : Int) := by omega
      have HT := Lib.hid (show itemL ((cvs l).take (k + 1)) = itemL ((cvs l).take k) ++ (if dayB x.c = true then [(dayN x.c.tm, x.c.ct)] else []) by rw [take_snoc (cvs_at hx), itemL_snoc])
      obtain ⟨⟨key, veh, sys, cls, tm, lns, cn⟩, lA, lc⟩ := x
      simp only at *
      have HDB : Hid (dayB (⟨key, veh, sys, cls, tm, lns, cn⟩ : CV) = (decide (0 ≤ dayN tm) && fitsB cn)) := Lib.hid rfl
      have CD := Lib.hid (fun W => rday_any tm W)
      have CF := Lib.hid (fun W => r3fits_any cn W)
      have hdn := Lib.hid (dayN_bnd tm)
      generalize dayN tm = dy at *
      clear hx hb
      by_cases q1 : 0 ≤ dy
      · have q1d : decide (dy < 0) = false := decide_eq_false (by omega)
        cases q2 : fitsB cn
        · have R : Hid (DaysR (itemL ((cvs l).take (k + 1))) ds ss) := Lib.hid (by rw [HT.out, HDB.out, q2]; simpa using HD.out)
          rw [q2] at CF
          clear HT HDB q2 HD
          go_wp2_with (first | (go_at_call 36; with_reducible refine (CD.out _).mono ?_; rintro e w' ⟨rfl, hw'⟩; rw [hw']; clear hw' w') | (go_at_call 52; with_reducible refine (CF.out _).mono ?_; rintro e w' ⟨rfl, hw'⟩; rw [hw']; clear hw' w'))
          go_roundw
          case rel => exact ⟨k + 1, ds, ss, A1, c1, A2, c2, HK.out, by go_num, rfl, rfl, R, HAP, Lib.hid (by have := HL.out; omega), hown1, hown2, bR⟩
          case measure => have := HK.out; simp [RowKit.intOf]; omega
        · obtain ⟨hc1, hc2⟩ := fitsB_bnd q2
          have HTT : Hid (itemL ((cvs l).take (k + 1)) = itemL ((cvs l).take k) ++ [(dy, cn)]) := Lib.hid (by rw [HT.out, HDB.out, q2, decide_eq_true q1]; rfl)
          rw [q2] at CF
          clear HT HDB q2
          go_wp2_with (first | (go_at_call 36; with_reducible refine (CD.out _).mono ?_; rintro e w' ⟨rfl, hw'⟩; rw [hw']; clear hw' w') | (go_at_call 52; with_reducible refine (CF.out _).mono ?_; rintro e w' ⟨rfl, hw'⟩; rw [hw']; clear hw' w'))
          have hdl : ds.length ≤ 1000 := by have := HL.out.1; omega
          obtain ⟨wo, hwo⟩ : ∃ wo, wo = wr := ⟨_, rfl⟩
          subst hwo
          clear CD CF d4
          go_loopw [8] (fun v wi => ∃ a : Nat, v = .int .i64 a ∧ a ≤ ds.length ∧ Hid (∀ x ∈ ds.take a, x < dy) ∧ wi = wo) (fun v _ => ds.length - (RowKit.intOf v).toNat)
          case atStart => exact ⟨0, rfl, Nat.zero_le _, (by unfold Hid; simp), rfl⟩
          case round =>
            obtain ⟨a, rfl, ha, HA, hw⟩ := hrel
            subst hw
            have a0 : (0 : Int) ≤ (a : Int) := by omega
            by_cases hal : a < ds.length
            · have a1 : (a : Int) < (ds.length : Int) := by omega
              have hne : ((a : Int) == (ds.length : Int)) = false := by rw [beq_eq_false_iff_ne]; omega
              obtain ⟨z, hz⟩ : ∃ z, ds[a]? = some z := ⟨_, List.getElem?_eq_getElem hal⟩
              obtain ⟨g1, hg1, hgb1, hgl1⟩ := hown1.exB (by intro q; rw [q] at hal; simp at hal)
              subst hg1
              have cz := hown1.cells encI_ok rfl hz (j := 0) rfl
              simp only [Nat.mul_one, Nat.add_zero] at cz
              have HAL := Lib.hid hal
              have HZ := Lib.hid hz
              clear hz hal
              by_cases hzl : z < dy
              · have hzd : decide (z < dy) = true := decide_eq_true hzl
                have R : Hid (∀ x ∈ ds.take (a + 1), x < dy) := Lib.hid (fun x hx => by
                  rw [take_snoc HZ.out] at hx
                  rcases List.mem_append.1 hx with q | q
                  · exact HA.out x q
                  · rw [List.mem_singleton] at q; subst q; exact hzl)
                go_wp2_with fail
                go_roundw
                case rel => exact ⟨a + 1, by go_num, HAL.out, R, trivial⟩
                case measure => have := HAL.out; simp [RowKit.intOf]; omega
              · have hzd : decide (z < dy) = false := decide_eq_false hzl
                by_cases hze : z = dy
                · subst hze
                  obtain ⟨sv, hsv⟩ : ∃ sv, ss[a]? = some sv := ⟨_, List.getElem?_eq_getElem (by have := HL.out.2; have := HAL.out; omega)⟩
                  have HSS := Lib.hid (HD.out.add HZ.out hsv cn)
                  rw [← HTT.out] at HSS
                  have hbd := totD_bnd (it := itemL ((cvs l).take k)) (fun p hp => itemL_fits p hp) z
                  rw [← HD.out.sum a z sv HZ.out hsv] at hbd
                  have hil := itemL_len ((cvs l).take k)
                  rw [List.length_take] at hil
                  have hbd1 : -1125899906842624000 ≤ sv := by omega
                  have hbd2 : sv ≤ 1125899906842624000 := by omega
                  obtain ⟨g2, hg2, hgb2, hgl2⟩ := hown2.exB (by intro q; rw [q] at hsv; simp at hsv)
                  subst hg2
                  have cs := hown2.cells encI_ok rfl hsv (j := 0) rfl
                  have fs := hown2.frozen rfl a
                  have hst := hown2.stored encI_ok rfl hsv (j := 0) (u := .int .i64 (sv + cn)) (y := sv + cn) (by omega) rfl
                  simp only [Nat.mul_one, Nat.add_zero] at cs hst
                  have HST := Lib.hid hst
                  have HOE := Lib.hid (hown1.keepB (w' := wr.setCell ⟨g2, a, none⟩ (.int .i64 (sv + cn))) (fun g hg hl => Below.heap_setCell wr ⟨g2, a, none⟩ (.int .i64 (sv + cn)) g (fun e => HAP.out g hg (by rw [e]))))
                  have HBE := Lib.hid (bR.setCell (p := ⟨g2, a, none⟩) hgb2 (.int .i64 (sv + cn)))
                  have hadd2 : IntKind.i64.wrap (sv + cn) = sv + cn := IntWalk.i64_in _ (by omega)
                  rw [HL.out.2]
                  clear HD hsv hown1 hown2 hst hbd hil HTT
                  go_wp2_with fail
                  go_region
                  go_wp2_with fail
                  go_roundw
                  case rel => exact ⟨k + 1, ds, ss.set a (sv + cn), some ⟨g1, 0, none⟩, c1, some ⟨g2, 0, none⟩, c2, HK.out, by go_num, rfl, by simp [HL.out.2], HSS, HAP, Lib.hid (by have := HL.out; simp; omega), HOE.out.drew, HST.out.drew, below_drewN HBE.out 1⟩
                  case measure => have := HK.out; simp [RowKit.intOf]; omega
                · have hzd2 : (z == dy) = false := by simp [hze]
                  have hzd3 : (z != dy) = true := by simp [hze]
                  have HX : Hid (∀ x ∈ ds.drop a, dy < x) := Lib.hid (asc_drop HD.out.asc HZ.out (by omega))
                  clear hze
                  obtain ⟨m, hm⟩ : ∃ m, m = ds.length - a := ⟨_, rfl⟩; (have hsl : ss.length = ds.length := HL.out.2); (have HM : Hid (m = ds.length - a ∧ m = (ds.drop a).length ∧ m = (ss.drop a).length) := Lib.hid (by simp; omega)); (have HC1 := Lib.hid hown1.cap); (have HC2 : Hid (ss.length ≤ c2) := Lib.hid hown2.cap); (have HTA : Hid (a = (ds.take a).length ∧ a = (ds.take a).length) := Lib.hid (by simp; omega)); (have HTA2 : Hid (a = (ss.take a).length ∧ a = (ss.take a).length) := Lib.hid (by simp; omega)); (have HRD1 := Lib.hid ((hown1.rd encI_ok).take a)); (have HRD2 := Lib.hid ((hown2.rd encI_ok).take a)); (have HR1 := Lib.hid (hown1.rd encI_ok)); (have HR2 := Lib.hid (hown2.rd encI_ok)); (have HAS : Hid (a ≤ ss.length) := Lib.hid (by omega)); (have hsl2 : ss.length ≤ 1000 := by omega); rw [hsl]; clear hsl hm
                  go_wp2_with (first | (refine wpList_sliceTo rfl (.tmp 61) (.tmp 62) tyI rfl rfl rfl (Nat.le_trans ha HC1.out) ?_) | (at_builtin; refine wpList_appS rfl (.tmp 60) (.tmp 63) tyI encI_ok rfl wr.heap.size rfl (l := []) rfl (Own.nil _ _) (ds.take a) rfl HTA.out.1 HRD1.out (by simp; omega) (by simp; omega) (Nat.le_refl _) ?_; intro A3 c3 w3 hown3 hb3 hs3 hf3; have hown3 := (show Own 3 encI 1 w3 wr.heap.size A3 c3 (ds.take a) from hown3)) | (at_builtin; refine wpList_app1b rfl (.tmp 65) (.tmp 67) tyI encI_ok rfl dy rfl _ rfl HTA.out.2 hown3 rfl (by first | rfl | simp) (by simp; omega) (by simp; omega) hb3.size ?_; intro A4 c4 w4 hown4 hb4 hs4 hf4; have hb4 := hb3.trans hb4) | (refine wpList_sliceFrom rfl (.tmp 70) (.tmp 71) tyI rfl rfl rfl HM.out.1 rfl ha HC1.out (HR1.out.keep hb4) ?_; intro A5 hrd5) | (at_builtin; refine wpList_appS rfl (.tmp 69) (.tmp 72) tyI encI_ok rfl wr.heap.size rfl (by simp; omega) hown4 (ds.drop a) rfl HM.out.2.1 hrd5 (by simp; omega) (by simp; omega) hb4.size ?_; intro A6 c6 w6 hown6 hb6 hs6 hf6; have hb6 := hb4.trans hb6) | (refine wpList_sliceTo rfl (.tmp 75) (.tmp 76) tyI rfl rfl rfl (Nat.le_trans HAS.out HC2.out) ?_) | (at_builtin; refine wpList_appS rfl (.tmp 74) (.tmp 77) tyI encI_ok rfl w6.heap.size rfl (l := []) rfl (Own.nil _ _) (ss.take a) rfl HTA2.out.1 ((HRD2.out.keep hb6)) (by simp; omega) (by simp; omega) (Nat.le_refl _) ?_; intro A7 c7 w7 hown7 hb7 hs7 hf7; have hown7 := (show Own 3 encI 1 w7 w6.heap.size A7 c7 (ss.take a) from hown7)) | (at_builtin; refine wpList_app1b rfl (.tmp 79) (.tmp 80) tyI encI_ok rfl (0 : Int) rfl _ rfl HTA2.out.2 hown7 rfl (by first | rfl | simp) (by simp; omega) (by simp; omega) hb7.size ?_; intro A8 c8 w8 hown8 hb8 hs8 hf8; have hb8 := hb7.trans hb8) | (refine wpList_sliceFrom rfl (.tmp 83) (.tmp 84) tyI rfl rfl rfl HM.out.1 HL.out.2.symm HAS.out HC2.out ((HR2.out.keep hb6).keep (hb8.mono hb6.size)) ?_; intro A9 hrd9) | (at_builtin; refine wpList_appS rfl (.tmp 82) (.tmp 85) tyI encI_ok rfl w6.heap.size rfl (by have := HAS.out; have := HL.out.2; simp; omega) hown8 (ss.drop a) rfl HM.out.2.2 hrd9 (by have := HAS.out; have := HL.out.2; simp; omega) (by have := HAS.out; have := HL.out.2; simp; omega) hb8.size ?_; intro A10 c10 w10 hown10 hb10 hs10 hf10; have hb10 := hb8.trans hb10))
                  (have hownD := hown6.st hb10); (have hne10 : ss.take a ++ [(0 : Int)] ++ ss.drop a ≠ [] := by simp); obtain ⟨g10, hg10, hgb10, hgl10⟩ := hown10.exB hne10; subst hg10; (have hget := ins_get HAS.out); (have c0 := hown10.cells encI_ok rfl hget (j := 0) rfl); (have f0 := hown10.frozen rfl a); (have hst := hown10.stored encI_ok rfl hget (j := 0) (u := .int .i64 cn) (y := cn) (by omega) rfl); simp only [Nat.mul_one, Nat.add_zero] at c0 hst; rw [ins_set HAS.out] at hst; (have HST := Lib.hid (hst.mono (show w.heap.size ≤ w6.heap.size from Nat.le_trans bR.size hb6.size))); (have HOE := Lib.hid ((hownD.keepB (w' := w10.setCell ⟨g10, a, none⟩ (.int .i64 cn)) (fun g hg hl => Below.heap_setCell w10 ⟨g10, a, none⟩ (.int .i64 cn) g (Ne.symm (hown6.ne hgb10 g hg)))).mono bR.size)); rw [ins_app] at HOE; (have bR10 := (bR.st hb6).st hb10); (have d6 := HF6.out w10 bR10); (have HBE := Lib.hid (bR10.setCell (p := ⟨g10, a, none⟩) (Nat.le_trans (Nat.le_trans bR.size hb6.size) hgb10) (.int .i64 cn))); (have hadd : IntKind.i64.wrap (0 + cn) = cn := by rw [Int.zero_add]; exact IntWalk.i64_in _ (by omega)); (have HR := Lib.hid (HD.out.ins ha HA.out HX.out cn)); rw [← HTT.out] at HR; (have HAP2 : Hid (Ap A6 (some ⟨g10, 0, none⟩)) := Lib.hid (fun g h1 h2 => hown6.ne hgb10 g h1 (by injection h2 with h2; injection h2)));  (have HLN : Hid (a + 1 + m = (ds.take a ++ dy :: ds.drop a).length ∧ a + 1 + m = (ss.take a ++ cn :: ss.drop a).length) := Lib.hid (by have := HM.out; have := HAS.out; have := HL.out.2; simp; omega)); clear hown1 hown2 hown3 hown4 hown6 hown7 hown8 hown10 hst hownD hf3 hf4 hf6 hf7 hf8 hf10 hget hne10; go_wp2_with fail; go_region; go_wp2_with fail; go_roundw; (case rel => exact ⟨k + 1, _, _, A6, c6, some ⟨g10, 0, none⟩, c10, HK.out, by go_num, by rw [← HLN.out.1], by rw [← HLN.out.2], HR, HAP2, Lib.hid (by have := HL.out; simp; omega), HOE.out.drew, HST.out.drew, below_drewN HBE.out 1⟩); (case measure => have := HK.out; simp [RowKit.intOf]; omega)
            · have hne : ((a : Int) == (ds.length : Int)) = true := by rw [beq_iff_eq]; omega
              have HX : Hid (∀ x ∈ ds.drop a, dy < x) := Lib.hid (by rw [List.drop_eq_nil_of_le (by omega)]; simp)
              have hal2 : ¬ (a : Int) < (ds.length : Int) := by omega
              clear hal
              obtain ⟨m, hm⟩ : ∃ m, m = ds.length - a := ⟨_, rfl⟩; (have hsl : ss.length = ds.length := HL.out.2); (have HM : Hid (m = ds.length - a ∧ m = (ds.drop a).length ∧ m = (ss.drop a).length) := Lib.hid (by simp; omega)); (have HC1 := Lib.hid hown1.cap); (have HC2 : Hid (ss.length ≤ c2) := Lib.hid hown2.cap); (have HTA : Hid (a = (ds.take a).length ∧ a = (ds.take a).length) := Lib.hid (by simp; omega)); (have HTA2 : Hid (a = (ss.take a).length ∧ a = (ss.take a).length) := Lib.hid (by simp; omega)); (have HRD1 := Lib.hid ((hown1.rd encI_ok).take a)); (have HRD2 := Lib.hid ((hown2.rd encI_ok).take a)); (have HR1 := Lib.hid (hown1.rd encI_ok)); (have HR2 := Lib.hid (hown2.rd encI_ok)); (have HAS : Hid (a ≤ ss.length) := Lib.hid (by omega)); (have hsl2 : ss.length ≤ 1000 := by omega); rw [hsl]; clear hsl hm
              go_wp2_with (first | (refine wpList_sliceTo rfl (.tmp 61) (.tmp 62) tyI rfl rfl rfl (Nat.le_trans ha HC1.out) ?_) | (at_builtin; refine wpList_appS rfl (.tmp 60) (.tmp 63) tyI encI_ok rfl wr.heap.size rfl (l := []) rfl (Own.nil _ _) (ds.take a) rfl HTA.out.1 HRD1.out (by simp; omega) (by simp; omega) (Nat.le_refl _) ?_; intro A3 c3 w3 hown3 hb3 hs3 hf3; have hown3 := (show Own 3 encI 1 w3 wr.heap.size A3 c3 (ds.take a) from hown3)) | (at_builtin; refine wpList_app1b rfl (.tmp 65) (.tmp 67) tyI encI_ok rfl dy rfl _ rfl HTA.out.2 hown3 rfl (by first | rfl | simp) (by simp; omega) (by simp; omega) hb3.size ?_; intro A4 c4 w4 hown4 hb4 hs4 hf4; have hb4 := hb3.trans hb4) | (refine wpList_sliceFrom rfl (.tmp 70) (.tmp 71) tyI rfl rfl rfl HM.out.1 rfl ha HC1.out (HR1.out.keep hb4) ?_; intro A5 hrd5) | (at_builtin; refine wpList_appS rfl (.tmp 69) (.tmp 72) tyI encI_ok rfl wr.heap.size rfl (by simp; omega) hown4 (ds.drop a) rfl HM.out.2.1 hrd5 (by simp; omega) (by simp; omega) hb4.size ?_; intro A6 c6 w6 hown6 hb6 hs6 hf6; have hb6 := hb4.trans hb6) | (refine wpList_sliceTo rfl (.tmp 75) (.tmp 76) tyI rfl rfl rfl (Nat.le_trans HAS.out HC2.out) ?_) | (at_builtin; refine wpList_appS rfl (.tmp 74) (.tmp 77) tyI encI_ok rfl w6.heap.size rfl (l := []) rfl (Own.nil _ _) (ss.take a) rfl HTA2.out.1 ((HRD2.out.keep hb6)) (by simp; omega) (by simp; omega) (Nat.le_refl _) ?_; intro A7 c7 w7 hown7 hb7 hs7 hf7; have hown7 := (show Own 3 encI 1 w7 w6.heap.size A7 c7 (ss.take a) from hown7)) | (at_builtin; refine wpList_app1b rfl (.tmp 79) (.tmp 80) tyI encI_ok rfl (0 : Int) rfl _ rfl HTA2.out.2 hown7 rfl (by first | rfl | simp) (by simp; omega) (by simp; omega) hb7.size ?_; intro A8 c8 w8 hown8 hb8 hs8 hf8; have hb8 := hb7.trans hb8) | (refine wpList_sliceFrom rfl (.tmp 83) (.tmp 84) tyI rfl rfl rfl HM.out.1 HL.out.2.symm HAS.out HC2.out ((HR2.out.keep hb6).keep (hb8.mono hb6.size)) ?_; intro A9 hrd9) | (at_builtin; refine wpList_appS rfl (.tmp 82) (.tmp 85) tyI encI_ok rfl w6.heap.size rfl (by have := HAS.out; have := HL.out.2; simp; omega) hown8 (ss.drop a) rfl HM.out.2.2 hrd9 (by have := HAS.out; have := HL.out.2; simp; omega) (by have := HAS.out; have := HL.out.2; simp; omega) hb8.size ?_; intro A10 c10 w10 hown10 hb10 hs10 hf10; have hb10 := hb8.trans hb10))
              (have hownD := hown6.st hb10); (have hne10 : ss.take a ++ [(0 : Int)] ++ ss.drop a ≠ [] := by simp); obtain ⟨g10, hg10, hgb10, hgl10⟩ := hown10.exB hne10; subst hg10; (have hget := ins_get HAS.out); (have c0 := hown10.cells encI_ok rfl hget (j := 0) rfl); (have f0 := hown10.frozen rfl a); (have hst := hown10.stored encI_ok rfl hget (j := 0) (u := .int .i64 cn) (y := cn) (by omega) rfl); simp only [Nat.mul_one, Nat.add_zero] at c0 hst; rw [ins_set HAS.out] at hst; (have HST := Lib.hid (hst.mono (show w.heap.size ≤ w6.heap.size from Nat.le_trans bR.size hb6.size))); (have HOE := Lib.hid ((hownD.keepB (w' := w10.setCell ⟨g10, a, none⟩ (.int .i64 cn)) (fun g hg hl => Below.heap_setCell w10 ⟨g10, a, none⟩ (.int .i64 cn) g (Ne.symm (hown6.ne hgb10 g hg)))).mono bR.size)); rw [ins_app] at HOE; (have bR10 := (bR.st hb6).st hb10); (have d6 := HF6.out w10 bR10); (have HBE := Lib.hid (bR10.setCell (p := ⟨g10, a, none⟩) (Nat.le_trans (Nat.le_trans bR.size hb6.size) hgb10) (.int .i64 cn))); (have hadd : IntKind.i64.wrap (0 + cn) = cn := by rw [Int.zero_add]; exact IntWalk.i64_in _ (by omega)); (have HR := Lib.hid (HD.out.ins ha HA.out HX.out cn)); rw [← HTT.out] at HR; (have HAP2 : Hid (Ap A6 (some ⟨g10, 0, none⟩)) := Lib.hid (fun g h1 h2 => hown6.ne hgb10 g h1 (by injection h2 with h2; injection h2)));  (have HLN : Hid (a + 1 + m = (ds.take a ++ dy :: ds.drop a).length ∧ a + 1 + m = (ss.take a ++ cn :: ss.drop a).length) := Lib.hid (by have := HM.out; have := HAS.out; have := HL.out.2; simp; omega)); clear hown1 hown2 hown3 hown4 hown6 hown7 hown8 hown10 hst hownD hf3 hf4 hf6 hf7 hf8 hf10 hget hne10; go_wp2_with fail; go_region; go_wp2_with fail; go_roundw; (case rel => exact ⟨k + 1, _, _, A6, c6, some ⟨g10, 0, none⟩, c10, HK.out, by go_num, by rw [← HLN.out.1], by rw [← HLN.out.2], HR, HAP2, Lib.hid (by have := HL.out; simp; omega), HOE.out.drew, HST.out.drew, below_drewN HBE.out 1⟩); (case measure => have := HK.out; simp [RowKit.intOf]; omega)
      · have q1d : decide (dy < 0) = true := decide_eq_true (by omega)
        have R : Hid (DaysR (itemL ((cvs l).take (k + 1))) ds ss) := Lib.hid (by rw [HT.out, HDB.out, decide_eq_false q1]; simpa using HD.out)
        clear HT HDB HD
        go_wp2_with (first | (go_at_call 36; with_reducible refine (CD.out _).mono ?_; rintro e w' ⟨rfl, hw'⟩; rw [hw']; clear hw' w'))
        go_roundw
        case rel => exact ⟨k + 1, ds, ss, A1, c1, A2, c2, HK.out, by go_num, rfl, rfl, R, HAP, Lib.hid (by have := HL.out; omega), hown1, hown2, bR⟩
        case measure => have := HK.out; simp [RowKit.intOf]; omega
    · obtain rfl : k = l.length := by omega
      have R : Hid (DaysR (itemL (cvs l)) ds ss) := Lib.hid (by
        have := HD.out
        rwa [List.take_of_length_le (Nat.le_of_eq (cvs_len l))] at this)
      clear HD
      go_wp2_with fail
      go_ret2
      exact ⟨A1, c1, A2, c2, ds, ss, rfl, R.out, hown1, hown2, bR⟩
end Go.Proofs.YtlnnbkpcnhlfcaaDoor
