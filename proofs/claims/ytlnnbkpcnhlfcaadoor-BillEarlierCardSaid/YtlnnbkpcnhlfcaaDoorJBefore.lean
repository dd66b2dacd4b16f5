/- Joined texts: Before, BillREar. -/
import Derived.Test.YtlnnbkpcnhlfcaaDoorJStabList
import Derived.Test.YtlnnbkpcnhlfcaaDoorJInts
import Derived.Test.YtlnnbkpcnhlfcaaDoorProg
import Derived.Test.YtlnnbkpcnhlfcaaDoorJRelMath
import Derived.BigQuiet
import Derived.Outline
import Derived.Test.YtlnnbkpcnhlfcaaDoorJBillEar
/- The reference's order of strings, walked. -/
namespace Go.Proofs.YtlnnbkpcnhlfcaaDoor
open Go.RowKit Go.Lib

theorem lex_at : ∀ {a b : List UInt8} {k : Nat} {x y : UInt8}, a.take k = b.take k → a[k]? = some x → b[k]? = some y → x ≠ y → (a < b ↔ x < y)
  | [], _, k, x, y, _, h, _, _ => by simp at h
  | _ :: _, [], k, x, y, _, _, h, _ => by simp at h
  | p :: a, q :: b, 0, x, y, _, h1, h2, hne => by
    simp at h1 h2
    subst h1 h2
    rw [List.cons_lt_cons_iff]
    constructor
    · rintro (h | ⟨h, _⟩)
      · exact h
      · exact absurd h hne
    · exact Or.inl
  | p :: a, q :: b, k + 1, x, y, h, h1, h2, hne => by
    rw [List.take_succ_cons, List.take_succ_cons] at h
    injection h with e h
    subst e
    have ih := lex_at h (by simpa using h1) (by simpa using h2) hne
    rw [List.cons_lt_cons_iff, ← ih]
    simp [UInt8.lt_irrefl]
theorem lex_end : ∀ {a b : List UInt8} {k : Nat}, a.take k = b.take k → (k = a.length ∨ k = b.length) → k ≤ a.length → k ≤ b.length → (a < b ↔ a.length < b.length)
  | [], [], k, _, _, _, _ => by simp
  | [], q :: b, k, _, _, _, _ => by simp
  | p :: a, [], k, _, _, _, _ => by simp
  | p :: a, q :: b, 0, _, h, _, _ => by simp at h
  | p :: a, q :: b, k + 1, h, he, h1, h2 => by
    rw [List.take_succ_cons, List.take_succ_cons] at h
    injection h with e h
    subst e
    have ih := lex_end h (by simpa using he) (by simpa using h1) (by simpa using h2)
    rw [List.cons_lt_cons_iff, ih]
    simp [UInt8.lt_irrefl]
theorem ba_at {a : ByteArray} {k : Nat} (h : k < a.size) : a.toList[k]? = some (a[k]'h) := by
  rw [ByteArray.toList_eq]
  show a.data.toList[k]? = _
  rw [List.getElem?_eq_getElem (by simpa using h)]
  rfl
theorem ba_len (a : ByteArray) : a.toList.length = a.size := by rw [ByteArray.toList_eq]; rfl
set_option maxHeartbeats 2000000 in
theorem before_any (a b : ByteArray) (ha : a.size ≤ 1000000) (hb : b.size ≤ 1000000) (w : World) :
    Calls Tryd.prog 38 #[.string a, .string b] w fun e w' => e = .returned (.bool (sltB a b)) ∧ ∃ n, w' = w.drewN n := by
  have HL := Lib.hid (fun (k : Nat) (h : a.toList.take k = b.toList.take k) (h1 : k < a.size) (h2 : k < b.size) (hne : a[k]'h1 ≠ b[k]'h2) => show sltB a b = decide ((a[k]'h1).toNat < (b[k]'h2).toNat) by
    unfold sltB
    rw [Bool.eq_iff_iff, decide_eq_true_eq, decide_eq_true_eq, lex_at h (ba_at h1) (ba_at h2) hne]
    exact UInt8.lt_iff_toNat_lt)
  have HE := Lib.hid (fun (k : Nat) (h : a.toList.take k = b.toList.take k) (he : k = a.size ∨ k = b.size) (h1 : k ≤ a.size) (h2 : k ≤ b.size) => show sltB a b = decide (a.size < b.size) by
    unfold sltB
    rw [Bool.eq_iff_iff, decide_eq_true_eq, decide_eq_true_eq, lex_end h (by rw [ba_len, ba_len]; exact he) (by rw [ba_len]; exact h1) (by rw [ba_len]; exact h2), ba_len, ba_len])
  have HS := Lib.hid (fun (k : Nat) (h : a.toList.take k = b.toList.take k) (h1 : k < a.size) (h2 : k < b.size) (he : a[k]'h1 = b[k]'h2) => show a.toList.take (k + 1) = b.toList.take (k + 1) by
    rw [List.take_add_one, List.take_add_one, h, ba_at h1, ba_at h2, he])
  generalize sltB a b = s at *
  go_enter Tryd.func38, Tryd.ntmps38
  go_wp2_with fail
  go_loopw [5] (fun i wr => ∃ k n : Nat, i = .int .i64 k ∧ k ≤ a.size ∧ k ≤ b.size ∧ Hid (a.toList.take k = b.toList.take k) ∧ wr = w.drewN n) (fun i _ => a.size - (RowKit.intOf i).toNat)
  case atStart => exact ⟨0, 0, rfl, Nat.zero_le _, Nat.zero_le _, rfl, rfl⟩
  case round =>
    obtain ⟨k, n, rfl, hka, hkb, HT, rfl⟩ := hrel
    have k0 : (0 : Int) ≤ (k : Int) := by omega
    by_cases h1 : k < a.size
    · have k1 : (k : Int) < (a.size : Int) := by omega
      have hd1 : decide ((k : Int) < (a.size : Int)) = true := decide_eq_true k1
      by_cases h2 : k < b.size
      · have k2 : (k : Int) < (b.size : Int) := by omega
        have hd2 : decide ((k : Int) < (b.size : Int)) = true := decide_eq_true k2
        have HR := Lib.hid (HL.out k HT.out h1 h2)
        have HQ := Lib.hid (HS.out k HT.out h1 h2)
        have hcu : (a[k]'h1 = b[k]'h2) ↔ (a[k]'h1).toNat = (b[k]'h2).toNat := UInt8.toNat_inj.symm
        simp only [Ne, hcu] at HR HQ
        obtain ⟨x, hx⟩ : ∃ x : Nat, (a[k]'h1).toNat = x := ⟨_, rfl⟩
        obtain ⟨y, hy⟩ : ∃ y : Nat, (b[k]'h2).toNat = y := ⟨_, rfl⟩
        rw [hx, hy] at HR HQ
        clear hcu
        by_cases hxy : x = y
        · subst hxy
          have R := Lib.hid (HQ.out rfl)
          have hne : ((x : Int) != (x : Int)) = false := by simp
          have HK := Lib.hid h1
          clear HR HQ HL HE HS
          go_wp2_with fail
          go_quiet (fail)
          go_wp2_with fail
          go_roundw
          case rel => exact ⟨k + 1, _, by go_num, HK.out, by omega, R, rfl⟩
          case measure => have := HK.out; simp [RowKit.intOf]; omega
        · have R := Lib.hid (HR.out hxy)
          have hne : ((x : Int) != (y : Int)) = true := by simp; omega
          clear HR HQ HL HE HS
          go_wp2_with fail
          go_quiet (fail)
          go_wp2_with fail
          go_quiet (fail)
          go_wp2_with fail
          go_ret
          rw [R.out]
          exact ⟨by first | rfl | exact ret_bool (by rw [Bool.eq_iff_iff]; simp), by simp only [World.drewN_drewN]; exact ⟨_, rfl⟩⟩
      · have hd2 : decide ((k : Int) < (b.size : Int)) = false := decide_eq_false (by omega)
        have R := Lib.hid (HE.out k HT.out (.inr (by omega)) hka hkb)
        have n2 : ¬ (k : Int) < (b.size : Int) := by omega
        clear HL HE HS h2
        go_wp2_with fail
        go_ret
        rw [R.out]
        exact ⟨rfl, _, rfl⟩
    · have hd1 : decide ((k : Int) < (a.size : Int)) = false := decide_eq_false (by omega)
      have R := Lib.hid (HE.out k HT.out (.inl (by omega)) hka hkb)
      have n1 : ¬ (k : Int) < (a.size : Int) := by omega
      clear HL HE HS h1
      go_wp2_with fail
      go_ret
      rw [R.out]
      exact ⟨rfl, _, rfl⟩
end Go.Proofs.YtlnnbkpcnhlfcaaDoor
/- The reference's Earlier, walked. -/
set_option linter.unusedSimpArgs false
namespace Go.Proofs.YtlnnbkpcnhlfcaaDoor
open Go.RowKit Go.Lib

set_option maxRecDepth 100000 in
set_option maxHeartbeats 2000000 in
theorem rearlier_any {A : Option Addr} (c : Nat) {l : List Trp} (x : Trp) {w : World} (hr : Rd encTr 5 w w.heap.size A l) (hok : TrsOk w l) (hx : TrOk w x) (hsz : x.id.size ≤ 1000 ∧ ∀ y ∈ l, y.id.size ≤ 1000) (hl : l.length ≤ 1000) :
    Calls Tryd.prog 16 #[.slice A l.length c, TrV x] w fun e w' => e = .returned (.int .i64 (earN l x)) ∧ Below w.heap.size w w' := by
  have H := Lib.hid hr
  have HO := Lib.hid hok
  have HX := Lib.hid hx
  have HSZ := Lib.hid hsz
  have HN : Hid (earN l x = if x.ss = [] ∨ monN (begT x) < 0 then 0 else (l.filter (earB x)).length) := Lib.hid rfl
  have HV : Hid (TrV x = .agg #[.string x.id, .string x.vh, .string x.sy, .int .i64 x.cl, .slice x.sA x.ss.length x.sc]) := Lib.hid rfl
  obtain ⟨rn, hrn⟩ : ∃ n, earN l x = n := ⟨_, rfl⟩
  rw [hrn] at HN ⊢
  rw [HV.out]
  clear hr hok hsz hrn
  by_cases hne : x.ss = []
  · have R := Lib.hid (HN.out.trans (if_pos (.inl hne)))
    have hz := ss_zero hne
    clear HN
    obtain ⟨xi, xv, xy, xc, xA, xd, xs⟩ := x
    simp only at *
    obtain ⟨Y, hY⟩ : ∃ Y, w.alloc (.cells #[.string xi, .string xv, .string xy, .int .i64 xc, .slice xA xs.length xd] 28) = Y := ⟨_, rfl⟩
    have BX : Blk Y w.heap.size #[.string xi, .string xv, .string xy, .int .i64 xc, .slice xA xs.length xd] 28 := by rw [← hY]; exact Blk.new w _ _
    have bW : Below w.heap.size w Y := by rw [← hY]; exact (Below.refl _ w).al _
    have x4 := BX.cell 4 (v := .slice xA xs.length xd) rfl
    obtain ⟨hz1, hz2⟩ := hz
    clear hne
    go_enter Tryd.func16, Tryd.ntmps16
    go_wp2_with fail
    go_ret
    exact ⟨by rw [R.out]; rfl, bW⟩
  · obtain ⟨b1, o1, hA1, hb1, p1⟩ := hx.first hne
    have HNE := Lib.hid hne
    obtain ⟨hz1, hz2⟩ := ss_pos hne
    have HEB := Lib.hid (fun (y : Trp) => show earB x y = (eqS y.vh x.vh && decide (y.ss ≠ []) && decide (monN (begT y) = monN (begT x)) && preB y x) from rfl)
    have HTK := Lib.hid (fun (k : Nat) (y : Trp) (hy : l[k]? = some y) => earN_tk (x := x) hy)
    have HPB := Lib.hid (fun (y : Trp) => show preB y x = (if begT y = begT x then sltB y.id x.id else decide (begT y < begT x)) from rfl)
    have HBF := Lib.hid (fun (y : Trp) (h : y ∈ l) (W : World) => before_any y.id x.id (by have := HSZ.out.2 y h; omega) (by have := HSZ.out.1; omega) W)
    have HCM := Lib.hid (fun (t : Int) (W : World) => rmonth_any t W)
    have HCL : Hid (rn = if monN (begT x) < 0 then 0 else (l.filter (earB x)).length) := Lib.hid (by rw [HN.out]; simp [HNE.out])
    have HFL := Lib.hid (fun (k : Nat) => show ((l.take k).filter (earB x)).length ≤ 1000 by
      have := List.length_filter_le (earB x) (l.take k)
      rw [List.length_take] at this; omega)
    have HFA : Hid (l.take l.length = l) := Lib.hid List.take_length
    have HF0 : Hid (((l.take 0).filter (earB x)).length = 0) := Lib.hid (by simp)
    generalize hcnt : (fun k => ((l.take k).filter (earB x)).length) = cnt
    have HCN := Lib.hid (fun k => congrFun hcnt k)
    clear hcnt HN hne
    obtain ⟨xi, xv, xy, xc, xA, xd, xs⟩ := x
    simp only at *
    obtain ⟨bx, hbx⟩ : ∃ t, begT (⟨xi, xv, xy, xc, xA, xd, xs⟩ : Trp) = t := ⟨_, rfl⟩
    rw [hbx] at p1 HCL
    simp only [hbx] at HEB HPB
    subst hA1
    obtain ⟨xA, hxA⟩ : ∃ q, q = (some ⟨b1, o1, none⟩ : Option Addr) := ⟨_, rfl⟩
    obtain ⟨Y, hY⟩ : ∃ Y, w.alloc (.cells #[.string xi, .string xv, .string xy, .int .i64 xc, .slice (some ⟨b1, o1, none⟩) xs.length xd] 28) = Y := ⟨_, rfl⟩
    have BX : Blk Y w.heap.size #[.string xi, .string xv, .string xy, .int .i64 xc, .slice (some ⟨b1, o1, none⟩) xs.length xd] 28 := by rw [← hY]; exact Blk.new w _ _
    have bW : Below w.heap.size w Y := by rw [← hY]; exact (Below.refl _ w).al _
    have s1 : Y.heap.size = w.heap.size + 1 := by rw [← hY]; simp
    have x4 := BX.cell 4 (v := .slice (some ⟨b1, o1, none⟩) xs.length xd) rfl
    have P1 := (bW.cell (p := ⟨b1, o1 + 1, none⟩) hb1).trans p1
    have CM := Lib.hid (fun W => HCM.out bx W)
    have HBX := Lib.hid BX
    have HbW := Lib.hid bW
    generalize monN bx = mx at *
    clear hxA xA hbx BX bW
    by_cases hmx : mx < 0
    · have R := Lib.hid (HCL.out.trans (if_pos hmx))
      have hmd : decide (mx < 0) = true := decide_eq_true hmx
      go_enter Tryd.func16, Tryd.ntmps16
      go_wp2_with (first | (go_at_call 13; with_reducible refine (CM.out _).mono ?_; rintro e w' ⟨rfl, hw'⟩; rw [hw']; clear hw' w'))
      go_ret
      exact ⟨by rw [R.out]; rfl, HbW.out⟩
    · have R := Lib.hid (HCL.out.trans (if_neg hmx))
      have hmd : decide (mx < 0) = false := decide_eq_false hmx
      go_enter Tryd.func16, Tryd.ntmps16
      go_wp2_with (first | (go_at_call 13; with_reducible refine (CM.out _).mono ?_; rintro e w' ⟨rfl, hw'⟩; rw [hw']; clear hw' w'))
      clear HCL hY x4 P1
      go_loopw [6, 7] (fun v i wr => ∃ k : Nat, k ≤ l.length ∧ i = .int .i64 k ∧ v = .int .i64 (cnt k) ∧ Below (w.heap.size + 1) Y wr) (fun _ i _ => l.length - (RowKit.intOf i).toNat)
      case atStart => exact ⟨0, Nat.zero_le _, rfl, by rw [← HCN.out 0, HF0.out]; rfl, by rw [← s1]; exact Below.refl _ _⟩
      case round =>
        obtain ⟨k, hk, rfl, rfl, bY⟩ := hrel
        have hc0 : cnt k ≤ 1000 := by rw [← HCN.out k]; exact HFL.out k
        by_cases hi : k < l.length
        · have bW : Below w.heap.size w wr := HbW.out.trans (bY.mono (by omega))
          obtain ⟨b, off, y, rfl, hb, hy, d0, d1, d2, d3, d4⟩ := (H.out.st bW).tp hi
          have k1 : (0 : Int) ≤ (k : Int) := by omega
          have k2 : (k : Int) < (l.length : Int) := by omega
          have HK := Lib.hid hi
          have hym := List.mem_of_getElem? hy
          have HE := Lib.hid (HEB.out y)
          have HCT := Lib.hid ((HTK.out k y hy))
          rw [HE.out, HPB.out y] at HCT
          have BF := Lib.hid (HBF.out y hym)
          have HZ0 := Lib.hid (fun (h : y.ss = []) => ss_zero h)
          have HZ1 := Lib.hid (fun (h : y.ss ≠ []) => ss_pos h)
          have HFI := Lib.hid (fun (X : World) (hX : Below w.heap.size w X) (h : y.ss ≠ []) => (((HO.out.st hX) y hym)).first h)
          obtain ⟨by1, hby⟩ : ∃ t, begT y = t := ⟨_, rfl⟩
          simp only [hby] at HCT HFI
          have HCT : Hid (cnt (k + 1) = cnt k + if (eqS y.vh xv && decide (y.ss ≠ []) && decide (monN by1 = mx) && (if by1 = bx then sltB y.id xi else decide (by1 < bx))) = true then 1 else 0) := Lib.hid (by rw [← HCN.out (k + 1), ← HCN.out k]; exact HCT.out)
          have CMY := Lib.hid (fun (W : World) => HCM.out by1 W)
          generalize monN by1 = my at *
          clear hby HE hym hy hi
          obtain ⟨yi, yv, yy, yc, yA, yd, ys⟩ := y
          simp only at *
          have hsz : w.heap.size + 1 ≤ wr.heap.size := by have := bY.size; omega
          have BX := HBX.out.below bY (by omega)
          have x0 := BX.cell 0 (v := .string xi) rfl
          have x1 := BX.cell 1 (v := .string xv) rfl
          cases he : eqS yv xv
          · have R2 : Hid (cnt (k + 1) = cnt k) := Lib.hid (by rw [HCT.out, he]; simp)
            have he2 : (yv.toList == xv.toList) = false := he
            have he3 : (yv.toList != xv.toList) = true := by simp [bne, he2]
            clear HCT he
            go_wp2_with fail
            go_quiet (fail)
            go_wp2_with fail
            go_roundw
            case rel => exact ⟨k + 1, HK.out, by go_num, by rw [R2.out], below_drewN bY _⟩
            case measure => have := HK.out; simp [RowKit.intOf]; omega
          · have he2 : (yv.toList == xv.toList) = true := he
            have he3 : (yv.toList != xv.toList) = false := by simp [bne, he2]
            by_cases hys : ys = []
            · have R2 : Hid (cnt (k + 1) = cnt k) := Lib.hid (by rw [HCT.out, decide_eq_false (by simpa using hys)]; simp)
              obtain ⟨z1, z2⟩ := HZ0.out hys
              clear HCT he hys
              go_wp2_with fail
              go_quiet (fail)
              go_wp2_with fail
              go_roundw
              case rel => exact ⟨k + 1, HK.out, by go_num, by rw [R2.out], below_drewN bY _⟩
              case measure => have := HK.out; simp [RowKit.intOf]; omega
            · obtain ⟨z1, z2⟩ := HZ1.out hys
              obtain ⟨b2, o2, hA2, hb2, p2⟩ := HFI.out wr bW hys
              have HYS := Lib.hid hys
              subst hA2
              have Q1 := Lib.hid (fun (W : World) => (CMY.out W).mono fun e w' h => show e = _ ∧ ∃ n, w' = W.drewN n from ⟨h.1, 0, h.2⟩)
              have Q2 := Lib.hid (fun (W : World) => (CM.out W).mono fun e w' h => show e = _ ∧ ∃ n, w' = W.drewN n from ⟨h.1, 0, h.2⟩)
              clear hys hb2
              by_cases hmm : my = mx
              · have hmd2 : (my == mx) = true := by simp [hmm]
                by_cases hlt : by1 < bx
                · have hd : decide (by1 < bx) = true := decide_eq_true hlt
                  have R2 : Hid (cnt (k + 1) = cnt k + 1) := Lib.hid (by have h1 : ¬ by1 = bx := (by omega); rw [HCT.out]; simp [he, HYS.out, hmm, h1, hlt])
                  clear HCT he hmm hlt
                  go_wp2_with fail; go_quiet (fail); obtain ⟨W1, hW1⟩ : ∃ W1, W1 = wr.drewN nq := ⟨_, rfl⟩; (have p2 : W1.cell? ⟨b2, o2 + 1, none⟩ = some (.int .i64 by1) := by rw [hW1]; exact p2); (have d0 : W1.cell? ⟨b, off + k * 5, none⟩ = some (.string yi) := by rw [hW1]; exact d0); (have d4 : W1.cell? ⟨b, off + k * 5 + 4, none⟩ = some (.slice (some ⟨b2, o2, none⟩) ys.length yd) := by rw [hW1]; exact d4); (have x0 : W1.cell? ⟨w.heap.size, 0, none⟩ = some (.string xi) := by rw [hW1]; exact x0); (have bY1 : Below (w.heap.size + 1) Y W1 := by rw [hW1]; exact below_drewN bY _); rw [← hW1]; clear hW1; go_wp2_with fail; go_quiet ((first | (go_at_call 13; with_reducible refine Calls.quiet_of (Q1.out _)) | (go_at_call 13; with_reducible refine Calls.quiet_of (Q2.out _)) | (go_at_call 38; with_reducible refine Calls.quiet_of (BF.out _)))); go_wp2_with fail; go_roundw
                  (case rel => exact ⟨k + 1, HK.out, by go_num, by rw [R2.out]; go_num, below_drewN bY1 _⟩); (case measure => have := HK.out; simp [RowKit.intOf]; omega)
                · have hd : decide (by1 < bx) = false := decide_eq_false hlt
                  by_cases heq : by1 = bx
                  · have hq : (by1 == bx) = true := by simp [heq]
                    cases hsl : sltB yi xi
                    · have R2 : Hid (cnt (k + 1) = cnt k) := Lib.hid (by rw [HCT.out]; simp [heq, hsl])
                      rw [hsl] at BF
                      clear HCT he hmm hlt heq hsl
                      go_wp2_with fail; go_quiet (fail); obtain ⟨W1, hW1⟩ : ∃ W1, W1 = wr.drewN nq := ⟨_, rfl⟩; (have p2 : W1.cell? ⟨b2, o2 + 1, none⟩ = some (.int .i64 by1) := by rw [hW1]; exact p2); (have d0 : W1.cell? ⟨b, off + k * 5, none⟩ = some (.string yi) := by rw [hW1]; exact d0); (have d4 : W1.cell? ⟨b, off + k * 5 + 4, none⟩ = some (.slice (some ⟨b2, o2, none⟩) ys.length yd) := by rw [hW1]; exact d4); (have x0 : W1.cell? ⟨w.heap.size, 0, none⟩ = some (.string xi) := by rw [hW1]; exact x0); (have bY1 : Below (w.heap.size + 1) Y W1 := by rw [hW1]; exact below_drewN bY _); rw [← hW1]; clear hW1; go_wp2_with fail; go_quiet ((first | (go_at_call 13; with_reducible refine Calls.quiet_of (Q1.out _)) | (go_at_call 13; with_reducible refine Calls.quiet_of (Q2.out _)) | (go_at_call 38; with_reducible refine Calls.quiet_of (BF.out _)))); go_wp2_with fail; go_roundw
                      (case rel => exact ⟨k + 1, HK.out, by go_num, by rw [R2.out], below_drewN bY1 _⟩); (case measure => have := HK.out; simp [RowKit.intOf]; omega)
                    · have R2 : Hid (cnt (k + 1) = cnt k + 1) := Lib.hid (by rw [HCT.out]; simp [he, HYS.out, hmm, heq, hsl])
                      rw [hsl] at BF
                      clear HCT he hmm hlt heq hsl
                      go_wp2_with fail; go_quiet (fail); obtain ⟨W1, hW1⟩ : ∃ W1, W1 = wr.drewN nq := ⟨_, rfl⟩; (have p2 : W1.cell? ⟨b2, o2 + 1, none⟩ = some (.int .i64 by1) := by rw [hW1]; exact p2); (have d0 : W1.cell? ⟨b, off + k * 5, none⟩ = some (.string yi) := by rw [hW1]; exact d0); (have d4 : W1.cell? ⟨b, off + k * 5 + 4, none⟩ = some (.slice (some ⟨b2, o2, none⟩) ys.length yd) := by rw [hW1]; exact d4); (have x0 : W1.cell? ⟨w.heap.size, 0, none⟩ = some (.string xi) := by rw [hW1]; exact x0); (have bY1 : Below (w.heap.size + 1) Y W1 := by rw [hW1]; exact below_drewN bY _); rw [← hW1]; clear hW1; go_wp2_with fail; go_quiet ((first | (go_at_call 13; with_reducible refine Calls.quiet_of (Q1.out _)) | (go_at_call 13; with_reducible refine Calls.quiet_of (Q2.out _)) | (go_at_call 38; with_reducible refine Calls.quiet_of (BF.out _)))); go_wp2_with fail; go_roundw
                      (case rel => exact ⟨k + 1, HK.out, by go_num, by rw [R2.out]; go_num, below_drewN bY1 _⟩); (case measure => have := HK.out; simp [RowKit.intOf]; omega)
                  · have hq : (by1 == bx) = false := by simp [heq]
                    have R2 : Hid (cnt (k + 1) = cnt k) := Lib.hid (by rw [HCT.out]; simp [heq, hlt])
                    clear HCT he hmm hlt heq
                    go_wp2_with fail; go_quiet (fail); obtain ⟨W1, hW1⟩ : ∃ W1, W1 = wr.drewN nq := ⟨_, rfl⟩; (have p2 : W1.cell? ⟨b2, o2 + 1, none⟩ = some (.int .i64 by1) := by rw [hW1]; exact p2); (have d0 : W1.cell? ⟨b, off + k * 5, none⟩ = some (.string yi) := by rw [hW1]; exact d0); (have d4 : W1.cell? ⟨b, off + k * 5 + 4, none⟩ = some (.slice (some ⟨b2, o2, none⟩) ys.length yd) := by rw [hW1]; exact d4); (have x0 : W1.cell? ⟨w.heap.size, 0, none⟩ = some (.string xi) := by rw [hW1]; exact x0); (have bY1 : Below (w.heap.size + 1) Y W1 := by rw [hW1]; exact below_drewN bY _); rw [← hW1]; clear hW1; go_wp2_with fail; go_quiet ((first | (go_at_call 13; with_reducible refine Calls.quiet_of (Q1.out _)) | (go_at_call 13; with_reducible refine Calls.quiet_of (Q2.out _)) | (go_at_call 38; with_reducible refine Calls.quiet_of (BF.out _)))); go_wp2_with fail; go_roundw
                    (case rel => exact ⟨k + 1, HK.out, by go_num, by rw [R2.out], below_drewN bY1 _⟩); (case measure => have := HK.out; simp [RowKit.intOf]; omega)
              · have hmd2 : (my == mx) = false := by simp [hmm]
                have R2 : Hid (cnt (k + 1) = cnt k) := Lib.hid (by rw [HCT.out]; simp [hmm])
                clear HCT he hmm
                go_wp2_with fail; go_quiet (fail); obtain ⟨W1, hW1⟩ : ∃ W1, W1 = wr.drewN nq := ⟨_, rfl⟩; (have p2 : W1.cell? ⟨b2, o2 + 1, none⟩ = some (.int .i64 by1) := by rw [hW1]; exact p2); (have d0 : W1.cell? ⟨b, off + k * 5, none⟩ = some (.string yi) := by rw [hW1]; exact d0); (have d4 : W1.cell? ⟨b, off + k * 5 + 4, none⟩ = some (.slice (some ⟨b2, o2, none⟩) ys.length yd) := by rw [hW1]; exact d4); (have x0 : W1.cell? ⟨w.heap.size, 0, none⟩ = some (.string xi) := by rw [hW1]; exact x0); (have bY1 : Below (w.heap.size + 1) Y W1 := by rw [hW1]; exact below_drewN bY _); rw [← hW1]; clear hW1; go_wp2_with fail; go_quiet ((first | (go_at_call 13; with_reducible refine Calls.quiet_of (Q1.out _)) | (go_at_call 13; with_reducible refine Calls.quiet_of (Q2.out _)) | (go_at_call 38; with_reducible refine Calls.quiet_of (BF.out _)))); go_wp2_with fail; go_roundw
                (case rel => exact ⟨k + 1, HK.out, by go_num, by rw [R2.out], below_drewN bY1 _⟩); (case measure => have := HK.out; simp [RowKit.intOf]; omega)
        · obtain rfl : k = l.length := by omega
          have R2 := Lib.hid (show rn = cnt l.length by rw [R.out, ← HCN.out l.length]; simp only [HFA.out])
          go_wp2_with fail
          go_ret
          exact ⟨by rw [R2.out]; rfl, HbW.out.trans (bY.mono (by omega))⟩
end Go.Proofs.YtlnnbkpcnhlfcaaDoor
