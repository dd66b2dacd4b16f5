/- permit.Excess, walked. -/
import Derived.Test.YtbeoopofckbijaaPerStay
import Derived.Test.YtbeoopofckbijaaPerFns
import Derived.Test.YtbeoopofckbijaaValid
namespace Go.Proofs.Ytbeoopofckbijaa
open Go.RowKit Go.Lib Go.Sort Go.Shelf

/-- a stay that the permit covers -/
def okS (p : Pm) (s : St) : Bool := eqS s.zone p.zone && listB p.ps s.pl && validB s.f s.t && hasB [(p.v0, p.v1)] s.f
/-- the vehicles of the list that stay when s begins -/
def cntE (l : List St) (s : St) : Nat := (l.filter fun x => decide (x.f ≤ s.f ∧ s.f < x.t)).length
def exStep (m : Int) (a : List St × List ByteArray) (s : St) : List St × List ByteArray := if m ≤ (cntE a.1 s : Int) then (a.1, a.2 ++ [s.id]) else (a.1 ++ [s], a.2)
def exF (m : Int) (l : List St) : List St × List ByteArray := l.foldl (exStep m) ([], [])
theorem exF_succ {m : Int} {l : List St} {k : Nat} {s : St} (h : l[k]? = some s) : exF m (l.take (k + 1)) = exStep m (exF m (l.take k)) s := by
  unfold exF; rw [take_snoc h, List.foldl_append]; rfl
theorem exF_le (m : Int) (l : List St) : (exF m l).1.length + (exF m l).2.length = l.length := by
  suffices h : ∀ (l : List St) (a : List St × List ByteArray), (l.foldl (exStep m) a).1.length + (l.foldl (exStep m) a).2.length = a.1.length + a.2.length + l.length by
    have := h l ([], []); unfold exF; simp at this; omega
  intro l
  induction l with
  | nil => intro a; simp
  | cons s l ih =>
    intro a
    rw [List.foldl_cons, ih]
    unfold exStep
    split <;> simp <;> omega
theorem filt_snoc {α : Type} {l : List α} {k : Nat} {x : α} (p : α → Bool) (hx : l[k]? = some x) : (l.take (k + 1)).filter p = if p x = true then (l.take k).filter p ++ [x] else (l.take k).filter p := by
  rw [take_snoc hx, List.filter_append]
  split
  · rename_i h; simp [h]
  · rename_i h; simp [h]
theorem cnt_yes {l : List St} {k : Nat} {x s : St} (hx : l[k]? = some x) (h1 : x.f ≤ s.f) (h2 : s.f < x.t) : cntE (l.take (k + 1)) s = cntE (l.take k) s + 1 := by
  unfold cntE; rw [filt_snoc _ hx, if_pos (by simp [h1, h2])]; simp
theorem cnt_no {l : List St} {k : Nat} {x s : St} (hx : l[k]? = some x) (h : ¬ (x.f ≤ s.f ∧ s.f < x.t)) : cntE (l.take (k + 1)) s = cntE (l.take k) s := by
  unfold cntE; rw [filt_snoc _ hx, if_neg (by simpa using h)]
theorem cnt_le' (l : List St) (s : St) (k : Nat) : cntE (l.take k) s ≤ k := by
  unfold cntE
  have := List.length_filter_le (fun x : St => decide (x.f ≤ s.f ∧ s.f < x.t)) (l.take k)
  rw [List.length_take] at this; omega

set_option maxRecDepth 100000 in
set_option maxHeartbeats 16000000 in
theorem excess1 (p : Pm) {A : Option Addr} (c : Nat) {l : List St} {w : World} (h : POk w p) (hl : p.ps.length ≤ 100000) (hr : Rd encSt 5 w w.heap.size A l) (hll : l.length ≤ 1000000) (hsz : ∀ s ∈ l, s.pl.size ≤ 1000000) :
    Calls Try.prog 11 #[PmV p, .slice A l.length c] w fun e w' => ∃ A2 c2 l2, StabOf (ltOf cmpSt) (l.filter (okS p)) l2 ∧ e = .returned (.slice A2 (exF p.most l2).2.length c2) ∧ Rd encStr 1 w' w'.heap.size A2 (exF p.most l2).2 ∧ Below w.heap.size w w' := by
  have CL := Lib.hid (fun (s : ByteArray) (q : s.size ≤ 1000000) (X : World) (hX : Below w.heap.size w X) => listed_any p s q (h.st hX) hl)
  have CH := Lib.hid (fun (g : Nat) (t : Int) (X : World) (hX : Blk X g #[.int .i64 p.v0, .int .i64 p.v1] 26) => show Calls Try.prog 19 #[.slice (some ⟨g, 0, none⟩) 1 1, .int .i64 t] X _ from has_any (l := [((p.v0, p.v1) : Iv)]) 1 t (fun _ => ⟨g, 0, rfl, hX.lt, fun i y hi j u hu => by
    match i, j with
    | 0, 0 => simp at hi; subst hi; simp [encIv] at hu; subst hu; exact hX.cell 0 rfl
    | 0, 1 => simp at hi; subst hi; simp [encIv] at hu; subst hu; exact hX.cell 1 rfl
    | 0, j + 2 => simp [encIv] at hu
    | i + 1, _ => simp at hi⟩) (by simp))
  have CV := Lib.hid (fun (f t : Int) (X : World) => valid_any f t X)
  have eg : ∀ args w, (callFunc 23 args).run Try.prog w = .ok (.enter 23 args) w := enters_of Try.func23 (by kernel_rfl) rfl
  have CSort := Lib.hid (fun (X : World) (base : Nat) (A' : Option Addr) (c' : Nat) (o : List St) (ho : Own 44 encSt 5 X base A' c' o) (hX : base ≤ X.heap.size) (hlo : o.length ≤ 100000000) => stab_own (w := X) encSt_ok cmpSt cmpSt_pre.swo 23 #[] eg (fun W x y => stCmp_any W x y) ho hX (by omega))
  have HF := Lib.hid (fun (k : Nat) (x : St) (q : l[k]? = some x) => filt_snoc (okS p) q)
  have HSZ := Lib.hid hsz
  have HFE := Lib.hid (show (l.take l.length).filter (okS p) = l.filter (okS p) by rw [List.take_length])
  have HOK := Lib.hid (fun (s : St) => show okS p s = (eqS s.zone p.zone && listB p.ps s.pl && validB s.f s.t && hasB [(p.v0, p.v1)] s.f) from rfl)
  have HR := Lib.hid hr
  generalize okS p = ok at *
  obtain ⟨nm, zn, pA, pc, ps, v0, v1, hA, hc, hs, mo⟩ := p
  simp only [PmV] at *
  clear h hr hsz eg hl
  obtain ⟨Y, hY⟩ : ∃ Y, w.alloc (.cells #[.string nm, .string zn, .slice pA ps.length pc, .int .i64 v0, .int .i64 v1, .slice hA hs.length hc, .int .i64 mo] 31) = Y := ⟨_, rfl⟩; have bW : Below w.heap.size w Y := (by rw [← hY]; exact (Below.refl _ w).al _); have BP : Blk Y w.heap.size #[.string nm, .string zn, .slice pA ps.length pc, .int .i64 v0, .int .i64 v1, .slice hA hs.length hc, .int .i64 mo] 31 := (by rw [← hY]; exact Blk.new w _ _)
  have p0 := BP.cell 0 (v := .string nm) rfl; have p1 := BP.cell 1 (v := .string zn) rfl; have p2 := BP.cell 2 (v := .slice pA ps.length pc) rfl; have p3 := BP.cell 3 (v := .int .i64 v0) rfl; have p4 := BP.cell 4 (v := .int .i64 v1) rfl; have p5 := BP.cell 5 (v := .slice hA hs.length hc) rfl; have p6 := BP.cell 6 (v := .int .i64 mo) rfl
  have BP0 := Lib.hid BP
  have b0 := Lib.hid bW
  go_enter Try.func11, Try.ntmps11
  go_wp2_with fail
  clear hY p0 p1 p2 p3 p4 p5 p6 BP bW
  go_loopw [5, 17] (fun v i wr => ∃ (k : Nat) (A' : Option Addr) (c' : Nat) (o : List St), k ≤ l.length ∧ i = .int .i64 k ∧ v = .slice A' o.length c' ∧ o.length ≤ k ∧ Hid (o = (l.take k).filter ok) ∧ Own 44 encSt 5 wr Y.heap.size A' c' o ∧ Below Y.heap.size Y wr) (fun _ i _ => l.length - (RowKit.intOf i).toNat)
  case atStart => exact ⟨0, none, 0, [], Nat.zero_le _, rfl, rfl, Nat.zero_le _, Lib.hid rfl, Own.nil _ _, Below.refl _ _⟩
  case round =>
    obtain ⟨k, A', c', o, hk, rfl, rfl, hok, HV, hown, hb5⟩ := hrel
    have bW := b0.out.st hb5
    have BP := BP0.out.below hb5 BP0.out.lt
    by_cases hi : k < l.length
    · obtain ⟨b, off, s, hA1, hb, hx, d0, d1, d2, d3, d4⟩ := (HR.out.st bW).sy hi
      have HK := Lib.hid hi
      have HFk := Lib.hid (HF.out k s hx)
      have HOs := Lib.hid (HOK.out s)
      have hspl := HSZ.out s (List.mem_of_getElem? hx)
      have hol : o.length ≤ 1000000 := by omega
      subst hA1
      obtain ⟨i1, i2, i3, i4, i5⟩ := s
      simp only at *
      obtain ⟨Y5, hY5⟩ : ∃ Y, wr.alloc (.cells #[.string i1, .string i2, .string i3, .int .i64 i4, .int .i64 i5] 44) = Y := ⟨_, rfl⟩
      have BS : Blk Y5 wr.heap.size #[.string i1, .string i2, .string i3, .int .i64 i4, .int .i64 i5] 44 := by rw [← hY5]; exact Blk.new _ _ _
      have hbn : Below wr.heap.size wr Y5 := by rw [← hY5]; exact (Below.refl _ _).al _
      have bW := bW.st hbn
      have BP := BP.below hbn BP.lt
      have hb5 := hb5.st hbn
      have hown := hown.st hbn
      have s0 := BS.cell 0 (v := .string i1) rfl; have s1 := BS.cell 1 (v := .string i2) rfl; have s2 := BS.cell 2 (v := .string i3) rfl; have s3 := BS.cell 3 (v := .int .i64 i4) rfl; have s4 := BS.cell 4 (v := .int .i64 i5) rfl
      have p0 := BP.cell 0 (v := .string nm) rfl; have p1 := BP.cell 1 (v := .string zn) rfl; have p2 := BP.cell 2 (v := .slice pA ps.length pc) rfl; have p3 := BP.cell 3 (v := .int .i64 v0) rfl; have p4 := BP.cell 4 (v := .int .i64 v1) rfl; have p5 := BP.cell 5 (v := .slice hA hs.length hc) rfl; have p6 := BP.cell 6 (v := .int .i64 mo) rfl
      clear hx hi hbn hb
      have CLs := Lib.hid (CL.out i3 hspl)
      cases hz : eqS i2 zn
      · have hz2 : (i2.toList == zn.toList) = false := hz
        have R : Hid (ok ⟨i1, i2, i3, i4, i5⟩ = false) := Lib.hid (by rw [HOs.out, hz]; rfl)
        have HVn : Hid (o = (l.take (k + 1)).filter ok) := Lib.hid (by rw [HFk.out, R.out, if_neg (by simp)]; exact HV.out)
        clear hz HOs HFk HV
        go_wp2_with fail
        go_roundw
        case rel => exact ⟨k + 1, A', c', o, HK.out, by go_num, rfl, by omega, HVn, hown, hb5⟩
        case measure => have := HK.out; simp [RowKit.intOf]; omega
      · have hz2 : (i2.toList == zn.toList) = true := hz
        cases hq : listB ps i3
        · have R : Hid (ok ⟨i1, i2, i3, i4, i5⟩ = false) := Lib.hid (by rw [HOs.out, hz, hq]; rfl)
          have HVn : Hid (o = (l.take (k + 1)).filter ok) := Lib.hid (by rw [HFk.out, R.out, if_neg (by simp)]; exact HV.out)
          rw [hq] at CLs
          clear hz hq HOs HFk HV
          go_wp2_with fail
          refine (CLs.out _ bW).mono ?_
          rintro e w2 ⟨rfl, hbn⟩
          have hb5 := hb5.st hbn
          have hown := hown.st hbn
          have bW := bW.st hbn; have BP := BP.below hbn BP.lt; have BS := BS.below hbn BS.lt
          have s0 := BS.cell 0 (v := .string i1) rfl; have s1 := BS.cell 1 (v := .string i2) rfl; have s2 := BS.cell 2 (v := .string i3) rfl; have s3 := BS.cell 3 (v := .int .i64 i4) rfl; have s4 := BS.cell 4 (v := .int .i64 i5) rfl
          have p0 := BP.cell 0 (v := .string nm) rfl; have p1 := BP.cell 1 (v := .string zn) rfl; have p2 := BP.cell 2 (v := .slice pA ps.length pc) rfl; have p3 := BP.cell 3 (v := .int .i64 v0) rfl; have p4 := BP.cell 4 (v := .int .i64 v1) rfl; have p5 := BP.cell 5 (v := .slice hA hs.length hc) rfl; have p6 := BP.cell 6 (v := .int .i64 mo) rfl
          clear hbn
          go_wp2_with fail
          go_roundw
          case rel => exact ⟨k + 1, A', c', o, HK.out, by go_num, rfl, by omega, HVn, hown, hb5⟩
          case measure => have := HK.out; simp [RowKit.intOf]; omega
        · rw [hq] at CLs
          cases hv : validB i4 i5
          · have R : Hid (ok ⟨i1, i2, i3, i4, i5⟩ = false) := Lib.hid (by rw [HOs.out, hz, hq, hv]; rfl)
            have HVn : Hid (o = (l.take (k + 1)).filter ok) := Lib.hid (by rw [HFk.out, R.out, if_neg (by simp)]; exact HV.out)
            have CVs := Lib.hid (CV.out i4 i5)
            rw [hv] at CVs
            clear hz hq hv HOs HFk HV
            go_wp2_with fail
            refine (CLs.out _ bW).mono ?_
            rintro e w2 ⟨rfl, hbn⟩
            have hb5 := hb5.st hbn
            have hown := hown.st hbn
            have bW := bW.st hbn; have BP := BP.below hbn BP.lt; have BS := BS.below hbn BS.lt
            have s0 := BS.cell 0 (v := .string i1) rfl; have s1 := BS.cell 1 (v := .string i2) rfl; have s2 := BS.cell 2 (v := .string i3) rfl; have s3 := BS.cell 3 (v := .int .i64 i4) rfl; have s4 := BS.cell 4 (v := .int .i64 i5) rfl
            have p0 := BP.cell 0 (v := .string nm) rfl; have p1 := BP.cell 1 (v := .string zn) rfl; have p2 := BP.cell 2 (v := .slice pA ps.length pc) rfl; have p3 := BP.cell 3 (v := .int .i64 v0) rfl; have p4 := BP.cell 4 (v := .int .i64 v1) rfl; have p5 := BP.cell 5 (v := .slice hA hs.length hc) rfl; have p6 := BP.cell 6 (v := .int .i64 mo) rfl
            clear hbn
            go_wp2_with fail
            refine (CVs.out _).mono ?_
            rintro e w3 ⟨rfl, hw3⟩
            have hbn : Below w2.heap.size w2 w3 := by rw [← hw3]; exact (Below.refl _ _).al _
            have hb5 := hb5.st hbn
            have hown := hown.st hbn
            have bW := bW.st hbn; have BP := BP.below hbn BP.lt; have BS := BS.below hbn BS.lt
            have s0 := BS.cell 0 (v := .string i1) rfl; have s1 := BS.cell 1 (v := .string i2) rfl; have s2 := BS.cell 2 (v := .string i3) rfl; have s3 := BS.cell 3 (v := .int .i64 i4) rfl; have s4 := BS.cell 4 (v := .int .i64 i5) rfl
            have p0 := BP.cell 0 (v := .string nm) rfl; have p1 := BP.cell 1 (v := .string zn) rfl; have p2 := BP.cell 2 (v := .slice pA ps.length pc) rfl; have p3 := BP.cell 3 (v := .int .i64 v0) rfl; have p4 := BP.cell 4 (v := .int .i64 v1) rfl; have p5 := BP.cell 5 (v := .slice hA hs.length hc) rfl; have p6 := BP.cell 6 (v := .int .i64 mo) rfl
            clear hbn hw3
            go_wp2_with fail
            go_roundw
            case rel => exact ⟨k + 1, A', c', o, HK.out, by go_num, rfl, by omega, HVn, hown, hb5⟩
            case measure => have := HK.out; simp [RowKit.intOf]; omega
          · have CVs := Lib.hid (CV.out i4 i5)
            rw [hv] at CVs
            have CHs := Lib.hid (fun (g : Nat) => CH.out g i4)
            have HB : Hid (ok ⟨i1, i2, i3, i4, i5⟩ = hasB [(v0, v1)] i4) := Lib.hid (by rw [HOs.out, hz, hq, hv]; rfl)
            generalize hasB [(v0, v1)] i4 = hb0 at *
            clear hz hq hv HOs
            go_wp2_with fail
            refine (CLs.out _ bW).mono ?_
            rintro e w2 ⟨rfl, hbn⟩
            have hb5 := hb5.st hbn
            have hown := hown.st hbn
            have bW := bW.st hbn; have BP := BP.below hbn BP.lt; have BS := BS.below hbn BS.lt
            have s0 := BS.cell 0 (v := .string i1) rfl; have s1 := BS.cell 1 (v := .string i2) rfl; have s2 := BS.cell 2 (v := .string i3) rfl; have s3 := BS.cell 3 (v := .int .i64 i4) rfl; have s4 := BS.cell 4 (v := .int .i64 i5) rfl
            have p0 := BP.cell 0 (v := .string nm) rfl; have p1 := BP.cell 1 (v := .string zn) rfl; have p2 := BP.cell 2 (v := .slice pA ps.length pc) rfl; have p3 := BP.cell 3 (v := .int .i64 v0) rfl; have p4 := BP.cell 4 (v := .int .i64 v1) rfl; have p5 := BP.cell 5 (v := .slice hA hs.length hc) rfl; have p6 := BP.cell 6 (v := .int .i64 mo) rfl
            clear hbn
            go_wp2_with fail
            refine (CVs.out _).mono ?_
            rintro e w3 ⟨rfl, hw3⟩
            have hbn : Below w2.heap.size w2 w3 := by rw [← hw3]; exact (Below.refl _ _).al _
            have hb5 := hb5.st hbn
            have hown := hown.st hbn
            have bW := bW.st hbn; have BP := BP.below hbn BP.lt; have BS := BS.below hbn BS.lt
            have s0 := BS.cell 0 (v := .string i1) rfl; have s1 := BS.cell 1 (v := .string i2) rfl; have s2 := BS.cell 2 (v := .string i3) rfl; have s3 := BS.cell 3 (v := .int .i64 i4) rfl; have s4 := BS.cell 4 (v := .int .i64 i5) rfl
            have p0 := BP.cell 0 (v := .string nm) rfl; have p1 := BP.cell 1 (v := .string zn) rfl; have p2 := BP.cell 2 (v := .slice pA ps.length pc) rfl; have p3 := BP.cell 3 (v := .int .i64 v0) rfl; have p4 := BP.cell 4 (v := .int .i64 v1) rfl; have p5 := BP.cell 5 (v := .slice hA hs.length hc) rfl; have p6 := BP.cell 6 (v := .int .i64 mo) rfl
            clear hbn hw3
            obtain ⟨Y6, hY6⟩ : ∃ Y, w3.alloc (.cells #[.int .i64 v0, .int .i64 v1] 26) = Y := ⟨_, rfl⟩
            have B6 : Blk Y6 w3.heap.size #[.int .i64 v0, .int .i64 v1] 26 := by rw [← hY6]; exact Blk.new _ _ _
            have hbn : Below w3.heap.size w3 Y6 := by rw [← hY6]; exact (Below.refl _ _).al _
            have hb5 := hb5.st hbn
            have hown := hown.st hbn
            have bW := bW.st hbn; have BP := BP.below hbn BP.lt; have BS := BS.below hbn BS.lt
            have s0 := BS.cell 0 (v := .string i1) rfl; have s1 := BS.cell 1 (v := .string i2) rfl; have s2 := BS.cell 2 (v := .string i3) rfl; have s3 := BS.cell 3 (v := .int .i64 i4) rfl; have s4 := BS.cell 4 (v := .int .i64 i5) rfl
            have p0 := BP.cell 0 (v := .string nm) rfl; have p1 := BP.cell 1 (v := .string zn) rfl; have p2 := BP.cell 2 (v := .slice pA ps.length pc) rfl; have p3 := BP.cell 3 (v := .int .i64 v0) rfl; have p4 := BP.cell 4 (v := .int .i64 v1) rfl; have p5 := BP.cell 5 (v := .slice hA hs.length hc) rfl; have p6 := BP.cell 6 (v := .int .i64 mo) rfl
            clear hbn
            go_wp2_with fail
            refine (CHs.out _ _ B6).mono ?_
            rintro e w4 ⟨rfl, hbn⟩
            have hb5 := hb5.st hbn
            have hown := hown.st hbn
            have bW := bW.st hbn; have BP := BP.below hbn BP.lt; have BS := BS.below hbn BS.lt
            have s0 := BS.cell 0 (v := .string i1) rfl; have s1 := BS.cell 1 (v := .string i2) rfl; have s2 := BS.cell 2 (v := .string i3) rfl; have s3 := BS.cell 3 (v := .int .i64 i4) rfl; have s4 := BS.cell 4 (v := .int .i64 i5) rfl
            have p0 := BP.cell 0 (v := .string nm) rfl; have p1 := BP.cell 1 (v := .string zn) rfl; have p2 := BP.cell 2 (v := .slice pA ps.length pc) rfl; have p3 := BP.cell 3 (v := .int .i64 v0) rfl; have p4 := BP.cell 4 (v := .int .i64 v1) rfl; have p5 := BP.cell 5 (v := .slice hA hs.length hc) rfl; have p6 := BP.cell 6 (v := .int .i64 mo) rfl
            clear hbn hY6 B6
            cases hb0
            · have HVn : Hid (o = (l.take (k + 1)).filter ok) := Lib.hid (by rw [HFk.out, HB.out, if_neg (by simp)]; exact HV.out)
              clear HB HFk HV
              go_wp2_with fail
              go_roundw
              case rel => exact ⟨k + 1, A', c', o, HK.out, by go_num, rfl, by omega, HVn, hown, hb5⟩
              case measure => have := HK.out; simp [RowKit.intOf]; omega
            · have HVn : Hid (o ++ [⟨i1, i2, i3, i4, i5⟩] = (l.take (k + 1)).filter ok) := Lib.hid (by rw [HFk.out, HB.out, if_pos rfl, HV.out])
              clear HB HFk HV
              go_wp2_with (at_builtin; refine wpList_app1b rfl (.tmp 46) (.tmp 48) tySt encSt_ok rfl (⟨i1, i2, i3, i4, i5⟩ : St) rfl _ rfl (by simp) hown rfl (by first | rfl | simp) (by first | omega | (simp; omega)) (by first | omega | (simp; omega)) hb5.size ?_; intro A7 c7 w7 hown7 hb7 hs7 hf7; have hbel7 := hb5.trans hb7)
              go_roundw
              case rel => exact ⟨k + 1, A7, c7, _, HK.out, by go_num, by simp, by simp; omega, HVn, hown7, hbel7⟩
              case measure => have := HK.out; simp [RowKit.intOf]; omega
    · obtain rfl : k = l.length := by omega
      have CS := Lib.hid (CSort.out wr Y.heap.size A' c' o hown hb5.size (by omega))
      have hol : o.length ≤ 1000000 := by omega
      rw [HFE.out] at HV
      have HV2 := Lib.hid HV.out
      clear HV HF HFE HOK CL CH CV CSort hown
      go_wp2_with fail
      refine CS.out.mono ?_
      rintro e w6 ⟨rfl, l2, hst, hown, hb6, -, -⟩
      have hlen : Hid (l2.length = o.length) := Lib.hid hst.perm.length_eq
      rw [HV2.out] at hst
      have HST := Lib.hid hst
      have hl2 : l2.length ≤ 1000000 := by rw [hlen.out]; exact hol
      have hb6 := hb5.trans hb6
      have bW6 := Lib.hid (b0.out.trans (hb6.mono (by have := b0.out.size; omega)))
      have BP6 := Lib.hid (BP0.out.below hb6 BP0.out.lt)
      have HR2 := Lib.hid (hown.rd encSt_ok)
      have bb := Lib.hid (Below.refl w6.heap.size w6)
      have HX0 : Hid (exF mo (l2.take 0) = ([], [])) := Lib.hid (by simp [exF])
      have HXS := Lib.hid (fun (k : Nat) (s : St) (q : l2[k]? = some s) => exF_succ (m := mo) q)
      have HXE := Lib.hid (show exF mo (l2.take l2.length) = exF mo l2 by rw [List.take_length])
      have HXL := Lib.hid (fun (k : Nat) => exF_le mo (l2.take k))
      clear hst bW hb5 hk hi
      rw [← hlen.out]
      clear hlen hol hown
      go_wp2_with fail
      go_loopw [8, 9, 55] (fun vi vo i wr => ∃ (k : Nat) (A8 : Option Addr) (c8 : Nat) (A9 : Option Addr) (c9 : Nat) (I : List St) (O : List ByteArray), k ≤ l2.length ∧ i = .int .i64 k ∧ vi = .slice A8 I.length c8 ∧ vo = .slice A9 O.length c9 ∧ Hid (exF mo (l2.take k) = (I, O)) ∧ Own 44 encSt 5 wr w6.heap.size A8 c8 I ∧ Own 9 encStr 1 wr w6.heap.size A9 c9 O ∧ Below w6.heap.size w6 wr) (fun _ _ i _ => l2.length - (RowKit.intOf i).toNat)
      case atStart => exact ⟨0, none, 0, none, 0, [], [], Nat.zero_le _, rfl, rfl, rfl, HX0, Own.nil _ _, Own.nil _ _, bb.out⟩
      case round =>
        obtain ⟨wo, rfl⟩ : ∃ wo, wo = wr := ⟨_, rfl⟩
        obtain ⟨k, A8, c8, A9, c9, I, O, hk, rfl, rfl, rfl, HIO, hownI, hownO, hb7⟩ := hrel
        have hIO : I.length + O.length ≤ l2.length := by have := HXL.out k; rw [HIO.out, List.length_take] at this; simp only at this; omega
        by_cases hi : k < l2.length
        · obtain ⟨b, off, s, hA1, hb, hx, d0, d1, d2, d3, d4⟩ := (HR2.out.st hb7).sy hi
          have HK := Lib.hid hi
          have HXk : Hid (exF mo (l2.take (k + 1)) = exStep mo (I, O) s) := Lib.hid (by rw [HXS.out k s hx, HIO.out])
          have BP := BP6.out.below hb7 BP6.out.lt
          subst hA1
          obtain ⟨i1, i2, i3, i4, i5⟩ := s
          simp only at *
          obtain ⟨Y5, hY5⟩ : ∃ Y, wo.alloc (.cells #[.string i1, .string i2, .string i3, .int .i64 i4, .int .i64 i5] 44) = Y := ⟨_, rfl⟩
          have BS : Blk Y5 wo.heap.size #[.string i1, .string i2, .string i3, .int .i64 i4, .int .i64 i5] 44 := by rw [← hY5]; exact Blk.new _ _ _
          have hbn : Below wo.heap.size wo Y5 := by rw [← hY5]; exact (Below.refl _ _).al _
          have BP := Lib.hid (BP.below hbn BP.lt)
          have hb7 := hb7.st hbn
          have hownI := hownI.st hbn
          have hownO := hownO.st hbn
          have HRI := Lib.hid (hownI.rd encSt_ok)
          have BS0 := Lib.hid BS
          have b0' := Lib.hid (Below.refl Y5.heap.size Y5)
          clear hx hi hbn hb BS
          go_wp2_with fail
          clear hY5 d0 d1 d2 d3 d4
          have HCY := Lib.hid (fun (m : Nat) (x : St) (q : I[m]? = some x) q1 q2 => cnt_yes (s := ⟨i1, i2, i3, i4, i5⟩) q q1 q2)
          have HCN := Lib.hid (fun (m : Nat) (x : St) (q : I[m]? = some x) q1 => cnt_no (s := ⟨i1, i2, i3, i4, i5⟩) q q1)
          have HC0 : Hid (cntE (I.take 0) ⟨i1, i2, i3, i4, i5⟩ = 0) := Lib.hid (by simp [cntE])
          have HCE : Hid (cntE (I.take I.length) ⟨i1, i2, i3, i4, i5⟩ = cntE I ⟨i1, i2, i3, i4, i5⟩) := Lib.hid (by rw [List.take_length])
          have HCL := Lib.hid (fun (m : Nat) => cnt_le' I ⟨i1, i2, i3, i4, i5⟩ m)
          go_loopw [12, 61] (fun n j wr => ∃ (m q : Nat), m ≤ I.length ∧ j = .int .i64 m ∧ n = .int .i64 q ∧ Hid (cntE (I.take m) ⟨i1, i2, i3, i4, i5⟩ = q) ∧ Below Y5.heap.size Y5 wr) (fun _ j _ => I.length - (RowKit.intOf j).toNat)
          case atStart => exact ⟨0, 0, Nat.zero_le _, rfl, rfl, HC0, b0'.out⟩
          case round =>
            obtain ⟨m, q, hm, rfl, rfl, HQ, hb8⟩ := hrel
            have hq : q ≤ 1000000 := by have := HCL.out m; rw [HQ.out] at this; omega
            by_cases hmi : m < I.length
            · obtain ⟨b, off, x, hA1, hb, hx, d0, d1, d2, d3, d4⟩ := (HRI.out.st hb8).sy hmi
              have HM := Lib.hid hmi
              have HCYm := Lib.hid (HCY.out m x hx)
              have HCNm := Lib.hid (HCN.out m x hx)
              have BS := BS0.out.below hb8 BS0.out.lt
              subst hA1
              obtain ⟨x1, x2, x3, x4, x5⟩ := x
              simp only at *
              obtain ⟨Y8, hY8⟩ : ∃ Y, wr.alloc (.cells #[.string x1, .string x2, .string x3, .int .i64 x4, .int .i64 x5] 44) = Y := ⟨_, rfl⟩
              have BX : Blk Y8 wr.heap.size #[.string x1, .string x2, .string x3, .int .i64 x4, .int .i64 x5] 44 := by rw [← hY8]; exact Blk.new _ _ _
              have hbn : Below wr.heap.size wr Y8 := by rw [← hY8]; exact (Below.refl _ _).al _
              have BS := BS.below hbn BS.lt
              have hb8 := hb8.st hbn
              have x3' := BX.cell 3 (v := .int .i64 x4) rfl
              have x4' := BX.cell 4 (v := .int .i64 x5) rfl
              have s0 := BS.cell 0 (v := .string i1) rfl; have s1 := BS.cell 1 (v := .string i2) rfl; have s2 := BS.cell 2 (v := .string i3) rfl; have s3 := BS.cell 3 (v := .int .i64 i4) rfl; have s4 := BS.cell 4 (v := .int .i64 i5) rfl
              clear hx hmi hbn hb
              by_cases q1 : x4 ≤ i4
              · by_cases q2 : i4 < x5
                · have R := Lib.hid ((HCYm.out q1 q2).trans (by rw [HQ.out]))
                  clear HCYm HCNm HQ
                  go_wp2_with fail
                  go_roundw
                  case rel => exact ⟨m + 1, q + 1, HM.out, by go_num, by go_num, R, hb8⟩
                  case measure => have := HM.out; simp [RowKit.intOf]; omega
                · have R := Lib.hid ((HCNm.out (fun h => q2 h.2)).trans HQ.out)
                  clear HCYm HCNm HQ
                  go_wp2_with fail
                  go_roundw
                  case rel => exact ⟨m + 1, q, HM.out, by go_num, rfl, R, hb8⟩
                  case measure => have := HM.out; simp [RowKit.intOf]; omega
              · have R := Lib.hid ((HCNm.out (fun h => q1 h.1)).trans HQ.out)
                clear HCYm HCNm HQ
                go_wp2_with fail
                go_roundw
                case rel => exact ⟨m + 1, q, HM.out, by go_num, rfl, R, hb8⟩
                case measure => have := HM.out; simp [RowKit.intOf]; omega
            · obtain rfl : m = I.length := by omega
              have HQ2 : Hid (cntE I ⟨i1, i2, i3, i4, i5⟩ = q) := Lib.hid (HCE.out.symm.trans HQ.out)
              have hownI := hownI.st hb8
              have hownO := hownO.st hb8
              have hb7 := hb7.st hb8
              have BS := BS0.out.below hb8 BS0.out.lt
              have BP := BP.out.below hb8 BP.out.lt
              have hIl : I.length ≤ 1000000 := by omega
              have hOl : O.length ≤ 1000000 := by omega
              have s0 := BS.cell 0 (v := .string i1) rfl; have s1 := BS.cell 1 (v := .string i2) rfl; have s2 := BS.cell 2 (v := .string i3) rfl; have s3 := BS.cell 3 (v := .int .i64 i4) rfl; have s4 := BS.cell 4 (v := .int .i64 i5) rfl
              have p0 := BP.cell 0 (v := .string nm) rfl; have p1 := BP.cell 1 (v := .string zn) rfl; have p2 := BP.cell 2 (v := .slice pA ps.length pc) rfl; have p3 := BP.cell 3 (v := .int .i64 v0) rfl; have p4 := BP.cell 4 (v := .int .i64 v1) rfl; have p5 := BP.cell 5 (v := .slice hA hs.length hc) rfl; have p6 := BP.cell 6 (v := .int .i64 mo) rfl
              clear HCY HCN HC0 HCE HCL HQ hmi hm hb8 b0'
              by_cases hmo : mo ≤ (q : Int)
              · have R : Hid (exF mo (l2.take (k + 1)) = (I, O ++ [i1])) := Lib.hid (by rw [HXk.out]; unfold exStep; rw [if_pos (by simp only [HQ2.out]; exact hmo)])
                clear HXk HQ2
                have HI := Lib.hid hownI
                have HO := Lib.hid hownO
                go_wp2_with (at_builtin; refine wpList_app1b rfl (.tmp 88) (.tmp 91) tyStr encStr_ok rfl i1 rfl _ rfl (by simp) hownO rfl (by first | rfl | simp) (by first | omega | (simp; omega)) (by first | omega | (simp; omega)) hb7.size ?_; intro A5 c5 w5 hown5 hb5 hs5 hf5; have hbel5 := hb7.trans hb5)
                have hownI5 := HI.out.keepB (w' := w5) fun gq hgq hlq => hf5 gq hlq fun gg hgg => HI.out.apart HO.out (by decide) hgq hgg
                go_roundw
                case rel => exact ⟨k + 1, A8, c8, A5, c5, I, O ++ [i1], HK.out, by go_num, rfl, by simp, R, hownI5, hown5, hbel5⟩
                case measure => have := HK.out; simp [RowKit.intOf]; omega
              · have R : Hid (exF mo (l2.take (k + 1)) = (I ++ [⟨i1, i2, i3, i4, i5⟩], O)) := Lib.hid (by rw [HXk.out]; unfold exStep; rw [if_neg (by simp only [HQ2.out]; exact hmo)])
                clear HXk HQ2
                have HI := Lib.hid hownI
                have HO := Lib.hid hownO
                go_wp2_with (at_builtin; refine wpList_app1b rfl (.tmp 93) (.tmp 95) tySt encSt_ok rfl (⟨i1, i2, i3, i4, i5⟩ : St) rfl _ rfl (by simp) hownI rfl (by first | rfl | simp) (by first | omega | (simp; omega)) (by first | omega | (simp; omega)) hb7.size ?_; intro A5 c5 w5 hown5 hb5 hs5 hf5; have hbel5 := hb7.trans hb5)
                have hownO5 := HO.out.keepB (w' := w5) fun gq hgq hlq => hf5 gq hlq fun gg hgg => HO.out.apart HI.out (by decide) hgq hgg
                go_roundw
                case rel => exact ⟨k + 1, A5, c5, A9, c9, I ++ [⟨i1, i2, i3, i4, i5⟩], O, HK.out, by go_num, by simp, rfl, R, hown5, hownO5, hbel5⟩
                case measure => have := HK.out; simp [RowKit.intOf]; omega
        · obtain rfl : k = l2.length := by omega
          have R : Hid (O = (exF mo l2).2) := Lib.hid (by rw [← HXE.out, HIO.out])
          have bW := bW6.out.st hb7
          have hrd := Lib.hid (hownO.rd encStr_ok)
          go_wp2_with fail
          go_ret
          obtain rfl := R.out
          exact ⟨A9, c9, l2, HST.out, rfl, hrd.out, bW⟩
end Go.Proofs.Ytbeoopofckbijaa
