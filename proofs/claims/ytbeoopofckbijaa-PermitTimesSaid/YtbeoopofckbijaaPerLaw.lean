/- The law PermitTimes, walked (over the contract of awake). -/
import Derived.Test.YtbeoopofckbijaaPerCov
import Derived.Test.YtbeoopofckbijaaPerFns
set_option linter.unusedSimpArgs false
namespace Go.Proofs.Ytbeoopofckbijaa
open Go.RowKit Go.Lib

def someB (l : List Pm) (s zn : ByteArray) (t : Int) : Bool := l.any fun p => validP p s t && eqS p.zone zn
theorem someB_succ {l : List Pm} {s zn : ByteArray} {t : Int} {k : Nat} {p : Pm} (hx : l[k]? = some p) : someB (l.take (k + 1)) s zn t = (someB (l.take k) s zn t || (validP p s t && eqS p.zone zn)) := by
  unfold someB; rw [take_snoc hx, List.any_append]; simp
theorem co_some {l : List Pm} {s zn : ByteArray} {f u t : Int} (h1 : f ≤ t) (h2 : t < u) : Co l s zn (f, u) t ↔ someB l s zn t = true := by
  unfold Co Pa someB
  rw [List.any_eq_true]
  simp only [Bool.and_eq_true]
  constructor
  · rintro ⟨p, hp, a, _, _, b⟩; exact ⟨p, hp, b, a⟩
  · rintro ⟨p, hp, b, a⟩; exact ⟨p, hp, a, h1, h2, b⟩
theorem pa_some {p : Pm} {s : ByteArray} {f u t : Int} (h1 : f ≤ t) (h2 : t < u) : Pa p s (f, u) t ↔ validP p s t = true := by
  unfold Pa; exact ⟨fun h => h.2.2, fun h => ⟨h1, h2, h⟩⟩
theorem greatB_no {p : Pm} (h : greatB p = false) : p.ps.length ≤ 1100 ∧ p.hs.length ≤ 60 := by
  unfold greatB at h; simp at h; omega
theorem boolEq {a b : Bool} (h : a = true ↔ b = true) : a = b := Bool.eq_iff_iff.2 h

set_option maxRecDepth 100000 in
set_option maxHeartbeats 16000000 in
theorem times_walk {A : Option Addr} (c : Nat) {l : List Pm} (plt zo : ByteArray) (f u t : Int) {w : World} (h : Rd encPm 7 w w.heap.size A l) (ho : PsOk w l)
    (aw : ∀ W : World, Calls Try.prog 4 #[] W fun e w' => e = .returned (.bool true) ∧ Below W.heap.size W w') :
    Calls Try.prog 3 #[.slice A l.length c, .agg #[.string plt, .string zo], .agg #[.int .i64 f, .int .i64 u], .int .i64 t] w fun e w' => e = .returned (.bool true) ∧ Below w.heap.size w w' := by
  have AW := Lib.hid aw
  clear aw
  obtain ⟨Y1, hY1⟩ : ∃ Y, w.alloc (.cells #[.string plt, .string zo] 24) = Y := ⟨_, rfl⟩
  have s1 : Y1.heap.size = w.heap.size + 1 := by rw [← hY1]; simp
  obtain ⟨Y, hY⟩ : ∃ Y, Y1.alloc (.cells #[.int .i64 f, .int .i64 u] 26) = Y := ⟨_, rfl⟩
  have BV : Blk Y w.heap.size #[.string plt, .string zo] 24 := by rw [← hY, ← hY1]; exact (Blk.new w _ _).alloc _
  have BI : Blk Y (w.heap.size + 1) #[.int .i64 f, .int .i64 u] 26 := by rw [← hY, ← s1]; exact Blk.new Y1 _ _
  have bW : Below w.heap.size w Y := by rw [← hY, ← hY1]; exact ((Below.refl _ w).al _).al _
  have i0 := BI.cell 0 (v := .int .i64 f) rfl; have i1 := BI.cell 1 (v := .int .i64 u) rfl; have v0 := BV.cell 0 (v := .string plt) rfl; have v1 := BV.cell 1 (v := .string zo) rfl
  by_cases q1 : 10 < l.length
  · go_enter Try.func3, Try.ntmps3
    go_wp2_with fail
    refine (AW.out _).mono ?_; rintro e wl ⟨rfl, hbn⟩; have bW := bW.st hbn; go_wp2_with fail; go_ret; exact ⟨rfl, bW⟩
  by_cases q2 : 100 < plt.size
  · go_enter Try.func3, Try.ntmps3
    go_wp2_with fail
    refine (AW.out _).mono ?_; rintro e wl ⟨rfl, hbn⟩; have bW := bW.st hbn; go_wp2_with fail; go_ret; exact ⟨rfl, bW⟩
  by_cases q3 : f < 0
  · go_enter Try.func3, Try.ntmps3
    go_wp2_with fail
    refine (AW.out _).mono ?_; rintro e wl ⟨rfl, hbn⟩; have bW := bW.st hbn; go_wp2_with fail; go_ret; exact ⟨rfl, bW⟩
  by_cases q4 : u ≤ f
  · go_enter Try.func3, Try.ntmps3
    go_wp2_with fail
    refine (AW.out _).mono ?_; rintro e wl ⟨rfl, hbn⟩; have bW := bW.st hbn; go_wp2_with fail; go_ret; exact ⟨rfl, bW⟩
  by_cases q5 : 68719476736 < u
  · go_enter Try.func3, Try.ntmps3
    go_wp2_with fail
    refine (AW.out _).mono ?_; rintro e wl ⟨rfl, hbn⟩; have bW := bW.st hbn; go_wp2_with fail; go_ret; exact ⟨rfl, bW⟩
  have hw : IntKind.i64.wrap (u - f) = u - f := IntWalk.i64_in _ (by omega)
  by_cases q6 : 1728000 < u - f
  · go_enter Try.func3, Try.ntmps3
    go_wp2_with fail
    refine (AW.out _).mono ?_; rintro e wl ⟨rfl, hbn⟩; have bW := bW.st hbn; go_wp2_with fail; go_ret; exact ⟨rfl, bW⟩
  by_cases q7 : t < f
  · go_enter Try.func3, Try.ntmps3
    go_wp2_with fail
    refine (AW.out _).mono ?_; rintro e wl ⟨rfl, hbn⟩; have bW := bW.st hbn; go_wp2_with fail; go_ret; exact ⟨rfl, bW⟩
  by_cases q8 : u ≤ t
  · go_enter Try.func3, Try.ntmps3
    go_wp2_with fail
    refine (AW.out _).mono ?_; rintro e wl ⟨rfl, hbn⟩; have bW := bW.st hbn; go_wp2_with fail; go_ret; exact ⟨rfl, bW⟩
  have h3 : (u - 1) / 86400 - f / 86400 + 1 ≤ 366 := by omega
  have CG := Lib.hid (fun (p : Pm) (X : World) => great_any p X)
  have CA := Lib.hid (fun (p : Pm) (hp : p ∈ l) (hg : greatB p = false) (X : World) (hX : Below w.heap.size w X) => allowed_any p plt f u (by omega) ((ho p hp).st hX) (by have := greatB_no hg; omega) (by omega) (by omega) (by omega) h3)
  have CV := Lib.hid (fun (p : Pm) (hp : p ∈ l) (hg : greatB p = false) (X : World) (hX : Below w.heap.size w X) => validP_any p plt t (by omega) ((ho p hp).st hX) (by have := greatB_no hg; omega))
  have CC := Lib.hid (fun (hg : ∀ p ∈ l, greatB p = false) (X : World) (hX : Below w.heap.size w X) => covered_any c plt zo f u (by omega) (h.st hX) (ho.st hX) (by omega) (fun p hp => by have := greatB_no (hg p hp); omega) (by omega) (by omega) (by omega) h3)
  have CW := Lib.hid (fun (A : Option Addr) (c : Nat) (n : List Iv) (nf : NF n) (S : Prop) (b : Bool) (hm : Mem n t ↔ S) (hs : S ↔ b = true) (X : World) (hR : Rd encIv 2 X X.heap.size A n) => show Calls Try.prog 8 #[.slice A n.length c, .int .i64 t] X fun e w' => e = .returned (.bool b) ∧ Below X.heap.size X w' by
    rw [← boolEq ((inL_nf nf t).trans (hm.trans hs))]
    exact lwithin_any c hR (by have := nf.length_max; omega))
  have HP := Lib.hid (fun (p : Pm) => pa_some (p := p) (s := plt) (f := f) (u := u) (t := t) (by omega) (by omega))
  have HC := Lib.hid (co_some (l := l) (s := plt) (zn := zo) (f := f) (u := u) (t := t) (by omega) (by omega))
  have HSU := Lib.hid (fun (k : Nat) (p : Pm) (q : l[k]? = some p) => someB_succ (s := plt) (zn := zo) (t := t) q)
  have HS0 := Lib.hid (show someB (l.take 0) plt zo t = false by simp [someB])
  have HSE := Lib.hid (show someB (l.take l.length) plt zo t = someB l plt zo t by rw [List.take_length])
  have HT := Lib.hid (show (l.take l.length) = l by rw [List.take_length])
  clear ho h3
  generalize hsb : (fun k => someB (l.take k) plt zo t) = sb
  have HSB := Lib.hid (fun k => congrFun hsb k)
  clear hsb
  have HZ : Hid (sb 0 = false) := Lib.hid ((HSB.out 0).symm.trans HS0.out)
  go_enter Try.func3, Try.ntmps3
  go_wp2_with fail
  have b0 := Lib.hid bW
  have BI0 := Lib.hid BI
  have BV0 := Lib.hid BV
  have bb := Lib.hid (Below.refl Y.heap.size Y)
  clear i0 i1 v0 v1 BI BV bW hY hY1 s1
  go_loopw [9, 66] (fun o i wr => ∃ (k : Nat), k ≤ l.length ∧ o = .bool (sb k) ∧ i = .int .i64 k ∧ Hid (∀ p ∈ l.take k, greatB p = false) ∧ Below Y.heap.size Y wr) (fun _ i _ => l.length - (RowKit.intOf i).toNat)
  case atStart => exact ⟨0, Nat.zero_le _, (by rw [HZ.out]), rfl, (by unfold Hid; simp), bb.out⟩
  case round =>
    obtain ⟨k, hk, rfl, rfl, HG, hb5⟩ := hrel
    have bW := b0.out.st hb5
    have BI := BI0.out.below hb5 BI0.out.lt
    have BV := BV0.out.below hb5 BV0.out.lt
    by_cases hi : k < l.length
    · obtain ⟨b, off, p, hA1, hb, hx, d0, d1, d2, d3, d4, d5, d6⟩ := (h.st bW).pm hi
      have HK := Lib.hid hi
      have CGp := Lib.hid (CG.out p)
      have CAp := Lib.hid (CA.out p (List.mem_of_getElem? hx))
      have CVp := Lib.hid (CV.out p (List.mem_of_getElem? hx))
      have HPp := Lib.hid (HP.out p)
      have HSk : Hid (sb (k + 1) = (sb k || (validP p plt t && eqS p.zone zo))) := Lib.hid (by rw [← HSB.out, ← HSB.out]; exact HSU.out k p hx)
      have HGk := Lib.hid (fun (q : greatB p = false) => all_succ' (p := greatB) hx HG.out q)
      subst hA1
      obtain ⟨nm, zn, pA, pc, ps, w0, w1, hA, hc, hs2, mo⟩ := p
      simp only [PmV] at *
      obtain ⟨hs, rfl⟩ : ∃ hs, hs = hs2 := ⟨_, rfl⟩
      obtain ⟨Y5, hY5⟩ : ∃ Y, wr.alloc (.cells #[.string nm, .string zn, .slice pA ps.length pc, .int .i64 w0, .int .i64 w1, .slice hA hs.length hc, .int .i64 mo] 31) = Y := ⟨_, rfl⟩
      have BP : Blk Y5 wr.heap.size #[.string nm, .string zn, .slice pA ps.length pc, .int .i64 w0, .int .i64 w1, .slice hA hs.length hc, .int .i64 mo] 31 := by rw [← hY5]; exact Blk.new _ _ _
      have hbn : Below wr.heap.size wr Y5 := by rw [← hY5]; exact (Below.refl _ _).al _
      have BI := BI.below hbn BI.lt; have BV := BV.below hbn BV.lt
      have hb5 := hb5.st hbn
      have bW := bW.st hbn
      have i0 := BI.cell 0 (v := .int .i64 f) rfl; have i1 := BI.cell 1 (v := .int .i64 u) rfl; have v0 := BV.cell 0 (v := .string plt) rfl; have v1 := BV.cell 1 (v := .string zo) rfl
      have p0 := BP.cell 0 (v := .string nm) rfl
      have p1 := BP.cell 1 (v := .string zn) rfl
      have p2 := BP.cell 2 (v := .slice pA ps.length pc) rfl
      have p3 := BP.cell 3 (v := .int .i64 w0) rfl
      have p4 := BP.cell 4 (v := .int .i64 w1) rfl
      have p5 := BP.cell 5 (v := .slice hA hs.length hc) rfl
      have p6 := BP.cell 6 (v := .int .i64 mo) rfl
      clear hx hi hbn
      cases hg : greatB ⟨nm, zn, pA, pc, ps, w0, w1, hA, hc, hs, mo⟩
      · rw [hg] at CGp
        have CAp := Lib.hid (CAp.out hg)
        have CVp := Lib.hid (CVp.out hg)
        have HGk := Lib.hid (HGk.out hg)
        clear hg
        go_wp2_with fail
        refine (CGp.out _).mono ?_
        rintro e w6 ⟨rfl, hbn⟩
        have BI := BI.below hbn BI.lt; have BV := BV.below hbn BV.lt
        have BP := BP.below hbn BP.lt
        have hb5 := hb5.st hbn
        have bW := bW.st hbn
        have i0 := BI.cell 0 (v := .int .i64 f) rfl; have i1 := BI.cell 1 (v := .int .i64 u) rfl; have v0 := BV.cell 0 (v := .string plt) rfl; have v1 := BV.cell 1 (v := .string zo) rfl
        have p0 := BP.cell 0 (v := .string nm) rfl
        have p1 := BP.cell 1 (v := .string zn) rfl
        have p2 := BP.cell 2 (v := .slice pA ps.length pc) rfl
        have p3 := BP.cell 3 (v := .int .i64 w0) rfl
        have p4 := BP.cell 4 (v := .int .i64 w1) rfl
        have p5 := BP.cell 5 (v := .slice hA hs.length hc) rfl
        have p6 := BP.cell 6 (v := .int .i64 mo) rfl
        clear hbn
        go_wp2_with fail
        refine (CAp.out _ bW).mono ?_
        rintro e w7 ⟨A7, c7, n7, rfl, nf7, hm7, HR7, hbn⟩
        have BI := BI.below hbn BI.lt; have BV := BV.below hbn BV.lt
        have BP := BP.below hbn BP.lt
        have hb5 := hb5.st hbn
        have bW := bW.st hbn
        have i0 := BI.cell 0 (v := .int .i64 f) rfl; have i1 := BI.cell 1 (v := .int .i64 u) rfl; have v0 := BV.cell 0 (v := .string plt) rfl; have v1 := BV.cell 1 (v := .string zo) rfl
        have p0 := BP.cell 0 (v := .string nm) rfl
        have p1 := BP.cell 1 (v := .string zn) rfl
        have p2 := BP.cell 2 (v := .slice pA ps.length pc) rfl
        have p3 := BP.cell 3 (v := .int .i64 w0) rfl
        have p4 := BP.cell 4 (v := .int .i64 w1) rfl
        have p5 := BP.cell 5 (v := .slice hA hs.length hc) rfl
        have p6 := BP.cell 6 (v := .int .i64 mo) rfl
        have CWp := Lib.hid (CW.out A7 c7 n7 nf7 _ _ (hm7 t) HPp.out)
        clear hbn nf7 hm7
        go_wp2_with fail
        refine (CVp.out _ bW).mono ?_
        rintro e w8 ⟨rfl, hbn⟩
        have BI := BI.below hbn BI.lt; have BV := BV.below hbn BV.lt
        have BP := BP.below hbn BP.lt
        have hb5 := hb5.st hbn
        have bW := bW.st hbn
        have HR7 := HR7.st hbn
        have i0 := BI.cell 0 (v := .int .i64 f) rfl; have i1 := BI.cell 1 (v := .int .i64 u) rfl; have v0 := BV.cell 0 (v := .string plt) rfl; have v1 := BV.cell 1 (v := .string zo) rfl
        have p1 := BP.cell 1 (v := .string zn) rfl
        clear hbn p0 p2 p3 p4 p5 p6 CVp CAp CGp
        generalize hvp : validP ⟨nm, zn, pA, pc, ps, w0, w1, hA, hc, hs, mo⟩ plt t = vb at *
        clear hvp
        go_wp2_with fail
        refine (CWp.out _ HR7).mono ?_
        rintro e w9 ⟨rfl, hbn⟩
        have BI := BI.below hbn BI.lt; have BV := BV.below hbn BV.lt
        have BP := BP.below hbn BP.lt
        have hb5 := hb5.st hbn
        have bW := bW.st hbn
        have i0 := BI.cell 0 (v := .int .i64 f) rfl; have i1 := BI.cell 1 (v := .int .i64 u) rfl; have v0 := BV.cell 0 (v := .string plt) rfl; have v1 := BV.cell 1 (v := .string zo) rfl
        have p1 := BP.cell 1 (v := .string zn) rfl
        clear hbn CWp HR7
        cases hsk : sb k <;> cases vb <;> cases hez : eqS zn zo
        all_goals (have hz2 : (zn.toList == zo.toList) = _ := hez; have R := Lib.hid (HSk.out.trans (by rw [hsk, hez])); clear hsk hez HSk; go_wp2_with fail; go_roundw)
        all_goals (first | (exact ⟨k + 1, HK.out, by rw [R.out]; rfl, by go_num, HGk, hb5⟩) | (have := HK.out; simp [RowKit.intOf]; omega))
      · rw [hg] at CGp
        clear hg
        go_wp2_with fail
        refine (CGp.out _).mono ?_
        rintro e w6 ⟨rfl, hbn⟩
        have bW := bW.st hbn
        clear hbn
        go_wp2_with fail
        refine (AW.out _).mono ?_; rintro e wl ⟨rfl, hbn⟩; have bW := bW.st hbn; go_wp2_with fail; go_ret; exact ⟨rfl, bW⟩
    · obtain rfl : k = l.length := by omega
      have CC := Lib.hid (CC.out (by have := HG.out; rw [HT.out] at this; exact this))
      have i0 := BI.cell 0 (v := .int .i64 f) rfl; have i1 := BI.cell 1 (v := .int .i64 u) rfl; have v0 := BV.cell 0 (v := .string plt) rfl; have v1 := BV.cell 1 (v := .string zo) rfl
      have HSl : Hid (sb l.length = someB l plt zo t) := Lib.hid ((HSB.out _).symm.trans HSE.out)
      rw [HSl.out]
      generalize hsv : someB l plt zo t = sv at *
      clear hsv HSl HSE HG HT
      go_wp2_with fail
      refine (CC.out _ bW).mono ?_
      rintro e w7 ⟨A7, c7, n7, rfl, nf7, hm7, HR7, hbn⟩
      have bW := bW.st hbn
      have CWp := Lib.hid (CW.out A7 c7 n7 nf7 _ _ (hm7 t) HC.out _ HR7)
      clear hbn nf7 hm7 CC
      go_wp2_with fail
      refine CWp.out.mono ?_
      rintro e w9 ⟨rfl, hbn⟩
      have bW := bW.st hbn
      clear hbn
      cases sv
      all_goals (go_wp2_with fail; refine (AW.out _).mono ?_; rintro e wl ⟨rfl, hbn⟩; have bW := bW.st hbn; go_wp2_with fail; go_ret; exact ⟨rfl, bW⟩)
end Go.Proofs.Ytbeoopofckbijaa
