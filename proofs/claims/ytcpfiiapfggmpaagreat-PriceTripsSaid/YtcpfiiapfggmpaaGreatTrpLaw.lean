/- The law PriceTrips, walked. -/
import Derived.Test.YtcpfiiapfggmpaaGreatTrpR
import Derived.Test.YtcpfiiapfggmpaaGreatTarLaw
import Derived.Test.YtcpfiiapfggmpaaGreatJTrpLen
set_option linter.unusedSimpArgs false
set_option linter.unusedSimpArgs false
namespace Go.Proofs.YtcpfiiapfggmpaaGreat
open Go.RowKit Go.Lib

set_option maxRecDepth 100000 in
set_option maxHeartbeats 16000000 in
theorem priceTrips_walk {pA lA sA tA uA dA qA kA zA xA : Option Addr} (pc lc sc tc uc dc qc kc zc xc : Nat) (pe : Int) (o3 o4 o5 o6 o7 o14 o16 o17 o18 o19 o20 o21 o22 o23 o24 : Value) (xi xv xy : ByteArray) (cl lv er : Int) {pts : List Pt} {lks : List Lk} {sys : List Sy} {ts : List Ta} {us ds qs : List Int} {dcs : List Dc} {zs : List Zn} {ss : List Stp} {w : World}
    (h : CfOk w pA lA sA tA uA dA qA kA zA pts lks sys ts us ds qs dcs zs sc) (hs : Rd encSp 3 w w.heap.size xA ss) (hsl : ss.length ≤ 9223372036854775807) (hxi : xi.size ≤ 1000000000000000000) (hl0 : 0 ≤ lv) (hl1 : lv ≤ 255) (he0 : 0 ≤ er) (he1 : er ≤ 65535) :
    Calls Tryz.prog 6 #[.agg #[.slice pA pts.length pc, .slice lA lks.length lc, .slice sA sys.length sc, o3, o4, o5, o6, o7, .slice tA ts.length tc, .int .i64 pe, .slice uA us.length uc, .slice dA ds.length dc, .slice qA qs.length qc, .slice kA dcs.length kc, o14, .slice zA zs.length zc, o16, o17, o18, o19, o20, o21, o22, o23, o24], .agg #[.string xi, .string xv, .string xy, .int .i64 cl, .slice xA ss.length xc], .int .u8 lv, .int .u16 er] w fun e w' => e = .returned (.bool true) ∧ Below w.heap.size w w' := by
  obtain ⟨Y1, hY1⟩ : ∃ Y, w.alloc (.cells #[.slice pA pts.length pc, .slice lA lks.length lc, .slice sA sys.length sc, o3, o4, o5, o6, o7, .slice tA ts.length tc, .int .i64 pe, .slice uA us.length uc, .slice dA ds.length dc, .slice qA qs.length qc, .slice kA dcs.length kc, o14, .slice zA zs.length zc, o16, o17, o18, o19, o20, o21, o22, o23, o24] 46) = Y := ⟨_, rfl⟩
  obtain ⟨Y2, hY2⟩ : ∃ Y, Y1.alloc (.cells #[.string xi, .string xv, .string xy, .int .i64 cl, .slice xA ss.length xc] 49) = Y := ⟨_, rfl⟩
  have bW : Below w.heap.size w Y2 := by rw [← hY2, ← hY1]; exact ((Below.refl _ w).al _).al _
  have BP : Blk Y2 w.heap.size #[.slice pA pts.length pc, .slice lA lks.length lc, .slice sA sys.length sc, o3, o4, o5, o6, o7, .slice tA ts.length tc, .int .i64 pe, .slice uA us.length uc, .slice dA ds.length dc, .slice qA qs.length qc, .slice kA dcs.length kc, o14, .slice zA zs.length zc, o16, o17, o18, o19, o20, o21, o22, o23, o24] 46 := by rw [← hY2, ← hY1]; exact (Blk.new w _ _).alloc _
  have BT : Blk Y2 Y1.heap.size #[.string xi, .string xv, .string xy, .int .i64 cl, .slice xA ss.length xc] 49 := by rw [← hY2]; exact Blk.new Y1 _ _
  have CR := Lib.hid (right3_any pc lc sc tc uc dc qc kc zc pe o3 o4 o5 o6 o7 o14 o16 o17 o18 o19 o20 o21 o22 o23 o24 (h.st bW))
  have CJ := Lib.hid (fun (X : World) (hX : Below w.heap.size w X) => journey_any pc lc sc tc uc dc qc kc zc xc pe o3 o4 o5 o6 o7 o14 o16 o17 o18 o19 o20 o21 o22 o23 o24 xi xv xy cl (h.st hX) (hs.st hX))
  have C1 := Lib.hid (fun (X : World) (hX : Below w.heap.size w X) (hr : RightA pe us ds qs ts dcs zs) (hj : TripOk xv cl ss ∧ ss.length ≤ 40) => ptrip_any tc uc dc qc kc xc pe (.slice pA pts.length pc) (.slice lA lks.length lc) (.slice sA sys.length sc) o3 o4 o5 o6 o7 o14 (.slice zA zs.length zc) o16 o17 o18 o19 o20 o21 o22 o23 o24 xi xv xy cl lv er (h.st hX).t (right_ta hr.t (h.st hX).ta).1 (right_ta hr.t (h.st hX).ta).2 hr.c hr.s (h.st hX).u (h.st hX).d (h.st hX).q (h.st hX).k hr.k (hs.st hX) (by omega) hj.1.2.2.1 hxi)
  have C2 := Lib.hid (fun (X : World) (hX : Below w.heap.size w X) (hr : RightA pe us ds qs ts dcs zs) (hj : TripOk xv cl ss ∧ ss.length ≤ 40) => rtrip_any tc uc dc qc kc xc pe (.slice pA pts.length pc) (.slice lA lks.length lc) (.slice sA sys.length sc) o3 o4 o5 o6 o7 o14 (.slice zA zs.length zc) o16 o17 o18 o19 o20 o21 o22 o23 o24 xi xv xy cl lv er (h.st hX).t (right_ta hr.t (h.st hX).ta).1 (right_ta hr.t (h.st hX).ta).2 hr.c hr.s (h.st hX).u (h.st hX).d (h.st hX).q (h.st hX).k hr.k (hs.st hX) (by omega) hj.1.2.2.1 hxi)
  have wl : IntKind.i64.wrap lv = lv := IntWalk.i64_in _ (by omega)
  have we : IntKind.i64.wrap er = er := IntWalk.i64_in _ (by omega)
  clear h hs
  go_enter Tryz.func6, Tryz.ntmps6
  go_wp2_with (first | (refine wpList_boxLoad rfl (ty := 46) (x := .tmp 4) (cs := #[.slice pA pts.length pc, .slice lA lks.length lc, .slice sA sys.length sc, o3, o4, o5, o6, o7, .slice tA ts.length tc, .int .i64 pe, .slice uA us.length uc, .slice dA ds.length dc, .slice qA qs.length qc, .slice kA dcs.length kc, o14, .slice zA zs.length zc, o16, o17, o18, o19, o20, o21, o22, o23, o24]) rfl (BP) rfl ⟨_, Tryz.underlying46, by kernel_rfl⟩ ?_))
  refine CR.out.mono ?_
  rintro e W2 ⟨⟨b, rfl, hr⟩, hbn⟩
  have bW := bW.st hbn
  have BP := BP.below hbn BP.lt
  have BT := BT.below hbn BT.lt
  clear hbn CR hY1 hY2
  cases b with
  | false =>
    clear hr
    go_wp2_with fail; refine (awake_any _).mono ?_; rintro e wl ⟨rfl, hbl⟩; have bL := (bW).st hbl; go_wp2_with fail; go_ret; exact ⟨rfl, bL⟩
  | true =>
    have HR := Lib.hid (hr rfl)
    have CJX := Lib.hid (CJ.out _ bW)
    clear hr
    go_wp2_with (first | (refine wpList_boxLoadG (by first | rfl | kernel_rfl) (ty := 46) (x := .tmp 4) (cs := #[.slice pA pts.length pc, .slice lA lks.length lc, .slice sA sys.length sc, o3, o4, o5, o6, o7, .slice tA ts.length tc, .int .i64 pe, .slice uA us.length uc, .slice dA ds.length dc, .slice qA qs.length qc, .slice kA dcs.length kc, o14, .slice zA zs.length zc, o16, o17, o18, o19, o20, o21, o22, o23, o24]) rfl (BP) rfl ⟨_, Tryz.underlying46, by kernel_rfl⟩ ?_) | (refine wpList_boxLoadG (by first | rfl | kernel_rfl) (ty := 49) (x := .tmp 5) (cs := #[.string xi, .string xv, .string xy, .int .i64 cl, .slice xA ss.length xc]) rfl (BT) rfl ⟨_, Tryz.underlying49, by kernel_rfl⟩ ?_))
    refine CJX.out.mono ?_
    rintro e W3 ⟨⟨b, rfl, hj⟩, hbn⟩
    have bW := bW.st hbn
    have BP := BP.below hbn BP.lt
    have BT := BT.below hbn BT.lt
    clear hbn CJ CJX
    cases b with
    | false =>
      clear hj
      go_wp2_with fail; refine (awake_any _).mono ?_; rintro e wl ⟨rfl, hbl⟩; have bL := (bW).st hbl; go_wp2_with fail; go_ret; exact ⟨rfl, bL⟩
    | true =>
      have HJ := Lib.hid (hj rfl)
      clear hj
      by_cases q1 : 8 < lv
      · go_wp2_with fail; refine (awake_any _).mono ?_; rintro e wl ⟨rfl, hbl⟩; have bL := (bW).st hbl; go_wp2_with fail; go_ret; exact ⟨rfl, bL⟩
      have q1d : decide (8 < lv) = false := decide_eq_false q1
      by_cases q2 : 1000 < er
      · go_wp2_with fail; refine (awake_any _).mono ?_; rintro e wl ⟨rfl, hbl⟩; have bL := (bW).st hbl; go_wp2_with fail; go_ret; exact ⟨rfl, bL⟩
      have q2d : decide (1000 < er) = false := decide_eq_false q2
      have CA := Lib.hid (C1.out _ bW HR.out HJ.out)
      clear C1
      go_wp2_with (first | (refine wpList_boxLoad rfl (ty := 46) (x := .tmp 4) (cs := #[.slice pA pts.length pc, .slice lA lks.length lc, .slice sA sys.length sc, o3, o4, o5, o6, o7, .slice tA ts.length tc, .int .i64 pe, .slice uA us.length uc, .slice dA ds.length dc, .slice qA qs.length qc, .slice kA dcs.length kc, o14, .slice zA zs.length zc, o16, o17, o18, o19, o20, o21, o22, o23, o24]) rfl (BP) rfl ⟨_, Tryz.underlying46, by kernel_rfl⟩ ?_) | (refine wpList_boxLoad rfl (ty := 49) (x := .tmp 5) (cs := #[.string xi, .string xv, .string xy, .int .i64 cl, .slice xA ss.length xc]) rfl (BT) rfl ⟨_, Tryz.underlying49, by kernel_rfl⟩ ?_))
      refine CA.out.mono ?_
      rintro e W4 ⟨v, er2, A, c, hS, rfl, hrd, hbn⟩
      have bW := bW.st hbn
      have BP := BP.below hbn BP.lt
      have BT := BT.below hbn BT.lt
      have HS := Lib.hid hS
      have HRD := Lib.hid hrd
      clear hbn CA hS hrd
      simp only [CHV]
      go_wp2_with (first | (refine wpList_boxLoad rfl (ty := 46) (x := .tmp 4) (cs := #[.slice pA pts.length pc, .slice lA lks.length lc, .slice sA sys.length sc, o3, o4, o5, o6, o7, .slice tA ts.length tc, .int .i64 pe, .slice uA us.length uc, .slice dA ds.length dc, .slice qA qs.length qc, .slice kA dcs.length kc, o14, .slice zA zs.length zc, o16, o17, o18, o19, o20, o21, o22, o23, o24]) rfl (BP.alloc _) rfl ⟨_, Tryz.underlying46, by kernel_rfl⟩ ?_) | (refine wpList_boxLoad rfl (ty := 49) (x := .tmp 5) (cs := #[.string xi, .string xv, .string xy, .int .i64 cl, .slice xA ss.length xc]) rfl (BT.alloc _) rfl ⟨_, Tryz.underlying49, by kernel_rfl⟩ ?_))
      obtain ⟨W5, hW5⟩ : ∃ Y, W4.alloc (.cells #[.string v.key, .string v.veh, .string v.sys, .int .i64 v.cls, .int .i64 v.tm, .slice A v.lns.length c, .int .i64 v.ct] 66) = Y := ⟨_, rfl⟩
      have b5 : Below W4.heap.size W4 W5 := by rw [← hW5]; exact (Below.refl _ _).al _
      have BV : Blk W5 W4.heap.size #[.string v.key, .string v.veh, .string v.sys, .int .i64 v.cls, .int .i64 v.tm, .slice A v.lns.length c, .int .i64 v.ct] 66 := by rw [← hW5]; exact Blk.new W4 _ _
      rw [hW5]
      have bW := bW.st b5
      have HRD := Lib.hid (HRD.out.st b5)
      clear b5 hW5 BP BT
      refine (C2.out _ bW HR.out HJ.out).mono ?_
      rintro e W6 ⟨v2, er3, A2, c2, hS2, rfl, hrd2, hbn⟩
      obtain ⟨rfl, rfl⟩ := HS.out.unique hS2
      have bW := bW.st hbn
      have BV := BV.below hbn BV.lt
      have HRD := Lib.hid (HRD.out.st hbn)
      have HRD2 := Lib.hid hrd2
      have HLEN := Lib.hid hS2.len
      clear hbn C2 hS2 hrd2
      simp only [CHV]
      go_wp2_with (first | (refine wpList_boxLoad rfl (ty := 66) (x := .tmp 9) (cs := #[.string v.key, .string v.veh, .string v.sys, .int .i64 v.cls, .int .i64 v.tm, .slice A v.lns.length c, .int .i64 v.ct]) rfl (BV.alloc _) rfl ⟨_, Tryz.underlying66, by kernel_rfl⟩ ?_) | (refine wpList_boxLoad rfl (ty := 66) (x := .tmp 11) (cs := #[.string v.key, .string v.veh, .string v.sys, .int .i64 v.cls, .int .i64 v.tm, .slice A2 v.lns.length c2, .int .i64 v.ct]) rfl (Blk.new W6 _ _) rfl ⟨_, Tryz.underlying66, by kernel_rfl⟩ ?_))
      have CO := rone_true v c c2 (HRD.out.st ((Below.refl _ W6).al (.cells #[.string v.key, .string v.veh, .string v.sys, .int .i64 v.cls, .int .i64 v.tm, .slice A2 v.lns.length c2, .int .i64 v.ct] 66))) (HRD2.out.st ((Below.refl _ W6).al (.cells #[.string v.key, .string v.veh, .string v.sys, .int .i64 v.cls, .int .i64 v.tm, .slice A2 v.lns.length c2, .int .i64 v.ct] 66))) (by have := HLEN.out; have := HR.out.k.few; omega)
      simp only [CHV] at CO
      have bX := bW.st ((Below.refl _ W6).al (.cells #[.string v.key, .string v.veh, .string v.sys, .int .i64 v.cls, .int .i64 v.tm, .slice A2 v.lns.length c2, .int .i64 v.ct] 66))
      refine CO.mono ?_
      rintro e W7 ⟨rfl, hbn⟩
      have bW := bX.st hbn
      clear hbn bX CO
      go_wp2_with fail; refine (awake_any _).mono ?_; rintro e wl ⟨rfl, hbl⟩; have bL := (bW).st hbl; go_wp2_with fail; go_ret; exact ⟨rfl, bL⟩
end Go.Proofs.YtcpfiiapfggmpaaGreat
