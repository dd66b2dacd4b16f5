/- The law PriceLeast, walked. -/
import Derived.Test.YtcpfiiapfggmpaaGreatTrpR
import Derived.Test.YtcpfiiapfggmpaaGreatTarLaw
import Derived.Test.YtcpfiiapfggmpaaGreatJTrpLen
import Derived.Test.YtcpfiiapfggmpaaGreatJTrpLeastM
import Derived.Test.YtcpfiiapfggmpaaGreatTrpRApp
import Derived.Deep.DeepCutAuto
set_option linter.unusedSimpArgs false
set_option linter.unusedSimpArgs false
namespace Go.Proofs.YtcpfiiapfggmpaaGreat
open Go.RowKit Go.Lib

set_option maxRecDepth 100000 in
set_option maxHeartbeats 16000000 in
theorem priceLeast_walk {pA lA sA tA uA dA qA kA zA xA : Option Addr} (pc lc sc tc uc dc qc kc zc xc : Nat) (pe : Int) (o3 o4 o5 o6 o7 o14 o16 o17 o18 o19 o20 o21 o22 o23 o24 : Value) (xi xv xy : ByteArray) (cl lv er m0 : Int) {pts : List Pt} {lks : List Lk} {sys : List Sy} {ts : List Ta} {us ds qs : List Int} {dcs : List Dc} {zs : List Zn} {ss : List Stp} {w : World}
    (h : CfOk w pA lA sA tA uA dA qA kA zA pts lks sys ts us ds qs dcs zs sc) (hs : Rd encSp 3 w w.heap.size xA ss) (hsl : ss.length ≤ 9223372036854775807) (hxi : xi.size ≤ 1000000000000000000) (hl0 : 0 ≤ lv) (hl1 : lv ≤ 255) (he0 : 0 ≤ er) (he1 : er ≤ 65535) (hm0 : 0 ≤ m0) (hm1 : m0 ≤ 65535) :
    Calls Tryz.prog 7 #[.agg #[.slice pA pts.length pc, .slice lA lks.length lc, .slice sA sys.length sc, o3, o4, o5, o6, o7, .slice tA ts.length tc, .int .i64 pe, .slice uA us.length uc, .slice dA ds.length dc, .slice qA qs.length qc, .slice kA dcs.length kc, o14, .slice zA zs.length zc, o16, o17, o18, o19, o20, o21, o22, o23, o24], .agg #[.string xi, .string xv, .string xy, .int .i64 cl, .slice xA ss.length xc], .int .u8 lv, .int .u16 er, .int .u16 m0] w fun e w' => e = .returned (.bool true) ∧ Below w.heap.size w w' := by
  obtain ⟨Y1, hY1⟩ : ∃ Y, w.alloc (.cells #[.slice pA pts.length pc, .slice lA lks.length lc, .slice sA sys.length sc, o3, o4, o5, o6, o7, .slice tA ts.length tc, .int .i64 pe, .slice uA us.length uc, .slice dA ds.length dc, .slice qA qs.length qc, .slice kA dcs.length kc, o14, .slice zA zs.length zc, o16, o17, o18, o19, o20, o21, o22, o23, o24] 46) = Y := ⟨_, rfl⟩
  obtain ⟨Y2, hY2⟩ : ∃ Y, Y1.alloc (.cells #[.string xi, .string xv, .string xy, .int .i64 cl, .slice xA ss.length xc] 49) = Y := ⟨_, rfl⟩
  have bW : Below w.heap.size w Y2 := by rw [← hY2, ← hY1]; exact ((Below.refl _ w).al _).al _
  have BP : Blk Y2 w.heap.size #[.slice pA pts.length pc, .slice lA lks.length lc, .slice sA sys.length sc, o3, o4, o5, o6, o7, .slice tA ts.length tc, .int .i64 pe, .slice uA us.length uc, .slice dA ds.length dc, .slice qA qs.length qc, .slice kA dcs.length kc, o14, .slice zA zs.length zc, o16, o17, o18, o19, o20, o21, o22, o23, o24] 46 := by rw [← hY2, ← hY1]; exact (Blk.new w _ _).alloc _
  have BT : Blk Y2 Y1.heap.size #[.string xi, .string xv, .string xy, .int .i64 cl, .slice xA ss.length xc] 49 := by rw [← hY2]; exact Blk.new Y1 _ _
  have CR := Lib.hid (right3_any pc lc sc tc uc dc qc kc zc pe o3 o4 o5 o6 o7 o14 o16 o17 o18 o19 o20 o21 o22 o23 o24 (h.st bW))
  have CJ := Lib.hid (fun (X : World) (hX : Below w.heap.size w X) => journey_any pc lc sc tc uc dc qc kc zc xc pe o3 o4 o5 o6 o7 o14 o16 o17 o18 o19 o20 o21 o22 o23 o24 xi xv xy cl (h.st hX) (hs.st hX))
  have C1 := Lib.hid (fun (X : World) (hX : Below w.heap.size w X) (hr : RightA pe us ds qs ts dcs zs) (hj : TripOk xv cl ss ∧ ss.length ≤ 40) => ptrip_any tc uc dc qc kc xc pe (.slice pA pts.length pc) (.slice lA lks.length lc) (.slice sA sys.length sc) o3 o4 o5 o6 o7 o14 (.slice zA zs.length zc) o16 o17 o18 o19 o20 o21 o22 o23 o24 xi xv xy cl lv er (h.st hX).t (right_ta hr.t (h.st hX).ta).1 (right_ta hr.t (h.st hX).ta).2 hr.c hr.s (h.st hX).u (h.st hX).d (h.st hX).q (h.st hX).k hr.k (hs.st hX) (by omega) hj.1.2.2.1 hxi)
  have C2 := Lib.hid (fun (X : World) (hX : Below w.heap.size w X) (hr : RightA pe us ds qs ts dcs zs) => pbase_any tc xc (.slice pA pts.length pc) (.slice lA lks.length lc) (.slice sA sys.length sc) o3 o4 o5 o6 o7 (.int .i64 pe) (.slice uA us.length uc) (.slice dA ds.length dc) (.slice qA qs.length qc) (.slice kA dcs.length kc) o14 (.slice zA zs.length zc) o16 o17 o18 o19 o20 o21 o22 o23 o24 xi xv xy cl (h.st hX).t (right_ta hr.t (h.st hX).ta).1 (right_ta hr.t (h.st hX).ta).2 (hs.st hX) hsl)
  have C3 := Lib.hid (fun (X : World) (hX : Below w.heap.size w X) (hr : RightA pe us ds qs ts dcs zs) => rpart_any uc dc qc pe lv hr.s (h.st hX).u (h.st hX).d (h.st hX).q)
  have C4 := Lib.hid (fun (s0 : Stp) (hs0 : ss[0]? = some s0) (X : World) (hX : Below w.heap.size w X) (hr : RightA pe us ds qs ts dcs zs) (hj : TripOk xv cl ss ∧ ss.length ≤ 40) => rappl_any tc uc dc qc kc xc pe (.slice pA pts.length pc) (.slice lA lks.length lc) (.slice sA sys.length sc) o3 o4 o5 o6 o7 o14 (.slice zA zs.length zc) o16 o17 o18 o19 o20 o21 o22 o23 o24 xi xv xy cl er (ts := ts) (us := us) (ds := ds) (qs := qs) (tA := tA) (uA := uA) (dA := dA) (qA := qA) (h.st hX).k hr.k (hs.st hX) (by omega) hs0)
  obtain ⟨m, hmn⟩ := Int.eq_ofNat_of_zero_le hm0
  subst hmn
  have wm : IntKind.i64.wrap (m : Int) = (m : Int) := IntWalk.i64_in _ (by omega)
  have wl : IntKind.i64.wrap lv = lv := IntWalk.i64_in _ (by omega)
  have we : IntKind.i64.wrap er = er := IntWalk.i64_in _ (by omega)
  clear h hs
  go_enter Tryz.func7, Tryz.ntmps7
  go_wp2_with (first | (refine wpList_boxLoad rfl (ty := 46) (x := .tmp 5) (cs := #[.slice pA pts.length pc, .slice lA lks.length lc, .slice sA sys.length sc, o3, o4, o5, o6, o7, .slice tA ts.length tc, .int .i64 pe, .slice uA us.length uc, .slice dA ds.length dc, .slice qA qs.length qc, .slice kA dcs.length kc, o14, .slice zA zs.length zc, o16, o17, o18, o19, o20, o21, o22, o23, o24]) rfl (BP) rfl ⟨_, Tryz.underlying46, by kernel_rfl⟩ ?_))
  refine CR.out.mono ?_
  rintro e W2 ⟨⟨b, rfl, hr⟩, hbn⟩
  have bW := bW.st hbn
  have BP := BP.below hbn BP.lt
  have BT := BT.below hbn BT.lt
  clear hbn CR hY1 hY2
  cases b with
  | false =>
    clear hr
    go_wp2_with fail; refine (awake_any _).mono ?_; rintro e wl ⟨rfl, hbl⟩; have bL := (bW).st hbl; go_wp2_with fail; go_ret; exact ⟨rfl, bL⟩
  | true =>
    have HR := Lib.hid (hr rfl)
    have CJX := Lib.hid (CJ.out _ bW)
    clear hr
    go_wp2_with (first | (refine wpList_boxLoadG (by first | rfl | kernel_rfl) (ty := 46) (x := .tmp 5) (cs := #[.slice pA pts.length pc, .slice lA lks.length lc, .slice sA sys.length sc, o3, o4, o5, o6, o7, .slice tA ts.length tc, .int .i64 pe, .slice uA us.length uc, .slice dA ds.length dc, .slice qA qs.length qc, .slice kA dcs.length kc, o14, .slice zA zs.length zc, o16, o17, o18, o19, o20, o21, o22, o23, o24]) rfl (BP) rfl ⟨_, Tryz.underlying46, by kernel_rfl⟩ ?_) | (refine wpList_boxLoadG (by first | rfl | kernel_rfl) (ty := 49) (x := .tmp 6) (cs := #[.string xi, .string xv, .string xy, .int .i64 cl, .slice xA ss.length xc]) rfl (BT) rfl ⟨_, Tryz.underlying49, by kernel_rfl⟩ ?_))
    refine CJX.out.mono ?_
    rintro e W3 ⟨⟨b, rfl, hj⟩, hbn⟩
    have bW := bW.st hbn
    have BP := BP.below hbn BP.lt
    have BT := BT.below hbn BT.lt
    clear hbn CJ CJX
    cases b with
    | false =>
      clear hj
      go_wp2_with fail; refine (awake_any _).mono ?_; rintro e wl ⟨rfl, hbl⟩; have bL := (bW).st hbl; go_wp2_with fail; go_ret; exact ⟨rfl, bL⟩
    | true =>
      have HJ := Lib.hid (hj rfl)
      clear hj
      by_cases q1 : 8 < lv
      · go_wp2_with fail; refine (awake_any _).mono ?_; rintro e wl ⟨rfl, hbl⟩; have bL := (bW).st hbl; go_wp2_with fail; go_ret; exact ⟨rfl, bL⟩
      have q1d : decide (8 < lv) = false := decide_eq_false q1
      by_cases q2 : 1000 < er
      · go_wp2_with fail; refine (awake_any _).mono ?_; rintro e wl ⟨rfl, hbl⟩; have bL := (bW).st hbl; go_wp2_with fail; go_ret; exact ⟨rfl, bL⟩
      have q2d : decide (1000 < er) = false := decide_eq_false q2
      have CA := Lib.hid (C1.out _ bW HR.out HJ.out)
      clear C1
      go_wp2_with (first | (refine wpList_boxLoad rfl (ty := 46) (x := .tmp 5) (cs := #[.slice pA pts.length pc, .slice lA lks.length lc, .slice sA sys.length sc, o3, o4, o5, o6, o7, .slice tA ts.length tc, .int .i64 pe, .slice uA us.length uc, .slice dA ds.length dc, .slice qA qs.length qc, .slice kA dcs.length kc, o14, .slice zA zs.length zc, o16, o17, o18, o19, o20, o21, o22, o23, o24]) rfl (BP) rfl ⟨_, Tryz.underlying46, by kernel_rfl⟩ ?_) | (refine wpList_boxLoad rfl (ty := 49) (x := .tmp 6) (cs := #[.string xi, .string xv, .string xy, .int .i64 cl, .slice xA ss.length xc]) rfl (BT) rfl ⟨_, Tryz.underlying49, by kernel_rfl⟩ ?_))
      refine CA.out.mono ?_
      rintro e W4 ⟨v, er2, A, c, hS, rfl, hrd, hbn⟩
      have bW := bW.st hbn
      have BP := BP.below hbn BP.lt
      have BT := BT.below hbn BT.lt
      have HS := Lib.hid hS
      have HRD := Lib.hid hrd
      clear hbn CA hS hrd
      simp only [CHV]
      by_cases hz : er2 = 0
      case' neg =>
        have hne : (er2 != 0) = true := by simp [hz]
        clear hz C2 C3 C4
        go_wp2_with fail; refine (awake_any _).mono ?_; rintro e wl ⟨rfl, hbl⟩; have bL := (bW.al _).st hbl; go_wp2_with fail; go_ret; exact ⟨rfl, bL⟩
      subst hz
      obtain ⟨s0, hss0⟩ : ∃ s0, ss[0]? = some s0 := ⟨_, List.getElem?_eq_getElem HJ.out.1.2.2.1⟩
      obtain ⟨hb2, hn2, b, hpaid⟩ := HS.out.paid HJ.out.1 HR.out.k HR.out.c (partM_bnd HR.out.s lv).1 hss0
      have C2 := Lib.hid (fun (X : World) (hX : Below w.heap.size w X) => C2.out X hX HR.out)
      have C3 := Lib.hid (fun (X : World) (hX : Below w.heap.size w X) => C3.out X hX HR.out)
      have C4 := Lib.hid (fun (X : World) (hX : Below w.heap.size w X) => C4.out s0 hss0 X hX HR.out HJ.out)
      have hnb := baseM_bnd HR.out.c cl ss
      have hqb := partM_bnd HR.out.s lv
      have hpb := nearP_bnd hnb.1 hqb.1
      have CQ := Lib.hid (fun (X : World) => rnear_any hnb.1 hnb.2 hqb.1 hqb.2 X)
      have HLN := Lib.hid HS.out.len
      have HLO := Lib.hid (appL_ok (sy := xy) (cl := cl) (t := s0.t) (er := er) HR.out.k)
      rw [hb2] at C2
      rw [hn2] at CQ
      obtain ⟨n, hn⟩ : ∃ n, (baseM ts cl ss).1 = n := ⟨_, rfl⟩
      rw [hn] at C2 CQ hpaid hpb
      obtain ⟨p, hp⟩ : ∃ p, (nearP n (partM qs lv)).1 = p := ⟨_, rfl⟩
      rw [hp] at CQ hpaid hpb
      obtain ⟨L, hL⟩ : ∃ L, appL xy cl s0.t er dcs = L := ⟨_, rfl⟩
      have HBE := Lib.hid hpaid.best
      have HCT := Lib.hid hpaid.ct
      have hck := hpaid.ck
      rw [hL] at C4 HLO HBE HCT
      generalize partM qs lv = pm at *
      have hrb := red_bnd HLO.out hpb.1 hpb.2 b
      have hctp : ¬ p < v.ct := by have := HCT.out; omega
      have hctd : decide (p < v.ct) = false := decide_eq_false hctp
      have CK := Lib.hid (fun (X : World) (hX : Rd encLn 2 X X.heap.size A v.lns) => pchk_any v c hX (by have := HLN.out; have := HR.out.k.few; omega))
      rw [hck] at CK
      have HHP := Lib.hid hpb
      clear hb2 hn2 hpaid hn hp hL hck hnb hqb hrb hpb hss0
      obtain ⟨W5, hW5⟩ : ∃ Y, W4.alloc (.cells #[.string v.key, .string v.veh, .string v.sys, .int .i64 v.cls, .int .i64 v.tm, .slice A v.lns.length c, .int .i64 v.ct] 66) = Y := ⟨_, rfl⟩
      have b5 : Below W4.heap.size W4 W5 := by rw [← hW5]; exact (Below.refl _ _).al _
      have BV : Blk W5 W4.heap.size #[.string v.key, .string v.veh, .string v.sys, .int .i64 v.cls, .int .i64 v.tm, .slice A v.lns.length c, .int .i64 v.ct] 66 := by rw [← hW5]; exact Blk.new W4 _ _
      have bW := bW.st b5
      have HRD := Lib.hid (HRD.out.st b5)
      have BP := BP.below b5 BP.lt
      have BT := BT.below b5 BT.lt
      clear b5
      go_wp2_with (first | (refine wpList_boxLoad rfl (ty := 46) (x := .tmp 5) (cs := #[.slice pA pts.length pc, .slice lA lks.length lc, .slice sA sys.length sc, o3, o4, o5, o6, o7, .slice tA ts.length tc, .int .i64 pe, .slice uA us.length uc, .slice dA ds.length dc, .slice qA qs.length qc, .slice kA dcs.length kc, o14, .slice zA zs.length zc, o16, o17, o18, o19, o20, o21, o22, o23, o24]) rfl (BP) rfl ⟨_, Tryz.underlying46, by kernel_rfl⟩ ?_) | (refine wpList_boxLoad rfl (ty := 49) (x := .tmp 6) (cs := #[.string xi, .string xv, .string xy, .int .i64 cl, .slice xA ss.length xc]) rfl (BT) rfl ⟨_, Tryz.underlying49, by kernel_rfl⟩ ?_))
      refine (C2.out _ bW).mono ?_
      rintro e W6 ⟨rfl, hbn⟩
      have bW := bW.st hbn
      have BP := BP.below hbn BP.lt
      have BT := BT.below hbn BT.lt
      have BV := BV.below hbn BV.lt
      have HRD := Lib.hid (HRD.out.st hbn)
      have g9 := BP.cell 9 (v := .int .i64 pe) rfl
      have g10 := BP.cell 10 (v := .slice uA us.length uc) rfl
      have g11 := BP.cell 11 (v := .slice dA ds.length dc) rfl
      have g12 := BP.cell 12 (v := .slice qA qs.length qc) rfl
      clear hbn C2 hW5
      go_wp2_with fail
      refine (C3.out _ bW).mono ?_
      rintro e W7 ⟨rfl, hbn⟩
      have bW := bW.st hbn
      have BP := BP.below hbn BP.lt
      have BT := BT.below hbn BT.lt
      have BV := BV.below hbn BV.lt
      have HRD := Lib.hid (HRD.out.st hbn)
      clear hbn C3 g9 g10 g11 g12
      go_wp2_with fail
      refine (CQ.out _).mono ?_
      rintro e w' ⟨rfl, kq, hw'⟩
      obtain ⟨W8, hW8⟩ : ∃ X, W7.drewN kq = X := ⟨_, rfl⟩
      rw [hW8] at hw'
      rw [hw']
      have bW : Below w.heap.size w W8 := by rw [← hW8]; exact below_drewN bW kq
      have BP : Blk W8 w.heap.size #[.slice pA pts.length pc, .slice lA lks.length lc, .slice sA sys.length sc, o3, o4, o5, o6, o7, .slice tA ts.length tc, .int .i64 pe, .slice uA us.length uc, .slice dA ds.length dc, .slice qA qs.length qc, .slice kA dcs.length kc, o14, .slice zA zs.length zc, o16, o17, o18, o19, o20, o21, o22, o23, o24] 46 := by rw [← hW8]; exact BP
      have BT : Blk W8 Y1.heap.size #[.string xi, .string xv, .string xy, .int .i64 cl, .slice xA ss.length xc] 49 := by rw [← hW8]; exact BT
      have BV : Blk W8 W4.heap.size #[.string v.key, .string v.veh, .string v.sys, .int .i64 v.cls, .int .i64 v.tm, .slice A v.lns.length c, .int .i64 v.ct] 66 := by rw [← hW8]; exact BV
      have HRD : Hid (Rd encLn 2 W8 W8.heap.size A v.lns) := Lib.hid (by rw [← hW8]; exact HRD.out)
      clear hw' w' hW8 CQ
      have v6 := BV.cell 6 (v := .int .i64 v.ct) rfl
      have CKX := CK.out _ HRD.out
      simp only [CHV] at CKX
      have CKX := Lib.hid CKX
      clear CK
      go_wp2_with (first | (refine wpList_boxLoadG (by first | rfl | kernel_rfl) (ty := 66) (x := .tmp 11) (cs := #[.string v.key, .string v.veh, .string v.sys, .int .i64 v.cls, .int .i64 v.tm, .slice A v.lns.length c, .int .i64 v.ct]) rfl (BV) rfl ⟨_, Tryz.underlying66, by kernel_rfl⟩ ?_))
      refine CKX.out.mono ?_
      rintro e W9 ⟨rfl, hbn⟩
      have bW := bW.st hbn
      have BP := BP.below hbn BP.lt
      have BT := BT.below hbn BT.lt
      have BV := BV.below hbn BV.lt
      clear hbn CKX v6
      have v6 := BV.cell 6 (v := .int .i64 v.ct) rfl
      go_wp2_with (first | (refine wpList_boxLoad rfl (ty := 46) (x := .tmp 5) (cs := #[.slice pA pts.length pc, .slice lA lks.length lc, .slice sA sys.length sc, o3, o4, o5, o6, o7, .slice tA ts.length tc, .int .i64 pe, .slice uA us.length uc, .slice dA ds.length dc, .slice qA qs.length qc, .slice kA dcs.length kc, o14, .slice zA zs.length zc, o16, o17, o18, o19, o20, o21, o22, o23, o24]) rfl (BP) rfl ⟨_, Tryz.underlying46, by kernel_rfl⟩ ?_) | (refine wpList_boxLoad rfl (ty := 49) (x := .tmp 6) (cs := #[.string xi, .string xv, .string xy, .int .i64 cl, .slice xA ss.length xc]) rfl (BT) rfl ⟨_, Tryz.underlying49, by kernel_rfl⟩ ?_))
      refine (C4.out _ bW).mono ?_
      rintro e W10 ⟨LA, lac, rfl, hown, hbn⟩
      have HBW := Lib.hid (bW.st hbn)
      have HBV := Lib.hid (BV.below hbn BV.lt)
      have HRL := Lib.hid (hown.rd encDc_ok)
      clear hbn C4 BP BT BV hown v6 bW HRD
      have hf12 : L.length ≤ 12 := HLO.out.few
      obtain ⟨hpb1, hpb2⟩ := HHP.out
      obtain ⟨W11, hW11⟩ : ∃ Y, W10.alloc (.cells #[] 9) = Y := ⟨_, rfl⟩
      have HOG0 := Lib.hid (Own.lit (e := 9) (cs := #[]) W10 W10.heap.size ([] : List ByteArray) (g := W10.heap.size) encStr_ok rfl rfl (Nat.le_refl _) (by simp))
      rw [hW11] at HOG0
      have HB11 : Hid (Below W10.heap.size W10 W11) := Lib.hid (by rw [← hW11]; exact (Below.refl _ _).al _)
      clear hctp hctd
      go_wp2_with fail
      go_loopw [20, 18, 19] (fun sk sl sg wr => ∃ (k : Nat) (gA : Option Addr) (gc : Nat), k ≤ L.length ∧ sk = .int .i64 k ∧ sl = .int .i64 (sumA L p (bitsN k m)) ∧ sg = .slice gA (grL L (bitsN k m)).length gc ∧ Own 9 encStr 1 wr W10.heap.size gA gc (grL L (bitsN k m)) ∧ okTo L m k ∧ Below W10.heap.size W11 wr) (fun sk _ _ _ => L.length - (RowKit.intOf sk).toNat)
      case atStart => exact ⟨0, _, 0, Nat.zero_le _, rfl, rfl, rfl, HOG0.out, okTo.zero L m, Below.refl _ _⟩
      case round =>
        obtain ⟨wo, hwo⟩ : ∃ wo, wo = wr := ⟨_, rfl⟩
        rw [← hwo] at hrel ⊢
        clear hwo wr
        obtain ⟨k, gA, gc, hk, rfl, rfl, rfl, hown, hok, hbn⟩ := hrel
        have k1 : (0 : Int) ≤ (k : Int) := by omega
        have HOK := Lib.hid hok
        have HOW := Lib.hid hown
        have HBO := Lib.hid (HB11.out.trans hbn)
        have HBN := Lib.hid hbn
        have hsb := sumA_bnd HLO.out hpb1 hpb2 (bitsN k m)
        have hbl := bits_len k m
        have bW := HBW.out.st HBO.out
        clear hok hown hbn
        by_cases hi : k < L.length
        · have k2 : (k : Int) < (L.length : Int) := by omega
          have k16 : (k : Int) < 16 := by omega
          have k64 : (k : Int) ≤ 64 := by omega
          have wk : IntKind.u64.wrap (k : Int) = (k : Int) := by unfold IntKind.wrap; simp [IntKind.signed, IntKind.bits]; omega
          have HI := Lib.hid hi
          obtain ⟨lb, lo, x, hA2, hlb, hxl, hc⟩ := (HRL.out.keep HBO.out).at_ hi
          subst hA2
          have HGN : Hid (grN L k = x.gr) := Lib.hid (by unfold grN; rw [hxl])
          have HAN : Hid (amtN L p k = amtV x p) := Lib.hid (by unfold amtN; rw [hxl])
          have hab := amtV_bnd (HLO.out.mem (List.mem_of_getElem? hxl)) hpb1
          have CAM := Lib.hid (fun (X : World) => ramount_any (HLO.out.mem (List.mem_of_getElem? hxl)) hpb1 hpb2 X)
          have HFR := Lib.hid (fun (h : ∀ g ∈ grL L (bitsN k m), eqS g x.gr = false) => HOK.out.next (gr_free hxl (fun j hj => Nat.lt_trans (bitsN_lt hj) hi) h))
          have HSK := Lib.hid (fun (h : bitB m k = false) => HOK.out.skip h)
          have HBS := Lib.hid (bitsN_succ k m)
          have HGL : Hid ((grL L (bitsN k m)).length ≤ 12) := Lib.hid (by have := grL_len L (bitsN k m); omega)
          have HBT : Hid (bitB m k = decide (m / 2 ^ k % 2 = 1)) := Lib.hid rfl
          obtain ⟨q, hq⟩ : ∃ q, m / 2 ^ k = q := ⟨_, rfl⟩
          have hq1 : (m : Int) / 2 ^ (k : Int).toNat = (q : Int) := by rw [← hq, Int.toNat_natCast, Int.natCast_ediv, Int.natCast_pow]; rfl
          have hq2 : (m : Int) / 2 ^ k = (q : Int) := by rw [← hq, Int.natCast_ediv, Int.natCast_pow]; rfl
          rw [hq] at HBT
          have HOG := Lib.hid (And.intro (sumA_snoc L p (bitsN k m) k) (grL_snoc L (bitsN k m) k))
          rw [HGN.out, HAN.out] at HOG
          have d0 := hc 0 _ rfl
          have d1 := hc 1 _ rfl
          have d2 := hc 2 _ rfl
          have d3 := hc 3 _ rfl
          have d4 := hc 4 _ rfl
          have d5 := hc 5 _ rfl
          have d6 := hc 6 _ rfl
          have d7 := hc 7 _ rfl
          have d8 := hc 8 _ rfl
          have d9 := hc 9 _ rfl
          simp only [Nat.add_zero] at d0
          have HLB := Lib.hid hlb
          have HDD := Lib.hid (And.intro d0 (And.intro d1 (And.intro d2 (And.intro d3 (And.intro d4 (And.intro d5 (And.intro d6 (And.intro d7 (And.intro d8 d9)))))))))
          obtain ⟨C, hC⟩ : ∃ C, bitsN k m = C := ⟨_, rfl⟩
          obtain ⟨sm, hsm⟩ : ∃ s, sumA L p C = s := ⟨_, rfl⟩
          obtain ⟨G, hG⟩ : ∃ G, grL L C = G := ⟨_, rfl⟩
          rw [hC] at HOW HFR HBS HGL HOG hsb hbl ⊢
          rw [hsm] at HOG hsb ⊢
          rw [hG] at HOW HFR HGL HOG ⊢
          obtain ⟨am, hame⟩ : ∃ am, amtV x p = am := ⟨_, rfl⟩
          rw [hame] at CAM hab HOG
          have w1 : IntKind.i64.wrap (sm + am) = sm + am := IntWalk.i64_in _ (by omega)
          have HZ : Hid (sumA L p C = sm ∧ grL L C = G) := Lib.hid ⟨hsm, hG⟩
          clear hq hC hsm hG hame hi hk hc hxl hlb hab hsb hbl HOK HAN HGN
          by_cases hb : q % 2 = 1
          · have t2 : ((q : Int)).tmod 2 = 1 := by rw [tmod2, hb]; rfl
            have HB1 : Hid (bitB m k = true) := Lib.hid (by rw [HBT.out]; exact decide_eq_true hb)
            have HBS1 := Lib.hid (HBS.out.trans (if_pos HB1.out))
            clear hb HBT HSK HBS
            go_wp2_with fail
            have hgl : G.length ≤ 12 := HGL.out
            have RG := Lib.hid (HOW.out.rd encStr_ok)
            clear d0 d1 d2 d3 d4 d5 d6 d7 d8 d9
            go_loopw [21] (fun sj wr => ∃ j : Nat, j ≤ G.length ∧ sj = .int .i64 j ∧ (∃ u, wr = wo.drewN u) ∧ Hid (∀ g ∈ G.take j, eqS g x.gr = false)) (fun sj _ => G.length - (RowKit.intOf sj).toNat)
            case atStart => exact ⟨0, Nat.zero_le _, rfl, ⟨0, rfl⟩, (by unfold Hid; simp)⟩
            case round =>
              obtain ⟨j, hj, rfl, ⟨u, rfl⟩, HNO⟩ := hrel
              have j1 : (0 : Int) ≤ (j : Int) := by omega
              have kn : decide (k < L.length) = true := decide_eq_true HI.out
              have d3 := HDD.out.2.2.2.1
              by_cases hjg : j < G.length
              · have j2 : (j : Int) < (G.length : Int) := by omega
                have jn : decide (j < G.length) = true := decide_eq_true hjg
                have HJ := Lib.hid hjg
                obtain ⟨gb, go, g, hgA, hgb, hgx, hgc⟩ := RG.out.str hjg
                subst hgA
                have HGX := Lib.hid hgx
                have t0 : (g.toList == x.gr.toList) = eqS g x.gr := rfl
                clear hgb hgx hjg hj
                cases he : eqS g x.gr
                · rw [he] at t0
                  have HE := Lib.hid he
                  clear he
                  go_wp2_with fail
                  go_quiet (fail)
                  go_wp2_with fail
                  go_roundw
                  case rel => exact ⟨j + 1, HJ.out, by go_num, ⟨_, rfl⟩, Lib.hid (fun z hz => by rw [take_snoc HGX.out, List.mem_append] at hz; rcases hz with hz | hz; (exact HNO.out z hz); (rw [List.mem_singleton] at hz; subst hz; exact HE.out))⟩
                  case measure => have := HJ.out; simp [RowKit.intOf]; omega
                · rw [he] at t0
                  clear he
                  go_wp2_with fail
                  go_quiet (fail)
                  go_wp2_with fail; refine (awake_any _).mono ?_; rintro e wl ⟨rfl, hbl⟩; have bL := (below_drewN bW _).st hbl; go_wp2_with fail; go_ret; exact ⟨rfl, bL⟩
              · obtain rfl : j = G.length := by omega
                rw [List.take_length] at HNO
                have HNX := Lib.hid (HFR.out HNO.out)
                obtain ⟨Wn, hWn⟩ : ∃ X, wo.drewN u = X := ⟨_, rfl⟩
                rw [hWn]
                have hown : Own 9 encStr 1 Wn W10.heap.size gA gc G := by rw [← hWn]; exact HOW.out.drewN u
                have hbn : Below W10.heap.size W11 Wn := by rw [← hWn]; exact below_drewN HBN.out u
                have HBNn := Lib.hid hbn
                have hbs : W10.heap.size ≤ Wn.heap.size := Nat.le_trans HB11.out.size hbn.size
                have HDN : Hid (Wn.cell? ⟨lb, lo + k * 10, none⟩ = some (.string x.nm) ∧ Wn.cell? ⟨lb, lo + k * 10 + 1, none⟩ = some (.int .i64 x.kd) ∧ Wn.cell? ⟨lb, lo + k * 10 + 2, none⟩ = some (.int .i64 x.am) ∧ Wn.cell? ⟨lb, lo + k * 10 + 3, none⟩ = some (.string x.gr) ∧ Wn.cell? ⟨lb, lo + k * 10 + 4, none⟩ = some (.string x.sy) ∧ Wn.cell? ⟨lb, lo + k * 10 + 5, none⟩ = some (.int .i64 x.cl) ∧ Wn.cell? ⟨lb, lo + k * 10 + 6, none⟩ = some (.int .i64 x.wd) ∧ Wn.cell? ⟨lb, lo + k * 10 + 7, none⟩ = some (.int .i64 x.wf) ∧ Wn.cell? ⟨lb, lo + k * 10 + 8, none⟩ = some (.int .i64 x.wt) ∧ Wn.cell? ⟨lb, lo + k * 10 + 9, none⟩ = some (.int .i64 x.le)) := Lib.hid (by rw [← hWn]; exact HDD.out)
                have HOWn := Lib.hid hown
                obtain ⟨e0, e1, e2, e3, e4, e5, e6, e7, e8, e9⟩ := HDN.out
                clear hWn d3 hbn HFR hjg hj HDD
                cases ge : emp x.gr
                · obtain ⟨q1, q2, q3⟩ := toList_neE ge
                  have HG2 : Hid (grL L (C ++ [k]) = G ++ [x.gr]) := Lib.hid (by rw [HOG.out.2, ge]; rfl)
                  clear ge
                  go_wp2_with (at_builtin; refine wpList_app1 rfl (.tmp 132) (.tmp 138) tyStr encStr_ok rfl x.gr rfl _ rfl (by simp) hown rfl (by first | rfl | simp) (by first | omega | (simp; done) | (simp; omega)) (by first | omega | (simp; done) | (simp; omega)) hbs ?_; intro A9 c9 w9 hown9 hb9 hs9 hf9; have kp : ∀ (o : Nat) (y : Value), World.cell? Wn ⟨lb, o, none⟩ = some y → World.cell? w9 ⟨lb, o, none⟩ = some y := (fun o y h => (hb9.cell (p := ⟨lb, o, none⟩) HLB.out).trans h); have e0 := kp _ _ e0; have e1 := kp _ _ e1; have e2 := kp _ _ e2; have e3 := kp _ _ e3; have e4 := kp _ _ e4; have e5 := kp _ _ e5; have e6 := kp _ _ e6; have e7 := kp _ _ e7; have e8 := kp _ _ e8; have e9 := kp _ _ e9)
                  refine (CAM.out _).mono ?_
                  rintro e W12 ⟨rfl, hbn⟩
                  have HO12 := Lib.hid (hown9.keep hbn (Nat.le_refl _))
                  have HB12 := Lib.hid ((HBNn.out.trans hb9).trans (hbn.mono (Nat.le_trans hbs (Nat.le_of_lt hs9))))
                  clear hbn hown9 hb9 hf9 kp e0 e1 e2 e3 e4 e5 e6 e7 e8 e9
                  go_wp2_with fail
                  go_roundw
                  case rel => exact ⟨k + 1, A9, c9, HI.out, by go_num, by rw [HBS1.out, HOG.out.1], by rw [HBS1.out, HG2.out]; simp, by rw [HBS1.out, HG2.out]; exact HO12.out, HNX.out, HB12.out⟩
                  case measure => have := HI.out; simp [RowKit.intOf]; omega
                · obtain ⟨q1, q2, q3⟩ := toList_eE ge
                  have HG2 : Hid (grL L (C ++ [k]) = G) := Lib.hid (by rw [HOG.out.2, ge]; rfl)
                  clear ge
                  go_wp2_with fail
                  refine (CAM.out _).mono ?_
                  rintro e W12 ⟨rfl, hbn⟩
                  have HO12 := Lib.hid (HOWn.out.keep hbn (Nat.le_refl _))
                  have HB12 := Lib.hid (HBNn.out.trans (hbn.mono hbs))
                  clear hbn hown e0 e1 e2 e3 e4 e5 e6 e7 e8 e9
                  go_wp2_with fail
                  go_roundw
                  case rel => exact ⟨k + 1, gA, gc, HI.out, by go_num, by rw [HBS1.out, HOG.out.1], by rw [HBS1.out, HG2.out], by rw [HBS1.out, HG2.out]; exact HO12.out, HNX.out, HB12.out⟩
                  case measure => have := HI.out; simp [RowKit.intOf]; omega
          · have t2 : ((q : Int)).tmod 2 = 0 := by rw [tmod2, show q % 2 = 0 by omega]; rfl
            have HB1 : Hid (bitB m k = false) := Lib.hid (by rw [HBT.out]; exact decide_eq_false hb)
            have HBS0 : Hid (bitsN (k + 1) m = C) := Lib.hid (by rw [HBS.out, HB1.out]; rfl)
            clear hb HBT HBS
            go_wp2_with fail
            go_roundw
            case rel => exact ⟨k + 1, gA, gc, HI.out, by go_num, by rw [HBS0.out, HZ.out.1], by rw [HBS0.out, HZ.out.2], by rw [HBS0.out, HZ.out.2]; exact HOW.out, HSK.out HB1.out, HBN.out⟩
            case measure => have := HI.out; simp [RowKit.intOf]; omega
        · obtain rfl : k = L.length := by omega
          have hle := best_least HLO.out hpb1 hpb2 HBE.out HOK.out.cand
          rw [← HCT.out] at hle
          obtain ⟨sm, hsm⟩ : ∃ s, sumA L p (bitsN L.length m) = s := ⟨_, rfl⟩
          rw [hsm] at hle hsb ⊢
          have v6 := (HBV.out.below HBO.out HBV.out.lt).cell 6 (v := .int .i64 v.ct) rfl
          obtain ⟨mx, hmx⟩ : ∃ x, max (p - sm) 0 = x := ⟨_, rfl⟩
          rw [hmx] at hle
          have w1 : IntKind.i64.wrap (p - sm) = p - sm := IntWalk.i64_in _ (by omega)
          have hled : decide (v.ct ≤ mx) = true := decide_eq_true hle
          clear hsm
          go_wp2_with fail; refine (awake_any _).mono ?_; rintro e wl ⟨rfl, hbl⟩; have bL := (bW).st hbl; go_wp2_with fail; go_ret; exact ⟨rfl, bL⟩
end Go.Proofs.YtcpfiiapfggmpaaGreat
