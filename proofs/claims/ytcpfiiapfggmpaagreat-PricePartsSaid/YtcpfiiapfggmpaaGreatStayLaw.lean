/- The law PriceStays, walked. -/
import Derived.Test.YtcpfiiapfggmpaaGreatStayR
import Derived.Test.YtcpfiiapfggmpaaGreatJNetRight
import Derived.Test.YtcpfiiapfggmpaaGreatNetShort
import Derived.Test.YtcpfiiapfggmpaaGreatJPrcSame
import Derived.Test.YtcpfiiapfggmpaaGreatPrcAwake
set_option linter.unusedSimpArgs false
set_option linter.unusedSimpArgs false
namespace Go.Proofs.YtcpfiiapfggmpaaGreat
open Go.RowKit Go.Lib

theorem StayR.len {zs : List Zn} {id zn pl : ByteArray} {t : Int} {us : List Iv} {v : CV} {e : Int} (h : StayR zs id zn pl t us v e) : v.lns.length ≤ us.length := by
  cases h with
  | zone => exact Nat.zero_le _
  | fee => exact Nat.zero_le _
  | big => exact Nat.zero_le _
  | ok => rw [lnL_len]; exact Nat.le_refl _
theorem right_small {zs : List Zn} (h : RightB zs) : (∀ z ∈ zs, small z) ∧ zs.length ≤ 9223372036854775807 :=
  ⟨fun z hz => by have := h.2 z hz; unfold small; omega, by have := h.1; omega⟩

set_option maxRecDepth 100000 in
set_option maxHeartbeats 16000000 in
theorem priceStays_walk {pA lA sA tA uA dA qA kA zA iA : Option Addr} (pc lc sc tc uc dc qc kc zc ic : Nat) (pe : Int) (o3 o4 o5 o6 o7 o14 o16 o17 o18 o19 o20 o21 o22 o23 o24 : Value) (id zn pl : ByteArray) (tf tt : Int) {pts : List Pt} {lks : List Lk} {sys : List Sy} {ts : List Ta} {us ds qs : List Int} {dcs : List Dc} {zs : List Zn} {is : List Iv} {w : World}
    (h : CfOk w pA lA sA tA uA dA qA kA zA pts lks sys ts us ds qs dcs zs sc) (hi : Rd encIv 2 w w.heap.size iA is) (hil : is.length ≤ 9223372036854775807) (hid : id.size ≤ 1000000000000000000) :
    Calls Tryz.prog 4 #[.agg #[.slice pA pts.length pc, .slice lA lks.length lc, .slice sA sys.length sc, o3, o4, o5, o6, o7, .slice tA ts.length tc, .int .i64 pe, .slice uA us.length uc, .slice dA ds.length dc, .slice qA qs.length qc, .slice kA dcs.length kc, o14, .slice zA zs.length zc, o16, o17, o18, o19, o20, o21, o22, o23, o24], .agg #[.string id, .string zn, .string pl, .int .i64 tf, .int .i64 tt], .slice iA is.length ic] w fun e w' => e = .returned (.bool true) ∧ Below w.heap.size w w' := by
  obtain ⟨Y1, hY1⟩ : ∃ Y, w.alloc (.cells #[.slice pA pts.length pc, .slice lA lks.length lc, .slice sA sys.length sc, o3, o4, o5, o6, o7, .slice tA ts.length tc, .int .i64 pe, .slice uA us.length uc, .slice dA ds.length dc, .slice qA qs.length qc, .slice kA dcs.length kc, o14, .slice zA zs.length zc, o16, o17, o18, o19, o20, o21, o22, o23, o24] 46) = Y := ⟨_, rfl⟩
  obtain ⟨Y2, hY2⟩ : ∃ Y, Y1.alloc (.cells #[.string id, .string zn, .string pl, .int .i64 tf, .int .i64 tt] 61) = Y := ⟨_, rfl⟩
  have b1 : Below w.heap.size w Y1 := by rw [← hY1]; exact (Below.refl _ w).al _
  have bW : Below w.heap.size w Y2 := by rw [← hY2]; exact b1.al _
  have BP : Blk Y2 w.heap.size #[.slice pA pts.length pc, .slice lA lks.length lc, .slice sA sys.length sc, o3, o4, o5, o6, o7, .slice tA ts.length tc, .int .i64 pe, .slice uA us.length uc, .slice dA ds.length dc, .slice qA qs.length qc, .slice kA dcs.length kc, o14, .slice zA zs.length zc, o16, o17, o18, o19, o20, o21, o22, o23, o24] 46 := by rw [← hY2, ← hY1]; exact (Blk.new w _ _).alloc _
  have BS : Blk Y2 Y1.heap.size #[.string id, .string zn, .string pl, .int .i64 tf, .int .i64 tt] 61 := by rw [← hY2]; exact Blk.new Y1 _ _
  have CR := Lib.hid (right_any pc lc sc tc uc dc qc kc zc pe o3 o4 o5 o6 o7 o14 o16 o17 o18 o19 o20 o21 o22 o23 o24 (h.st bW))
  have CH := Lib.hid (fun (X : World) (hX : Below w.heap.size w X) => short_any ic (hi.st hX) hil)
  have C1 := Lib.hid (fun (X : World) (hX : Below w.heap.size w X) (hr : RightB zs) (h8 : is.length ≤ 8) => pstay_any zc ic (.slice pA pts.length pc) (.slice lA lks.length lc) (.slice sA sys.length sc) o3 o4 o5 o6 o7 (.slice tA ts.length tc) (.int .i64 pe) (.slice uA us.length uc) (.slice dA ds.length dc) (.slice qA qs.length qc) (.slice kA dcs.length kc) o14 o16 o17 o18 o19 o20 o21 o22 o23 o24 id zn pl tf tt (h.st hX).z (h.st hX).zo (right_small hr).1 (right_small hr).2 (hi.st hX) h8 hid)
  have C2 := Lib.hid (fun (X : World) (hX : Below w.heap.size w X) (hr : RightB zs) (h8 : is.length ≤ 8) => rstay_any zc ic (.slice pA pts.length pc) (.slice lA lks.length lc) (.slice sA sys.length sc) o3 o4 o5 o6 o7 (.slice tA ts.length tc) (.int .i64 pe) (.slice uA us.length uc) (.slice dA ds.length dc) (.slice qA qs.length qc) (.slice kA dcs.length kc) o14 o16 o17 o18 o19 o20 o21 o22 o23 o24 id zn pl tf tt (h.st hX).z (h.st hX).zo (right_small hr).1 (right_small hr).2 (hi.st hX) h8 hid)
  clear h hi b1
  go_enter Tryz.func4, Tryz.ntmps4
  go_wp2_with (first | (refine wpList_boxLoad rfl (ty := 46) (x := .tmp 3) (cs := #[.slice pA pts.length pc, .slice lA lks.length lc, .slice sA sys.length sc, o3, o4, o5, o6, o7, .slice tA ts.length tc, .int .i64 pe, .slice uA us.length uc, .slice dA ds.length dc, .slice qA qs.length qc, .slice kA dcs.length kc, o14, .slice zA zs.length zc, o16, o17, o18, o19, o20, o21, o22, o23, o24]) rfl (BP) rfl ⟨_, Tryz.underlying46, by kernel_rfl⟩ ?_))
  refine CR.out.mono ?_
  rintro e W2 ⟨⟨b, rfl, hr⟩, hbn⟩
  have bW := bW.st hbn
  have BP := BP.below hbn BP.lt
  have BS := BS.below hbn BS.lt
  clear hbn CR hY1 hY2
  cases b with
  | false =>
    clear hr
    go_wp2_with fail; refine (awake_any _).mono ?_; rintro e wl ⟨rfl, hbl⟩; have bL := (bW).st hbl; go_wp2_with fail; go_ret; exact ⟨rfl, bL⟩
  | true =>
    have HR := Lib.hid (hr rfl)
    clear hr
    go_wp2_with fail
    refine (CH.out _ bW).mono ?_
    rintro e W3 ⟨⟨b, rfl, hr⟩, hbn⟩
    have bW := bW.st hbn
    have BP := BP.below hbn BP.lt
    have BS := BS.below hbn BS.lt
    clear hbn CH
    cases b with
    | false =>
      clear hr
      go_wp2_with fail; refine (awake_any _).mono ?_; rintro e wl ⟨rfl, hbl⟩; have bL := (bW).st hbl; go_wp2_with fail; go_ret; exact ⟨rfl, bL⟩
    | true =>
      have H8 := Lib.hid (hr rfl)
      clear hr
      go_wp2_with (first | (refine wpList_boxLoad rfl (ty := 46) (x := .tmp 3) (cs := #[.slice pA pts.length pc, .slice lA lks.length lc, .slice sA sys.length sc, o3, o4, o5, o6, o7, .slice tA ts.length tc, .int .i64 pe, .slice uA us.length uc, .slice dA ds.length dc, .slice qA qs.length qc, .slice kA dcs.length kc, o14, .slice zA zs.length zc, o16, o17, o18, o19, o20, o21, o22, o23, o24]) rfl (BP) rfl ⟨_, Tryz.underlying46, by kernel_rfl⟩ ?_) | (refine wpList_boxLoad rfl (ty := 61) (x := .tmp 4) (cs := #[.string id, .string zn, .string pl, .int .i64 tf, .int .i64 tt]) rfl (BS) rfl ⟨_, Tryz.underlying61, by kernel_rfl⟩ ?_))
      refine (C1.out _ bW HR.out H8.out).mono ?_
      rintro e W4 ⟨v, er, A, c, hS, rfl, hrd, hbn⟩
      have bW := bW.st hbn
      have BP := BP.below hbn BP.lt
      have BS := BS.below hbn BS.lt
      have HS := Lib.hid hS
      have HRD := Lib.hid hrd
      clear hbn C1 hS hrd
      simp only [CHV]
      go_wp2_with (first | (refine wpList_boxLoad rfl (ty := 46) (x := .tmp 3) (cs := #[.slice pA pts.length pc, .slice lA lks.length lc, .slice sA sys.length sc, o3, o4, o5, o6, o7, .slice tA ts.length tc, .int .i64 pe, .slice uA us.length uc, .slice dA ds.length dc, .slice qA qs.length qc, .slice kA dcs.length kc, o14, .slice zA zs.length zc, o16, o17, o18, o19, o20, o21, o22, o23, o24]) rfl (BP.alloc _) rfl ⟨_, Tryz.underlying46, by kernel_rfl⟩ ?_) | (refine wpList_boxLoad rfl (ty := 61) (x := .tmp 4) (cs := #[.string id, .string zn, .string pl, .int .i64 tf, .int .i64 tt]) rfl (BS.alloc _) rfl ⟨_, Tryz.underlying61, by kernel_rfl⟩ ?_))
      obtain ⟨W5, hW5⟩ : ∃ Y, W4.alloc (.cells #[.string v.key, .string v.veh, .string v.sys, .int .i64 v.cls, .int .i64 v.tm, .slice A v.lns.length c, .int .i64 v.ct] 66) = Y := ⟨_, rfl⟩
      have b5 : Below W4.heap.size W4 W5 := by rw [← hW5]; exact (Below.refl _ _).al _
      have BV : Blk W5 W4.heap.size #[.string v.key, .string v.veh, .string v.sys, .int .i64 v.cls, .int .i64 v.tm, .slice A v.lns.length c, .int .i64 v.ct] 66 := by rw [← hW5]; exact Blk.new W4 _ _
      rw [hW5]
      have bW := bW.st b5
      have HRD := Lib.hid (HRD.out.st b5)
      clear b5 hW5 BP BS
      refine (C2.out _ bW HR.out H8.out).mono ?_
      rintro e W6 ⟨v2, er2, A2, c2, hS2, rfl, hrd2, hbn⟩
      obtain ⟨rfl, rfl⟩ := HS.out.unique hS2
      have bW := bW.st hbn
      have BV := BV.below hbn BV.lt
      have HRD := Lib.hid (HRD.out.st hbn)
      have HRD2 := Lib.hid hrd2
      have HLEN := Lib.hid hS2.len
      clear hbn C2 hS2 hrd2
      simp only [CHV]
      go_wp2_with (first | (refine wpList_boxLoad rfl (ty := 66) (x := .tmp 7) (cs := #[.string v.key, .string v.veh, .string v.sys, .int .i64 v.cls, .int .i64 v.tm, .slice A v.lns.length c, .int .i64 v.ct]) rfl (BV.alloc _) rfl ⟨_, Tryz.underlying66, by kernel_rfl⟩ ?_) | (refine wpList_boxLoad rfl (ty := 66) (x := .tmp 9) (cs := #[.string v.key, .string v.veh, .string v.sys, .int .i64 v.cls, .int .i64 v.tm, .slice A2 v.lns.length c2, .int .i64 v.ct]) rfl (Blk.new W6 _ _) rfl ⟨_, Tryz.underlying66, by kernel_rfl⟩ ?_))
      have CO := rone_true v c c2 (HRD.out.st ((Below.refl _ W6).al (.cells #[.string v.key, .string v.veh, .string v.sys, .int .i64 v.cls, .int .i64 v.tm, .slice A2 v.lns.length c2, .int .i64 v.ct] 66))) (HRD2.out.st ((Below.refl _ W6).al (.cells #[.string v.key, .string v.veh, .string v.sys, .int .i64 v.cls, .int .i64 v.tm, .slice A2 v.lns.length c2, .int .i64 v.ct] 66))) (by have := HLEN.out; have := H8.out; omega)
      simp only [CHV] at CO
      have bX := bW.st ((Below.refl _ W6).al (.cells #[.string v.key, .string v.veh, .string v.sys, .int .i64 v.cls, .int .i64 v.tm, .slice A2 v.lns.length c2, .int .i64 v.ct] 66))
      refine CO.mono ?_
      rintro e W7 ⟨rfl, hbn⟩
      have bW := bX.st hbn
      clear hbn bX CO
      go_wp2_with fail; refine (awake_any _).mono ?_; rintro e wl ⟨rfl, hbl⟩; have bL := (bW).st hbl; go_wp2_with fail; go_ret; exact ⟨rfl, bL⟩
end Go.Proofs.YtcpfiiapfggmpaaGreat
