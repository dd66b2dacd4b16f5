/- The law PriceParts, walked. -/
import Derived.Test.YtcpfiiapfggmpaaGreatStayLaw
set_option linter.unusedSimpArgs false
set_option linter.unusedSimpArgs false
namespace Go.Proofs.YtcpfiiapfggmpaaGreat
open Go.RowKit Go.Lib

def FindS (z : Zn) (w w' : World) (e : Ending) : Prop := ∃ y, e = .returned (.tuple #[ZV y, .bool true]) ∧ (y.hs.length = z.hs.length ∧ ∀ a b, feeN y a b = feeN z a b ∧ feeE y a b = feeE z a b) ∧ ZOk w' y ∧ Below w.heap.size w w'
theorem find_is {zs : List Zn} {zn : ByteArray} {z : Zn} (hf : findZ zs zn = some z) {w w' : World} {e : Ending} (h : FindR zs zn w w' e) : FindS z w w' e := by
  obtain ⟨y, h1, h2, h3, h4⟩ := h
  rw [hf] at h1 h2
  exact ⟨y, h1, ⟨by rw [show y.hs = z.hs from congrArg (fun q => q.2.1) h2], fun a b => fee_zc h2 a b⟩, h3, h4⟩
set_option maxRecDepth 100000 in
set_option maxHeartbeats 16000000 in
theorem priceParts_walk {pA lA sA tA uA dA qA kA zA iA : Option Addr} (pc lc sc tc uc dc qc kc zc ic : Nat) (pe : Int) (o3 o4 o5 o6 o7 o14 o16 o17 o18 o19 o20 o21 o22 o23 o24 : Value) (id zn pl : ByteArray) (tf tt : Int) {pts : List Pt} {lks : List Lk} {sys : List Sy} {ts : List Ta} {us ds qs : List Int} {dcs : List Dc} {zs : List Zn} {is : List Iv} {w : World}
    (h : CfOk w pA lA sA tA uA dA qA kA zA pts lks sys ts us ds qs dcs zs sc) (hi : Rd encIv 2 w w.heap.size iA is) (hil : is.length ≤ 9223372036854775807) (hid : id.size ≤ 1000000000000000000) :
    Calls Tryz.prog 5 #[.agg #[.slice pA pts.length pc, .slice lA lks.length lc, .slice sA sys.length sc, o3, o4, o5, o6, o7, .slice tA ts.length tc, .int .i64 pe, .slice uA us.length uc, .slice dA ds.length dc, .slice qA qs.length qc, .slice kA dcs.length kc, o14, .slice zA zs.length zc, o16, o17, o18, o19, o20, o21, o22, o23, o24], .agg #[.string id, .string zn, .string pl, .int .i64 tf, .int .i64 tt], .slice iA is.length ic] w fun e w' => e = .returned (.bool true) ∧ Below w.heap.size w w' := by
  obtain ⟨Y1, hY1⟩ : ∃ Y, w.alloc (.cells #[.slice pA pts.length pc, .slice lA lks.length lc, .slice sA sys.length sc, o3, o4, o5, o6, o7, .slice tA ts.length tc, .int .i64 pe, .slice uA us.length uc, .slice dA ds.length dc, .slice qA qs.length qc, .slice kA dcs.length kc, o14, .slice zA zs.length zc, o16, o17, o18, o19, o20, o21, o22, o23, o24] 46) = Y := ⟨_, rfl⟩
  obtain ⟨Y2, hY2⟩ : ∃ Y, Y1.alloc (.cells #[.string id, .string zn, .string pl, .int .i64 tf, .int .i64 tt] 61) = Y := ⟨_, rfl⟩
  have b1 : Below w.heap.size w Y1 := by rw [← hY1]; exact (Below.refl _ w).al _
  have bW : Below w.heap.size w Y2 := by rw [← hY2]; exact b1.al _
  have BP : Blk Y2 w.heap.size #[.slice pA pts.length pc, .slice lA lks.length lc, .slice sA sys.length sc, o3, o4, o5, o6, o7, .slice tA ts.length tc, .int .i64 pe, .slice uA us.length uc, .slice dA ds.length dc, .slice qA qs.length qc, .slice kA dcs.length kc, o14, .slice zA zs.length zc, o16, o17, o18, o19, o20, o21, o22, o23, o24] 46 := by rw [← hY2, ← hY1]; exact (Blk.new w _ _).alloc _
  have BS : Blk Y2 Y1.heap.size #[.string id, .string zn, .string pl, .int .i64 tf, .int .i64 tt] 61 := by rw [← hY2]; exact Blk.new Y1 _ _
  have CR := Lib.hid (right_any pc lc sc tc uc dc qc kc zc pe o3 o4 o5 o6 o7 o14 o16 o17 o18 o19 o20 o21 o22 o23 o24 (h.st bW))
  have CH := Lib.hid (fun (X : World) (hX : Below w.heap.size w X) => short_any ic (hi.st hX) hil)
  have C1 := Lib.hid (fun (X : World) (hX : Below w.heap.size w X) (hr : RightB zs) (h8 : is.length ≤ 8) => pstay_any zc ic (.slice pA pts.length pc) (.slice lA lks.length lc) (.slice sA sys.length sc) o3 o4 o5 o6 o7 (.slice tA ts.length tc) (.int .i64 pe) (.slice uA us.length uc) (.slice dA ds.length dc) (.slice qA qs.length qc) (.slice kA dcs.length kc) o14 o16 o17 o18 o19 o20 o21 o22 o23 o24 id zn pl tf tt (h.st hX).z (h.st hX).zo (right_small hr).1 (right_small hr).2 (hi.st hX) h8 hid)
  have CF := Lib.hid (fun (X : World) (hX : Below w.heap.size w X) (hr : RightB zs) => rfind_any (l := zs) zc (nm := zn) (h.st hX).z (h.st hX).zo (right_small hr).2)
  have HSM := Lib.hid (fun (hr : RightB zs) (z : Zn) (hz : z ∈ zs) => hr.2 z hz)
  have HU := Lib.hid (fun (X : World) (hX : Below w.heap.size w X) => hi.st hX)
  have S1 : Hid (Y1.heap.size = w.heap.size + 1) := Lib.hid (by rw [← hY1]; simp)
  clear h hi b1
  go_enter Tryz.func5, Tryz.ntmps5
  go_wp2_with (first | (refine wpList_boxLoad rfl (ty := 46) (x := .tmp 3) (cs := #[.slice pA pts.length pc, .slice lA lks.length lc, .slice sA sys.length sc, o3, o4, o5, o6, o7, .slice tA ts.length tc, .int .i64 pe, .slice uA us.length uc, .slice dA ds.length dc, .slice qA qs.length qc, .slice kA dcs.length kc, o14, .slice zA zs.length zc, o16, o17, o18, o19, o20, o21, o22, o23, o24]) rfl (BP) rfl ⟨_, Tryz.underlying46, by kernel_rfl⟩ ?_))
  refine CR.out.mono ?_
  rintro e W2 ⟨⟨b, rfl, hr⟩, hbn⟩
  have bW := bW.st hbn
  have BP := BP.below hbn BP.lt
  have BS := BS.below hbn BS.lt
  clear hbn CR hY1 hY2
  cases b with
  | false =>
    clear hr
    go_wp2_with fail; refine (awake_any _).mono ?_; rintro e wl ⟨rfl, hbl⟩; have bL := (bW).st hbl; go_wp2_with fail; go_ret; exact ⟨rfl, bL⟩
  | true =>
    have HR := Lib.hid (hr rfl)
    clear hr
    go_wp2_with fail
    refine (CH.out _ bW).mono ?_
    rintro e W3 ⟨⟨b, rfl, hr⟩, hbn⟩
    have bW := bW.st hbn
    have BP := BP.below hbn BP.lt
    have BS := BS.below hbn BS.lt
    clear hbn CH
    cases b with
    | false =>
      clear hr
      go_wp2_with fail; refine (awake_any _).mono ?_; rintro e wl ⟨rfl, hbl⟩; have bL := (bW).st hbl; go_wp2_with fail; go_ret; exact ⟨rfl, bL⟩
    | true =>
      have H8 := Lib.hid (hr rfl)
      clear hr
      go_wp2_with (first | (refine wpList_boxLoad rfl (ty := 46) (x := .tmp 3) (cs := #[.slice pA pts.length pc, .slice lA lks.length lc, .slice sA sys.length sc, o3, o4, o5, o6, o7, .slice tA ts.length tc, .int .i64 pe, .slice uA us.length uc, .slice dA ds.length dc, .slice qA qs.length qc, .slice kA dcs.length kc, o14, .slice zA zs.length zc, o16, o17, o18, o19, o20, o21, o22, o23, o24]) rfl (BP) rfl ⟨_, Tryz.underlying46, by kernel_rfl⟩ ?_) | (refine wpList_boxLoad rfl (ty := 61) (x := .tmp 4) (cs := #[.string id, .string zn, .string pl, .int .i64 tf, .int .i64 tt]) rfl (BS) rfl ⟨_, Tryz.underlying61, by kernel_rfl⟩ ?_))
      refine (C1.out _ bW HR.out H8.out).mono ?_
      rintro e W4 ⟨v, er, A, c, hS, rfl, hrd, hbn⟩
      have bW := bW.st hbn
      have BP := BP.below hbn BP.lt
      have BS := BS.below hbn BS.lt
      have HS := Lib.hid hS
      have HRD := Lib.hid hrd
      clear hbn C1 hS hrd
      have HLEN := Lib.hid HS.out.len
      by_cases he : er = 0
      case neg =>
        have he2 : (er != 0) = true := by simp [he]
        simp only [CHV]
        go_wp2_with fail
        obtain ⟨W5, hW5⟩ : ∃ Y, W4.alloc (.cells #[.string v.key, .string v.veh, .string v.sys, .int .i64 v.cls, .int .i64 v.tm, .slice A v.lns.length c, .int .i64 v.ct] 66) = Y := ⟨_, rfl⟩
        have b5 : Below W4.heap.size W4 W5 := by rw [← hW5]; exact (Below.refl _ _).al _
        rw [hW5]
        have bW := bW.st b5
        clear b5 hW5 BP BS
        go_wp2_with fail; refine (awake_any _).mono ?_; rintro e wl ⟨rfl, hbl⟩; have bL := (bW).st hbl; go_wp2_with fail; go_ret; exact ⟨rfl, bL⟩
      subst he
      obtain ⟨z, hz, hv⟩ : ∃ z, (findZ zs zn = some z ∧ noE z is) ∧ (v.ct = feSum z is ∧ v.lns.length = is.length) := by
        have q := HS.out
        generalize h0 : (0 : Int) = e0 at q
        cases q with
        | zone => omega
        | fee z e h1 h2 => obtain ⟨_, _, _, _, _, h3⟩ := h2; exact absurd h0.symm h3
        | big => omega
        | ok z h1 h2 h3 => exact ⟨z, ⟨h1, h2⟩, rfl, lnL_len z is⟩
      obtain ⟨hf, hno⟩ := hz
      obtain ⟨hct, hll⟩ := hv
      simp only [CHV]
      rw [hct, hll]
      have HF := Lib.hid hf
      have HNO := Lib.hid hno
      have CF := Lib.hid (fun (X : World) (hX : Below w.heap.size w X) => CF.out X hX HR.out)
      obtain ⟨ky, vh, sy, cl, tm, lns, ct⟩ := v
      have HCT := Lib.hid hct
      simp only at hct hll
      clear hf hno HRD hct hll HS HLEN
      obtain ⟨W5, hW5⟩ : ∃ Y, W4.alloc (.cells #[.string ky, .string vh, .string sy, .int .i64 cl, .int .i64 tm, .slice A is.length c, .int .i64 (feSum z is)] 66) = Y := ⟨_, rfl⟩
      have b5 : Below W4.heap.size W4 W5 := by rw [← hW5]; exact (Below.refl _ _).al _
      have BV : Blk W5 W4.heap.size #[.string ky, .string vh, .string sy, .int .i64 cl, .int .i64 tm, .slice A is.length c, .int .i64 (feSum z is)] 66 := by rw [← hW5]; exact Blk.new W4 _ _
      have bW := bW.st b5
      have g15 := (BP.below b5 BP.lt).cell 15 (v := .slice zA zs.length zc) rfl
      have q1 := (BS.below b5 BS.lt).cell 1 (v := .string zn) rfl
      have hgt : Hid (w.heap.size < W4.heap.size ∧ Y1.heap.size < W4.heap.size) := Lib.hid ⟨BP.lt, BS.lt⟩
      clear BP BS
      go_wp2_with fail
      refine (CF.out _ bW).mono ?_
      rintro e W6 hfr
      obtain ⟨y, rfl, ⟨hyl, hfe⟩, hok, hbn⟩ := find_is HF.out hfr
      have bW := bW.st hbn
      have BV := BV.below hbn BV.lt
      have hsml : y.hs.length ≤ 8 := by rw [hyl]; exact (HSM.out HR.out z (List.mem_of_find?_eq_some HF.out)).1
      have HFE := Lib.hid hfe
      clear hbn CF hfr hyl hfe hW5 b5 g15 q1
      simp only [ZV]
      obtain ⟨W7, hW7⟩ : ∃ Y, W6.alloc (.cells #[.string y.name, .slice y.hA y.hs.length y.hc, .slice y.sA y.ss.length y.sc, .int .i64 y.grace, .int .i64 y.free, .int .i64 y.dayMax, .int .i64 y.maxStay] 76) = Y := ⟨_, rfl⟩
      have b7 : Below W6.heap.size W6 W7 := by rw [← hW7]; exact (Below.refl _ _).al _
      have BZ : Blk W7 W6.heap.size #[.string y.name, .slice y.hA y.hs.length y.hc, .slice y.sA y.ss.length y.sc, .int .i64 y.grace, .int .i64 y.free, .int .i64 y.dayMax, .int .i64 y.maxStay] 76 := by rw [← hW7]; exact Blk.new W6 _ _
      have bW := bW.st b7
      have BV := BV.below b7 BV.lt
      have hok := hok.st b7
      have HBV := Lib.hid BV
      have HBZ := Lib.hid BZ
      have HOK := Lib.hid hok
      have HBW := Lib.hid bW
      clear b7 BV BZ hok bW
      go_wp2_with fail
      go_loopw [11, 12] (fun n i wr => ∃ k : Nat, k ≤ is.length ∧ i = .int .i64 k ∧ n = .int .i64 (feSum z (is.take k)) ∧ Below W7.heap.size W7 wr) (fun _ i _ => is.length - (RowKit.intOf i).toNat)
      case atStart => exact ⟨0, Nat.zero_le _, rfl, rfl, Below.refl _ _⟩
      case round =>
        obtain ⟨k, hk, rfl, rfl, hwr⟩ := hrel
        have hW := HBW.out.st hwr
        have B5 := HBZ.out.below hwr HBZ.out.lt
        have BV := HBV.out.below hwr HBV.out.lt
        by_cases hi : k < is.length
        · obtain ⟨ub, uo, f, t, rfl, hub, hux, d0, d1⟩ := (HU.out _ hW).iv hi
          have hub2 : ub < wr.heap.size := hub
          have HI := Lib.hid hi
          have CP := Lib.hid (fun (X : World) (hX : Below wr.heap.size wr X) => kfee_any y f t ((HOK.out.st hwr).st hX) (by omega))
          have hfe : feeE z f t = 0 := HNO.out _ (List.mem_of_getElem? hux)
          rw [(HFE.out f t).1, (HFE.out f t).2, hfe] at CP
          have hsn := feSum_snoc (z := z) hux
          have hfb := feeN_bnd z f t
          have hsb := feSum_bnd z (is.take k)
          rw [List.length_take] at hsb
          simp only at hsn
          generalize feeN z f t = fn at *
          have hww : IntKind.i64.wrap (feSum z (is.take k) + fn) = feSum z (is.take k) + fn := IntWalk.i64_in _ (by have := H8.out; omega)
          have HSN := Lib.hid hsn
          have bX := Below.refl wr.heap.size wr
          generalize feSum z (is.take k) = sk at *
          clear hux hub hsn hfb hsb hfe
          go_wp2_with fail
          refine wp_region_held_drew (S := fun w' => Blk w' W6.heap.size #[.string y.name, .slice y.hA y.hs.length y.hc, .slice y.sA y.ss.length y.sc, .int .i64 y.grace, .int .i64 y.free, .int .i64 y.dayMax, .int .i64 y.maxStay] 76 ∧ w'.cell? ⟨ub, uo + k * 2, none⟩ = some (.int .i64 f) ∧ w'.cell? ⟨ub, uo + k * 2 + 1, none⟩ = some (.int .i64 t)) (by kernel_rfl) ?_ (fun hHeld => ?_)
          (focus exact ⟨B5.drew, d0, d1⟩)
          have bX := bX.drew
          change wpAnyH _ _ _ _ _ 11 _ _ _
          refine wpAnyH_take (i := 0) (v := .agg #[.string y.name, .slice y.hA y.hs.length y.hc, .slice y.sA y.ss.length y.sc, .int .i64 y.grace, .int .i64 y.free, .int .i64 y.dayMax, .int .i64 y.maxStay]) (by simp only [List.getElem?_toArray, List.getElem?_cons_zero, List.getElem?_cons_succ]; rfl) (by kernel_rfl) (by kernel_rfl) (by kernel_rfl) (by intro _ _ _ h; exact h) (yieldsIf_boxLoad (by rfl) rfl rfl (fun _ hw => hw.1) ⟨_, Tryz.underlying76, by kernel_rfl⟩) (by assumption) ?_; (try simp only [Act.put, List.setIfInBounds_toArray, List.set_cons_zero, List.set_cons_succ, List.getElem_toArray, List.getElem_cons_zero, List.getElem_cons_succ])
          refine wpAnyH_take (i := 1) (v := ?_) (by simp only [List.getElem?_toArray, List.getElem?_cons_zero, List.getElem?_cons_succ]; rfl) (by kernel_rfl) (by kernel_rfl) (by kernel_rfl) (by intro _ _ _ h; exact h) (Or.inl ⟨by rfl, ?_⟩) (by assumption) ?_; rotate_left; (focus (intro w1 hSw; (try dsimp only at hSw); go_simp; (try with_reducible rfl))); (try simp only [Act.put, List.setIfInBounds_toArray, List.set_cons_zero, List.set_cons_succ, List.getElem_toArray, List.getElem_cons_zero, List.getElem_cons_succ])
          refine wpAnyH_take (i := 2) (v := ?_) (by simp only [List.getElem?_toArray, List.getElem?_cons_zero, List.getElem?_cons_succ]; rfl) (by kernel_rfl) (by kernel_rfl) (by kernel_rfl) (by intro _ _ _ h; exact h) (Or.inl ⟨by rfl, ?_⟩) (by assumption) ?_; rotate_left; (focus (intro w1 hSw; (try dsimp only at hSw); go_simp; (try with_reducible rfl))); (try simp only [Act.put, List.setIfInBounds_toArray, List.set_cons_zero, List.set_cons_succ, List.getElem_toArray, List.getElem_cons_zero, List.getElem_cons_succ])
          refine wpAnyH_take (i := 3) (v := ?_) (by simp only [List.getElem?_toArray, List.getElem?_cons_zero, List.getElem?_cons_succ]; rfl) (by kernel_rfl) (by kernel_rfl) (by kernel_rfl) (by intro _ _ _ h; exact h) (Or.inl ⟨by rfl, ?_⟩) (by assumption) ?_; rotate_left; (focus (intro w1 hSw; (try dsimp only at hSw); go_simp; (try with_reducible rfl))); (try simp only [Act.put, List.setIfInBounds_toArray, List.set_cons_zero, List.set_cons_succ, List.getElem_toArray, List.getElem_cons_zero, List.getElem_cons_succ])
          refine wpAnyH_take (i := 4) (v := ?_) (by simp only [List.getElem?_toArray, List.getElem?_cons_zero, List.getElem?_cons_succ]; rfl) (by kernel_rfl) (by kernel_rfl) (by kernel_rfl) (by intro _ _ _ h; exact h) (Or.inl ⟨by rfl, ?_⟩) (by assumption) ?_; rotate_left; (focus (intro w1 hSw; (try dsimp only at hSw); go_simp; (try with_reducible rfl))); (try simp only [Act.put, List.setIfInBounds_toArray, List.set_cons_zero, List.set_cons_succ, List.getElem_toArray, List.getElem_cons_zero, List.getElem_cons_succ])
          refine wpAnyH_ready (rs := [5]) (by kernel_rfl) (by simp) ?_; refine AllReadyH.cons (by simp only [List.getElem?_toArray, List.getElem?_cons_zero, List.getElem?_cons_succ]; rfl) (fun K hK => ?_) AllReadyH.nil; rw [if_pos (by rfl)]; go_wp2_with fail
          refine (CP.out _ bX).mono ?_
          rintro e W8 ⟨rfl, hb8⟩
          have bX := bX.st hb8
          go_wp2_with fail
          refine hK.out _ _ ?_ (fun hHeld => ?_)
          (focus exact ⟨B5.below bX B5.lt, (bX.cell hub2).trans d0, (bX.cell hub2).trans d1⟩)
          clear hK K
          (try simp only [Act.put, List.setIfInBounds_toArray, List.set_cons_zero, List.set_cons_succ, List.getElem_toArray, List.getElem_cons_zero, List.getElem_cons_succ])
          refine wpAnyH_take (i := 6) (v := ?_) (by simp only [List.getElem?_toArray, List.getElem?_cons_zero, List.getElem?_cons_succ]; rfl) (by kernel_rfl) (by kernel_rfl) (by kernel_rfl) (by intro _ _ _ h; exact h) (Or.inl ⟨by rfl, ?_⟩) (by assumption) ?_; rotate_left; (focus (intro w1 hSw; (try dsimp only at hSw); go_simp; (try with_reducible rfl))); (try simp only [Act.put, List.setIfInBounds_toArray, List.set_cons_zero, List.set_cons_succ, List.getElem_toArray, List.getElem_cons_zero, List.getElem_cons_succ])
          refine wpAnyH_take (i := 7) (v := ?_) (by simp only [List.getElem?_toArray, List.getElem?_cons_zero, List.getElem?_cons_succ]; rfl) (by kernel_rfl) (by kernel_rfl) (by kernel_rfl) (by intro _ _ _ h; exact h) (Or.inl ⟨by rfl, ?_⟩) (by assumption) ?_; rotate_left; (focus (intro w1 hSw; (try dsimp only at hSw); go_simp; (try with_reducible rfl))); (try simp only [Act.put, List.setIfInBounds_toArray, List.set_cons_zero, List.set_cons_succ, List.getElem_toArray, List.getElem_cons_zero, List.getElem_cons_succ])
          refine wpAnyH_take (i := 8) (v := ?_) (by simp only [List.getElem?_toArray, List.getElem?_cons_zero, List.getElem?_cons_succ]; rfl) (by kernel_rfl) (by kernel_rfl) (by kernel_rfl) (by intro _ _ _ h; exact h) (Or.inl ⟨by rfl, ?_⟩) (by assumption) ?_; rotate_left; (focus (intro w1 hSw; (try dsimp only at hSw); go_simp; (try with_reducible rfl))); (try simp only [Act.put, List.setIfInBounds_toArray, List.set_cons_zero, List.set_cons_succ, List.getElem_toArray, List.getElem_cons_zero, List.getElem_cons_succ])
          refine wpAnyH_take (i := 9) (v := ?_) (by simp only [List.getElem?_toArray, List.getElem?_cons_zero, List.getElem?_cons_succ]; rfl) (by kernel_rfl) (by kernel_rfl) (by kernel_rfl) (by intro _ _ _ h; exact h) (Or.inl ⟨by rfl, ?_⟩) (by assumption) ?_; rotate_left; (focus (intro w1 hSw; (try dsimp only at hSw); go_simp; (try with_reducible rfl))); (try simp only [Act.put, List.setIfInBounds_toArray, List.set_cons_zero, List.set_cons_succ, List.getElem_toArray, List.getElem_cons_zero, List.getElem_cons_succ])
          refine wpAnyH_take (i := 10) (v := ?_) (by simp only [List.getElem?_toArray, List.getElem?_cons_zero, List.getElem?_cons_succ]; rfl) (by kernel_rfl) (by kernel_rfl) (by kernel_rfl) (by intro _ _ _ h; exact h) (Or.inl ⟨by rfl, ?_⟩) (by assumption) ?_; rotate_left; (focus (intro w1 hSw; (try dsimp only at hSw); go_simp; (try with_reducible rfl))); (try simp only [Act.put, List.setIfInBounds_toArray, List.set_cons_zero, List.set_cons_succ, List.getElem_toArray, List.getElem_cons_zero, List.getElem_cons_succ])
          refine wpAnyH_done (by kernel_rfl) ?_ _
          have HX := Lib.hid (hwr.st bX)
          clear CP hHeld hb8 d0 d1 B5 bX
          go_wp2_with fail
          go_roundw
          case rel => exact ⟨k + 1, HI.out, by go_num, by rw [HSN.out], HX.out⟩
          case measure => have := HI.out; simp [RowKit.intOf]; omega
        · obtain rfl : k = is.length := by omega
          rw [List.take_length]
          have r5 := BV.cell 5 (v := .slice A is.length c) rfl
          have r6 := BV.cell 6 (v := .int .i64 (feSum z is)) rfl
          go_wp2_with fail; refine (awake_any _).mono ?_; rintro e wl ⟨rfl, hbl⟩; have bL := (hW).st hbl; go_wp2_with fail; go_ret; exact ⟨rfl, bL⟩
end Go.Proofs.YtcpfiiapfggmpaaGreat
