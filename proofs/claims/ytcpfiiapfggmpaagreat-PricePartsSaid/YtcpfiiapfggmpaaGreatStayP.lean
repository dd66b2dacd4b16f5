/- price.Stay, walked. -/
import Derived.Test.YtcpfiiapfggmpaaGreatJParkFeeW
import Derived.Test.YtcpfiiapfggmpaaGreatJNetChk
set_option linter.unusedSimpArgs false
namespace Go.Proofs.YtcpfiiapfggmpaaGreat
open Go.RowKit Go.Lib

def StayE (zs : List Zn) (id zn pl : ByteArray) (tt : Int) (us : List Iv) (w w' : World) (e : Ending) : Prop :=
  ∃ v er A c, StayR zs id zn pl tt us v er ∧ e = .returned (.tuple #[CHV v A c, .int .i64 er]) ∧ Rd encLn 2 w' w'.heap.size A v.lns ∧ Below w.heap.size w w'
set_option maxRecDepth 100000 in
set_option maxHeartbeats 16000000 in
theorem pstay_any {zA uA : Option Addr} (zc_ uc : Nat) (o0 o1 o2 o3 o4 o5 o6 o7 o8 o9 o10 o11 o12 o13 o14 o16 o17 o18 o19 o20 o21 o22 o23 o24 : Value) (id zn pl : ByteArray) (tf tt : Int) {zs : List Zn} {us : List Iv} {w : World}
    (hz : Rd encZ 7 w w.heap.size zA zs) (hzo : ZsOk w zs) (hsm : ∀ z ∈ zs, small z) (hzl : zs.length ≤ 9223372036854775807) (hu : Rd encIv 2 w w.heap.size uA us) (hul : us.length ≤ 8) (hid : id.size ≤ 1000000000000000000) :
    Calls Tryz.prog 14 #[.agg #[o0, o1, o2, o3, o4, o5, o6, o7, o8, o9, o10, o11, o12, o13, o14, .slice zA zs.length zc_, o16, o17, o18, o19, o20, o21, o22, o23, o24], .agg #[.string id, .string zn, .string pl, .int .i64 tf, .int .i64 tt], .slice uA us.length uc] w fun e w' => StayE zs id zn pl tt us w w' e := by
  obtain ⟨Y1, hY1⟩ : ∃ Y, w.alloc (.cells #[o0, o1, o2, o3, o4, o5, o6, o7, o8, o9, o10, o11, o12, o13, o14, .slice zA zs.length zc_, o16, o17, o18, o19, o20, o21, o22, o23, o24] 46) = Y := ⟨_, rfl⟩
  obtain ⟨Y2, hY2⟩ : ∃ Y, Y1.alloc (.cells #[.string id, .string zn, .string pl, .int .i64 tf, .int .i64 tt] 61) = Y := ⟨_, rfl⟩
  obtain ⟨Y3, hY3⟩ : ∃ Y, Y2.alloc (.cells #[.string ⟨#[]⟩, .string ⟨#[]⟩, .string ⟨#[]⟩, .int .i64 0, .int .i64 0, .slice none 0 0, .int .i64 0] 66) = Y := ⟨_, rfl⟩
  have b1 : Below w.heap.size w Y1 := by rw [← hY1]; exact (Below.refl _ w).al _
  have b2 : Below w.heap.size w Y2 := by rw [← hY2]; exact b1.al _
  have b3 : Below w.heap.size w Y3 := by rw [← hY3]; exact b2.al _
  have B1 : Blk Y3 w.heap.size #[o0, o1, o2, o3, o4, o5, o6, o7, o8, o9, o10, o11, o12, o13, o14, .slice zA zs.length zc_, o16, o17, o18, o19, o20, o21, o22, o23, o24] 46 := by rw [← hY3, ← hY2, ← hY1]; exact ((Blk.new w _ _).alloc _).alloc _
  have B2 : Blk Y3 Y1.heap.size #[.string id, .string zn, .string pl, .int .i64 tf, .int .i64 tt] 61 := by rw [← hY3, ← hY2]; exact (Blk.new Y1 _ _).alloc _
  have B3 : Blk Y3 Y2.heap.size #[.string ⟨#[]⟩, .string ⟨#[]⟩, .string ⟨#[]⟩, .int .i64 0, .int .i64 0, .slice none 0 0, .int .i64 0] 66 := by rw [← hY3]; exact Blk.new Y2 _ _
  have s1 : Y1.heap.size = w.heap.size + 1 := by rw [← hY1]; simp
  have s2 : Y2.heap.size = Y1.heap.size + 1 := by rw [← hY2]; simp
  have c15 := B1.cell 15 (v := .slice zA zs.length zc_) rfl
  have q1 := B2.cell 1 (v := .string zn) rfl
  have CF := Lib.hid (zfind_any (l := zs) zc_ (nm := zn) (hz.st b3) (hzo.st b3) hsm hzl)
  have S3 : Hid (w.heap.size < Y2.heap.size) := Lib.hid (by omega)
  have HU := Lib.hid hu
  have HSM := Lib.hid hsm
  clear hz hzo hu b1 b2 s1 s2 B1 hsm
  go_enter Tryz.func14, Tryz.ntmps14
  go_wp2_with fail
  refine CF.out.mono ?_
  rintro e W4 ⟨y, rfl, hy, hok, hbn⟩
  have b4 := b3.st hbn
  have B2 := B2.below hbn B2.lt
  have B3 := B3.below hbn B3.lt
  have hlt24 : Y2.heap.size < W4.heap.size := B3.lt
  simp only [ZV]
  obtain ⟨W5, hW5⟩ : ∃ Y, W4.alloc (.cells #[.string y.name, .slice y.hA y.hs.length y.hc, .slice y.sA y.ss.length y.sc, .int .i64 y.grace, .int .i64 y.free, .int .i64 y.dayMax, .int .i64 y.maxStay] 76) = Y := ⟨_, rfl⟩
  have hb5 : Below W4.heap.size W4 W5 := by rw [← hW5]; exact (Below.refl _ _).al _
  have b5 := b4.st hb5
  have B2 := B2.below hb5 B2.lt
  have B3 := B3.below hb5 B3.lt
  have B5 : Blk W5 W4.heap.size #[.string y.name, .slice y.hA y.hs.length y.hc, .slice y.sA y.ss.length y.sc, .int .i64 y.grace, .int .i64 y.free, .int .i64 y.dayMax, .int .i64 y.maxStay] 76 := by rw [← hW5]; exact Blk.new W4 _ _
  have hok5 := hok.st hb5
  have H35a : Hid (Y2.heap.size < W4.heap.size ∧ W4.heap.size < W5.heap.size) := Lib.hid ⟨hlt24, B5.lt⟩
  clear CF c15 q1 hbn hb5 hok b4 b3 hY1 hY2 hY3
  cases hf : findZ zs zn with
  | none =>
    have HF := Lib.hid hf
    simp only [hf, Option.isSome_none] at hy ⊢
    clear hf
    go_wp2_with (refine wpList_boxStore rfl (ty := 66) (x := .tmp 6) (y := .tmp 26) (cells := #[.string ⟨#[]⟩, .string ⟨#[]⟩, .string ⟨#[]⟩, .int .i64 0, .int .i64 0, .slice none 0 0, .int .i64 0]) rfl B3 rfl rfl (by kernel_rfl) rfl (by kernel_rfl) ?_; intro w7 B7 hoz hbz)
    refine bodyPost_ret (v := .tuple #[.agg #[.string ⟨#[]⟩, .string ⟨#[]⟩, .string ⟨#[]⟩, .int .i64 0, .int .i64 0, .slice none 0 0, .int .i64 0], .int .i64 23]) (results_box_tmp Tryz.results14 _ (.int .i64 23) rfl rfl B7 ⟨_, Tryz.underlying66, by kernel_rfl⟩) rfl ?_
    exact ⟨zeroC, 23, none, 0, .zone HF.out, rfl, Rd.nil, hbz _ _ (by have := S3.out; omega) b5⟩
  | some z =>
    have HF := Lib.hid hf
    have hzy : zc y = zc z := by rw [hf] at hy; exact hy
    have hnm : y.name = z.name := congrArg Prod.fst hzy
    have HNM := Lib.hid hnm
    have HFE := Lib.hid (fun (a b : Int) => fee_zc hzy a b)
    have hsml : y.hs.length ≤ 60 := by
      have h1 : z ∈ zs := List.mem_of_find?_eq_some hf
      have h2 := (HSM.out z h1).1
      have h3 : y.hs = z.hs := congrArg (fun q => q.2.1) hzy
      rw [h3]; exact h2
    simp only [hf, Option.isSome_some] at hy ⊢
    have q0 := B2.cell 0 (v := .string id) rfl
    have q2 := B2.cell 2 (v := .string pl) rfl
    have q4 := B2.cell 4 (v := .int .i64 tt) rfl
    have z0 := B5.cell 0 (v := .string y.name) rfl
    have hsz : ¬ 9223372036854775807 < (⟨#[112, 58]⟩ : ByteArray).size + id.size := by show ¬ _ < 2 + id.size; omega
    have hsz2 : ¬ 9223372036854775807 < 2 + id.size := by omega
    clear hf hy hzy hnm
    go_wp2
    obtain ⟨W6, hW6⟩ : ∃ Y, W5.alloc (.cells #[.string ((⟨#[112, 58]⟩ : ByteArray) ++ id), .string pl, .string y.name, .int .i64 0, .int .i64 tt, .slice none 0 0, .int .i64 0] 66) = Y := ⟨_, rfl⟩
    rw [hW6]
    have hb6 : Below W5.heap.size W5 W6 := by rw [← hW6]; exact (Below.refl _ _).al _
    have b6 := b5.st hb6
    have B3 := B3.below hb6 B3.lt
    have B5 := B5.below hb6 B5.lt
    have B6 : Blk W6 W5.heap.size #[.string ((⟨#[112, 58]⟩ : ByteArray) ++ id), .string pl, .string y.name, .int .i64 0, .int .i64 tt, .slice none 0 0, .int .i64 0] 66 := by rw [← hW6]; exact Blk.new W5 _ _
    have s6 : W6.heap.size = W5.heap.size + 1 := by rw [← hW6]; simp
    have S6 := Lib.hid s6
    have HLE : Hid (W5.heap.size ≤ W6.heap.size) := Lib.hid (by omega)
    have HB3 := Lib.hid B3
    have HB5 := Lib.hid B5
    have HB6 := Lib.hid b6
    have HOK5 := Lib.hid hok5
    have HB56 := Lib.hid hb6
    have H35 : Hid (Y2.heap.size < W5.heap.size ∧ W4.heap.size < W5.heap.size) := Lib.hid ⟨by have := H35a.out; omega, H35a.out.2⟩
    clear hW6 hb6 b6 B3 B5 s6 q0 q2 q4 z0 B2 b5 hok5 hW5 H35a
    generalize hkey : ((⟨#[112, 58]⟩ : ByteArray) ++ id) = key at *
    have HKEY := Lib.hid hkey
    clear hkey
    go_loopw [11, 40] (fun v i wr => ∃ (k : Nat) (lA : Option Addr) (lc : Nat) (cn : Int) (ft : Bool), k ≤ us.length ∧ i = .int .i64 k ∧ v = .bool ft ∧ Hid (ft = decide (feSum z (us.take k) ≤ 1125899906842624)) ∧ Hid (ft = true → cn = feSum z (us.take k)) ∧ Hid (noE z (us.take k)) ∧ Hid (Blk wr W5.heap.size #[.string key, .string pl, .string y.name, .int .i64 0, .int .i64 tt, .slice lA k lc, .int .i64 cn] 66) ∧ Hid (Rd encLn 2 wr wr.heap.size lA (lnL z (us.take k))) ∧ Hid (∀ b off, lA = some ⟨b, off, none⟩ → W5.heap.size < b) ∧ Below W5.heap.size W6 wr) (fun _ i _ => us.length - (RowKit.intOf i).toNat)
    case atStart => exact ⟨0, none, 0, 0, true, Nat.zero_le _, rfl, rfl, (by unfold Hid; simp [feSum, feL]), (by unfold Hid; simp [feSum, feL]), (by unfold Hid noE; simp), B6, Rd.nil, (by intro b off h; cases h), (Below.refl _ _).mono HLE.out⟩
    case round =>
      obtain ⟨k, lA, lc, cn, ft, hk, rfl, rfl, HFT, HCN, HNE, HBK, HRD, HLA, hwr⟩ := hrel
      have B3 := HB3.out.below hwr H35.out.1
      have B5 := HB5.out.below hwr H35.out.2
      have HWS : Hid (W5.heap.size < wr.heap.size) := Lib.hid (by have h1 := hwr.size; have h2 := S6.out; omega)
      have hW : Below w.heap.size w wr := HB6.out.trans (hwr.mono (by have := H35.out; have := S3.out; omega))
      have HBK5 := Lib.hid (HBK.out.cell 5 (v := .slice lA k lc) rfl)
      by_cases hi : k < us.length
      · obtain ⟨ub, uo, f, t, rfl, hub, hux, d0, d1⟩ := (HU.out.st hW).iv hi
        have HI := Lib.hid hi
        have HUX := Lib.hid hux
        obtain ⟨Y7, hY7⟩ : ∃ Y, wr.alloc (.cells #[.int .i64 f, .int .i64 t] 59) = Y := ⟨_, rfl⟩
        have hb7 : Below wr.heap.size wr Y7 := by rw [← hY7]; exact (Below.refl _ _).al _
        have B7 : Blk Y7 wr.heap.size #[.int .i64 f, .int .i64 t] 59 := by rw [← hY7]; exact Blk.new wr _ _
        have B5 := B5.below hb7 B5.lt
        have B3 := B3.below hb7 B3.lt
        have BK := HBK.out.below hb7 HBK.out.lt
        have hW7 := hW.st hb7
        have hwr7 := hwr.trans (hb7.mono (by have := hwr.size; have := S6.out; omega))
        have i0 := B7.cell 0 (v := .int .i64 f) rfl
        have i1 := B7.cell 1 (v := .int .i64 t) rfl
        have hrd7 := HRD.out.st hb7
        have hok7 : ZOk Y7 y := ⟨(HOK5.out.1.keep (HB56.out.trans hwr7)).more (by have := hb7.size; have := HWS.out; omega), (HOK5.out.2.keep (HB56.out.trans hwr7)).more (by have := hb7.size; have := HWS.out; omega)⟩
        have CP := Lib.hid (pfee_any y f t hok7 (by omega))
        rw [(HFE.out f t).1, (HFE.out f t).2] at CP
        have hfb := feeN_bnd z f t
        have hsn := feSum_snoc (z := z) hux
        have hln := lnL_snoc (z := z) hux
        have hmem := take_snoc hux
        have hsb := (feSum_bnd z (us.take k)).1
        simp only at hsn hln
        generalize hfe : feeE z f t = fe at *
        generalize hfn : feeN z f t = fn at *
        have HFB := Lib.hid hfb
        have HSN := Lib.hid hsn
        have HLN := Lib.hid hln
        have HMEM := Lib.hid hmem
        have HSB := Lib.hid hsb
        have HFEE := Lib.hid hfe
        clear hux hub hi hfb hsn hln hmem hsb hfe hfn hok7
        have HB7 := Lib.hid hb7
        clear hb7
        go_wp2_with (refine wpList_boxLoad rfl (ty := 76) (x := .tmp 8) (cs := #[.string y.name, .slice y.hA y.hs.length y.hc, .slice y.sA y.ss.length y.sc, .int .i64 y.grace, .int .i64 y.free, .int .i64 y.dayMax, .int .i64 y.maxStay]) rfl B5 rfl ⟨_, Tryz.underlying76, by kernel_rfl⟩ ?_)
        refine CP.out.mono ?_
        rintro e W8 ⟨rfl, hb8⟩
        have B3 := B3.below hb8 B3.lt
        have BK := BK.below hb8 BK.lt
        have hW8 := hW7.st hb8
        have hwr8 : Below W5.heap.size W6 W8 := hwr7.trans (hb8.mono (by have := HB7.out.size; have := HWS.out; omega))
        have hrd8 := hrd7.st hb8
        clear CP B5 i0 i1 B7
        by_cases he : fe = 0
        · subst he
          obtain ⟨L, hL⟩ : ∃ L, lnL z (us.take k) = L := ⟨_, rfl⟩
          have hLl : L.length = k := by rw [← hL, lnL_len, List.length_take]; have := HI.out; omega
          rw [hL] at hrd8
          obtain ⟨Y9, hY9⟩ : ∃ Y, W8.alloc (.cells #[.string (⟨#[115, 116, 97, 121]⟩ : ByteArray), .int .i64 fn] 123) = Y := ⟨_, rfl⟩
          obtain ⟨Y10, hY10⟩ : ∃ Y, Y9.alloc (.cells #[.slice lA k lc, .slice (some ⟨W8.heap.size, 0, none⟩) 1 1] 64) = Y := ⟨_, rfl⟩
          have h9 : Below W8.heap.size W8 Y9 := by rw [← hY9]; exact (Below.refl _ _).al _
          have h10 : Below W8.heap.size W8 Y10 := by rw [← hY10]; exact h9.al _
          have hr9 : Rd encLn 2 Y9 Y9.heap.size (some ⟨W8.heap.size, 0, none⟩) [(stayS, fn)] := by rw [← hY9]; exact Rd.lit W8 _ encLn_ok rfl (by simp)
          have hr10 : Rd encLn 2 Y10 Y10.heap.size (some ⟨W8.heap.size, 0, none⟩) [(stayS, fn)] := by rw [← hY10]; exact hr9.st ((Below.refl _ _).al _)
          have B10 : Blk Y10 Y9.heap.size #[.slice lA k lc, .slice (some ⟨W8.heap.size, 0, none⟩) 1 1] 64 := by rw [← hY10]; exact Blk.new _ _ _
          have s9 : Y9.heap.size = W8.heap.size + 1 := by rw [← hY9]; simp
          have CJ := join2_any (c := 2) (l1 := L) (l2 := [(stayS, fn)]) B10.lt (by rw [hLl]; exact B10.cell 0 rfl) (B10.cell 1 rfl) (hrd8.st h10) hr10 (by have := HI.out; omega) (by simp)
          rw [hLl, s9] at CJ
          have CJ := Lib.hid CJ
          have d5 := BK.cell 5 (v := .slice lA k lc) rfl
          have B3 := B3.below h10 B3.lt
          have BK := BK.below h10 BK.lt
          have hW10 := hW8.st h10
          have hwr10 : Below W5.heap.size W6 Y10 := hwr8.trans (h10.mono (by have := HB7.out.size; have := hb8.size; have := HWS.out; omega))
          have HB8 := Lib.hid hb8
          have HB10 := Lib.hid h10
          have HL := Lib.hid hL
          have c5 := BK.cell 5 (v := .slice lA k lc) rfl
          clear h9 h10 hr9 hr10 hb8 hL hrd8 hrd7 hwr8 hwr7 hW8 hW7 hLl
          go_wp2_with fail
          refine CJ.out.mono ?_
          rintro e W11 ⟨A9, c9, rfl, hown, h11⟩
          have B3 := B3.below h11 B3.lt
          have BK := BK.below h11 BK.lt
          have hW11 := hW10.st h11
          have hwr11 : Below W5.heap.size W6 W11 := hwr10.trans (h11.mono (by have := HB7.out.size; have := HB8.out.size; have := HB10.out.size; have := HWS.out; omega))
          have HOWN := Lib.hid hown
          have c5 := BK.cell 5 (v := .slice lA k lc) rfl
          have f5 := BK.frozen 5
          obtain ⟨W12, hW12⟩ : ∃ Y, W11.setCell ⟨W5.heap.size, 5, none⟩ (.slice A9 (k + 1) c9) = Y := ⟨_, rfl⟩
          have BK12 : Blk W12 W5.heap.size #[.string key, .string pl, .string y.name, .int .i64 0, .int .i64 tt, .slice A9 (k + 1) c9, .int .i64 cn] 66 := by rw [← hW12]; exact BK.set 5 _
          have hwr12 : Below W5.heap.size W6 W12 := by rw [← hW12]; exact hwr11.setCell (Nat.le_refl _) _
          have HAP : Hid (∀ b off, A9 = some ⟨b, off, none⟩ → W5.heap.size < b) := Lib.hid (by
            intro b off hb
            rcases hown.form with ⟨q, _⟩ | ⟨g, q, h1, _⟩
            · rw [q] at hb; cases hb
            · rw [q] at hb; injection hb with hb; injection hb with hb; subst hb
              have := HB7.out.size; have := HB8.out.size; have := HB10.out.size; have := HWS.out
              omega)
          have hrd12 : Rd encLn 2 W12 W12.heap.size A9 (lnL z (us.take (k + 1))) := by
            rw [HLN.out, HL.out, ← hW12]
            refine (hown.rd encLn_ok).set1 ?_ _
            intro b off hb
            have := HAP.out b off hb
            show b ≠ W5.heap.size
            omega
          have HB12 := Lib.hid BK12
          have HR12 := Lib.hid hrd12
          have c6 := BK12.cell 6 (v := .int .i64 cn) rfl
          have f6 := BK12.frozen 6
          have HNE1 : Hid (noE z (us.take (k + 1))) := Lib.hid (by
            intro u hu
            rw [HMEM.out] at hu
            rcases List.mem_append.1 hu with h1 | h1
            · exact HNE.out u h1
            · obtain rfl := List.mem_singleton.1 h1; exact HFEE.out)
          have hlt12 : W5.heap.size < W12.heap.size := BK12.lt
          clear hown CJ BK BK12 hrd12 B10 hwr11 hW11 hW10 hwr10 h11
          cases ft with
          | false =>
            go_wp2_with fail
            go_roundw
            case rel => exact ⟨k + 1, A9, c9, cn, false, HI.out, by go_num, rfl, Lib.hid (by have h1 := HFT.out; have h2 := HSN.out; have h3 := HFB.out; have h4 := of_decide_eq_false h1.symm; rw [h2]; symm; apply decide_eq_false; omega), Lib.hid (by intro h; cases h), HNE1, HB12, HR12, HAP, hwr12⟩
            case measure => have := HI.out; simp [RowKit.intOf]; omega
          | true =>
            have hcn := HCN.out rfl
            have hft := of_decide_eq_true HFT.out.symm
            have CA := add_any (a := cn) (b := fn) (by rw [hcn]; have := HSB.out; omega) (by have := HFB.out; omega) W12
            have hfit : fitsB (cn + fn) = decide (feSum z (us.take (k + 1)) ≤ 1125899906842624) := by
              have h1 := HSB.out; have h2 := HFB.out; have h3 := HSN.out
              unfold fitsB; rw [Bool.eq_iff_iff]; simp; omega
            rw [hfit] at CA
            have HFI := Lib.hid hcn
            clear hcn hft hfit
            by_cases hq : feSum z (us.take (k + 1)) ≤ 1125899906842624
            all_goals
              have HQ := Lib.hid hq
              simp only [hq, decide_true, decide_false, if_true, if_false, Bool.false_eq_true] at CA
              have CA := Lib.hid CA
              clear hq
              go_wp2_with fail
              refine CA.out.mono ?_
              rintro e W13 ⟨rfl, h13⟩
              have HB13 := Lib.hid (HB12.out.below h13 HB12.out.lt)
              have HR13 := Lib.hid (HR12.out.st h13)
              have c6 := HB13.out.cell 6 (v := .int .i64 cn) rfl
              have f6 := HB13.out.frozen 6
              have hwr13 : Below W5.heap.size W6 W13 := hwr12.trans (h13.mono (by omega))
              clear h13 CA
            · obtain ⟨W14, hW14⟩ : ∃ Y, W13.setCell ⟨W5.heap.size, 6, none⟩ (.int .i64 (cn + fn)) = Y := ⟨_, rfl⟩
              have HB14 : Hid (Blk W14 W5.heap.size #[.string key, .string pl, .string y.name, .int .i64 0, .int .i64 tt, .slice A9 (k + 1) c9, .int .i64 (cn + fn)] 66) := Lib.hid (by rw [← hW14]; exact HB13.out.set 6 _)
              have hwr14 : Below W5.heap.size W6 W14 := by rw [← hW14]; exact hwr13.setCell (Nat.le_refl _) _
              have HR14 : Hid (Rd encLn 2 W14 W14.heap.size A9 (lnL z (us.take (k + 1)))) := Lib.hid (by
                rw [← hW14]; refine HR13.out.set1 ?_ _; intro b off hb; have := HAP.out b off hb; show b ≠ W5.heap.size; omega)
              go_wp2_with fail
              go_roundw
              case rel => exact ⟨k + 1, A9, c9, cn + fn, true, HI.out, by go_num, rfl, Lib.hid (decide_eq_true HQ.out).symm, Lib.hid (fun _ => by rw [HFI.out, HSN.out]), HNE1, HB14, HR14, HAP, hwr14⟩
              case measure => have := HI.out; simp [RowKit.intOf]; omega
            · obtain ⟨W14, hW14⟩ : ∃ Y, W13.setCell ⟨W5.heap.size, 6, none⟩ (.int .i64 0) = Y := ⟨_, rfl⟩
              have HB14 : Hid (Blk W14 W5.heap.size #[.string key, .string pl, .string y.name, .int .i64 0, .int .i64 tt, .slice A9 (k + 1) c9, .int .i64 0] 66) := Lib.hid (by rw [← hW14]; exact HB13.out.set 6 _)
              have hwr14 : Below W5.heap.size W6 W14 := by rw [← hW14]; exact hwr13.setCell (Nat.le_refl _) _
              have HR14 : Hid (Rd encLn 2 W14 W14.heap.size A9 (lnL z (us.take (k + 1)))) := Lib.hid (by
                rw [← hW14]; refine HR13.out.set1 ?_ _; intro b off hb; have := HAP.out b off hb; show b ≠ W5.heap.size; omega)
              go_wp2_with fail
              go_roundw
              case rel => exact ⟨k + 1, A9, c9, 0, false, HI.out, by go_num, rfl, Lib.hid (decide_eq_false (by have := HQ.out; omega)).symm, Lib.hid (by intro h; cases h), HNE1, HB14, HR14, HAP, hwr14⟩
              case measure => have := HI.out; simp [RowKit.intOf]; omega
        · have HE := Lib.hid he
          go_wp2_with (refine wpList_boxStore rfl (ty := 66) (x := .tmp 6) (y := .tmp 52) (cells := #[.string ⟨#[]⟩, .string ⟨#[]⟩, .string ⟨#[]⟩, .int .i64 0, .int .i64 0, .slice none 0 0, .int .i64 0]) rfl B3 rfl rfl (by kernel_rfl) rfl (by kernel_rfl) ?_; intro w9 B9 hoz hbz)
          refine bodyPost_ret (v := .tuple #[.agg #[.string ⟨#[]⟩, .string ⟨#[]⟩, .string ⟨#[]⟩, .int .i64 0, .int .i64 0, .slice none 0 0, .int .i64 0], .int .i64 fe]) (results_box_tmp Tryz.results14 _ (.int .i64 fe) rfl rfl B9 ⟨_, Tryz.underlying66, by kernel_rfl⟩) rfl ?_
          exact ⟨zeroC, fe, none, 0, .fee z fe HF.out ⟨k, (f, t), HUX.out, HNE.out, HFEE.out, HE.out⟩, rfl, Rd.nil, hbz _ _ (by have := S3.out; omega) hW8⟩
      · obtain rfl : k = us.length := by omega
        rw [List.take_length] at HFT HNE HRD
        clear HBK5
        cases ft with
        | false =>
          have HBIG := Lib.hid (of_decide_eq_false HFT.out.symm)
          go_wp2_with (refine wpList_boxStore rfl (ty := 66) (x := .tmp 6) (y := .tmp 76) (cells := #[.string ⟨#[]⟩, .string ⟨#[]⟩, .string ⟨#[]⟩, .int .i64 0, .int .i64 0, .slice none 0 0, .int .i64 0]) rfl B3 rfl rfl (by kernel_rfl) rfl (by kernel_rfl) ?_; intro w9 B9 hoz hbz)
          refine bodyPost_ret (v := .tuple #[.agg #[.string ⟨#[]⟩, .string ⟨#[]⟩, .string ⟨#[]⟩, .int .i64 0, .int .i64 0, .slice none 0 0, .int .i64 0], .int .i64 13]) (results_box_tmp Tryz.results14 _ (.int .i64 13) rfl rfl B9 ⟨_, Tryz.underlying66, by kernel_rfl⟩) rfl ?_
          exact ⟨zeroC, 13, none, 0, .big z HF.out HNE.out (by have := HBIG.out; omega), rfl, Rd.nil, hbz _ _ (by have := S3.out; omega) hW⟩
        | true =>
          have HFIT := Lib.hid (of_decide_eq_true HFT.out.symm)
          have hcn := HCN.out rfl
          rw [List.take_length] at hcn
          subst hcn
          have BK := HBK.out
          go_wp2_with (first | (refine wpList_boxLoad rfl (ty := 66) (x := .tmp 10) (cs := #[.string key, .string pl, .string y.name, .int .i64 0, .int .i64 tt, .slice lA us.length lc, .int .i64 (feSum z us)]) rfl BK rfl ⟨_, Tryz.underlying66, by kernel_rfl⟩ ?_) | (refine wpList_boxStore rfl (ty := 66) (x := .tmp 6) (y := .tmp 77) (cells := #[.string key, .string pl, .string y.name, .int .i64 0, .int .i64 tt, .slice lA us.length lc, .int .i64 (feSum z us)]) rfl B3 rfl rfl (by kernel_rfl) rfl (by kernel_rfl) ?_; intro w9 B9 hoz hbz))
          refine bodyPost_ret (v := .tuple #[.agg #[.string key, .string pl, .string y.name, .int .i64 0, .int .i64 tt, .slice lA us.length lc, .int .i64 (feSum z us)], .int .i64 0]) (results_box_tmp Tryz.results14 _ (.int .i64 0) rfl rfl B9 ⟨_, Tryz.underlying66, by kernel_rfl⟩) rfl ?_
          refine ⟨_, 0, lA, lc, .ok z HF.out HNE.out HFIT.out, ?_, ?_, hbz _ _ (by have := S3.out; omega) hW⟩
          · simp only [CHV, lnL_len, HKEY.out, HNM.out, keyP]
          · have hr : Rd encLn 2 w9 wr.heap.size lA (lnL z us) := HRD.out.keepIf fun b off hb _ o => World.cell?_of_block (hoz b (by have := HLA.out b off hb; have := H35.out; omega))
            exact hr.more ((hbz 0 wr (Nat.zero_le _) (Below.refl _ _)).size)
end Go.Proofs.YtcpfiiapfggmpaaGreat
