/- The reference's Stay, walked. -/
import Derived.Test.YtcpfiiapfggmpaaGreatStayP
import Derived.Test.YtcpfiiapfggmpaaGreatParkRFee
import Derived.Test.YtcpfiiapfggmpaaGreatJZoneRFind
import Derived.Test.YtcpfiiapfggmpaaGreatJNetChk
set_option linter.unusedSimpArgs false
set_option linter.unusedSimpArgs false
namespace Go.Proofs.YtcpfiiapfggmpaaGreat
open Go.RowKit Go.Lib

set_option maxRecDepth 100000 in
set_option maxHeartbeats 16000000 in
theorem rstay_any {zA uA : Option Addr} (zc_ uc : Nat) (o0 o1 o2 o3 o4 o5 o6 o7 o8 o9 o10 o11 o12 o13 o14 o16 o17 o18 o19 o20 o21 o22 o23 o24 : Value) (id zn pl : ByteArray) (tf tt : Int) {zs : List Zn} {us : List Iv} {w : World}
    (hz : Rd encZ 7 w w.heap.size zA zs) (hzo : ZsOk w zs) (hsm : ∀ z ∈ zs, small z) (hzl : zs.length ≤ 9223372036854775807) (hu : Rd encIv 2 w w.heap.size uA us) (hul : us.length ≤ 8) (hid : id.size ≤ 1000000000000000000) :
    Calls Tryz.prog 15 #[.agg #[o0, o1, o2, o3, o4, o5, o6, o7, o8, o9, o10, o11, o12, o13, o14, .slice zA zs.length zc_, o16, o17, o18, o19, o20, o21, o22, o23, o24], .agg #[.string id, .string zn, .string pl, .int .i64 tf, .int .i64 tt], .slice uA us.length uc] w fun e w' => StayE zs id zn pl tt us w w' e := by
  obtain ⟨Y1, hY1⟩ : ∃ Y, w.alloc (.cells #[o0, o1, o2, o3, o4, o5, o6, o7, o8, o9, o10, o11, o12, o13, o14, .slice zA zs.length zc_, o16, o17, o18, o19, o20, o21, o22, o23, o24] 46) = Y := ⟨_, rfl⟩
  obtain ⟨Y2, hY2⟩ : ∃ Y, Y1.alloc (.cells #[.string id, .string zn, .string pl, .int .i64 tf, .int .i64 tt] 61) = Y := ⟨_, rfl⟩
  obtain ⟨Y3, hY3⟩ : ∃ Y, Y2.alloc (.cells #[.string ⟨#[]⟩, .string ⟨#[]⟩, .string ⟨#[]⟩, .int .i64 0, .int .i64 0, .slice none 0 0, .int .i64 0] 66) = Y := ⟨_, rfl⟩
  have b1 : Below w.heap.size w Y1 := by rw [← hY1]; exact (Below.refl _ w).al _
  have b2 : Below w.heap.size w Y2 := by rw [← hY2]; exact b1.al _
  have b3 : Below w.heap.size w Y3 := by rw [← hY3]; exact b2.al _
  have B1 : Blk Y3 w.heap.size #[o0, o1, o2, o3, o4, o5, o6, o7, o8, o9, o10, o11, o12, o13, o14, .slice zA zs.length zc_, o16, o17, o18, o19, o20, o21, o22, o23, o24] 46 := by rw [← hY3, ← hY2, ← hY1]; exact ((Blk.new w _ _).alloc _).alloc _
  have B2 : Blk Y3 Y1.heap.size #[.string id, .string zn, .string pl, .int .i64 tf, .int .i64 tt] 61 := by rw [← hY3, ← hY2]; exact (Blk.new Y1 _ _).alloc _
  have B3 : Blk Y3 Y2.heap.size #[.string ⟨#[]⟩, .string ⟨#[]⟩, .string ⟨#[]⟩, .int .i64 0, .int .i64 0, .slice none 0 0, .int .i64 0] 66 := by rw [← hY3]; exact Blk.new Y2 _ _
  have s1 : Y1.heap.size = w.heap.size + 1 := by rw [← hY1]; simp
  have s2 : Y2.heap.size = Y1.heap.size + 1 := by rw [← hY2]; simp
  have c15 := B1.cell 15 (v := .slice zA zs.length zc_) rfl
  have q1 := B2.cell 1 (v := .string zn) rfl
  have CF := Lib.hid (rfind_any (l := zs) zc_ (nm := zn) (hz.st b3) (hzo.st b3) hzl)
  have S3 : Hid (w.heap.size < Y2.heap.size) := Lib.hid (by omega)
  have HU := Lib.hid hu
  have HSM := Lib.hid hsm
  clear hz hzo hu b1 b2 s1 s2 B1 hsm
  go_enter Tryz.func15, Tryz.ntmps15
  go_wp2_with fail
  refine CF.out.mono ?_
  rintro e W4 ⟨y, rfl, hy, hok, hbn⟩
  have b4 := b3.st hbn
  have B2 := B2.below hbn B2.lt
  have B3 := B3.below hbn B3.lt
  have hlt24 : Y2.heap.size < W4.heap.size := B3.lt
  simp only [ZV]
  obtain ⟨W5, hW5⟩ : ∃ Y, W4.alloc (.cells #[.string y.name, .slice y.hA y.hs.length y.hc, .slice y.sA y.ss.length y.sc, .int .i64 y.grace, .int .i64 y.free, .int .i64 y.dayMax, .int .i64 y.maxStay] 76) = Y := ⟨_, rfl⟩
  have hb5 : Below W4.heap.size W4 W5 := by rw [← hW5]; exact (Below.refl _ _).al _
  have b5 := b4.st hb5
  have B2 := B2.below hb5 B2.lt
  have B3 := B3.below hb5 B3.lt
  have B5 : Blk W5 W4.heap.size #[.string y.name, .slice y.hA y.hs.length y.hc, .slice y.sA y.ss.length y.sc, .int .i64 y.grace, .int .i64 y.free, .int .i64 y.dayMax, .int .i64 y.maxStay] 76 := by rw [← hW5]; exact Blk.new W4 _ _
  have hok5 := hok.st hb5
  have H35a : Hid (Y2.heap.size < W4.heap.size ∧ W4.heap.size < W5.heap.size) := Lib.hid ⟨hlt24, B5.lt⟩
  clear CF c15 q1 hbn hb5 hok b4 b3 hY1 hY2 hY3
  cases hf : findZ zs zn with
  | none =>
    have HF := Lib.hid hf
    simp only [hf, Option.isSome_none] at hy ⊢
    clear hf
    go_wp2_with (refine wpList_boxStore rfl (ty := 66) (x := .tmp 6) (y := .tmp 26) (cells := #[.string ⟨#[]⟩, .string ⟨#[]⟩, .string ⟨#[]⟩, .int .i64 0, .int .i64 0, .slice none 0 0, .int .i64 0]) rfl B3 rfl rfl (by kernel_rfl) rfl (by kernel_rfl) ?_; intro w7 B7 hoz hbz)
    refine bodyPost_ret (v := .tuple #[.agg #[.string ⟨#[]⟩, .string ⟨#[]⟩, .string ⟨#[]⟩, .int .i64 0, .int .i64 0, .slice none 0 0, .int .i64 0], .int .i64 23]) (results_box_tmp Tryz.results15 _ (.int .i64 23) rfl rfl B7 ⟨_, Tryz.underlying66, by kernel_rfl⟩) rfl ?_
    exact ⟨zeroC, 23, none, 0, .zone HF.out, rfl, Rd.nil, hbz _ _ (by have := S3.out; omega) b5⟩
  | some z =>
    have HF := Lib.hid hf
    have hzy : zc y = zc z := by rw [hf] at hy; exact hy
    have hnm : y.name = z.name := congrArg Prod.fst hzy
    have HNM := Lib.hid hnm
    have HFE := Lib.hid (fun (a b : Int) => fee_zc hzy a b)
    have hsml : y.hs.length ≤ 60 := by
      have h1 : z ∈ zs := List.mem_of_find?_eq_some hf
      have h2 := (HSM.out z h1).1
      have h3 : y.hs = z.hs := congrArg (fun q => q.2.1) hzy
      rw [h3]; exact h2
    simp only [hf, Option.isSome_some] at hy ⊢
    have q0 := B2.cell 0 (v := .string id) rfl
    have q2 := B2.cell 2 (v := .string pl) rfl
    have q4 := B2.cell 4 (v := .int .i64 tt) rfl
    have z0 := B5.cell 0 (v := .string y.name) rfl
    have hsz : ¬ 9223372036854775807 < (⟨#[112, 58]⟩ : ByteArray).size + id.size := by show ¬ _ < 2 + id.size; omega
    have hsz2 : ¬ 9223372036854775807 < 2 + id.size := by omega
    clear hf hy hzy hnm
    go_wp2
    obtain ⟨W6, hW6⟩ : ∃ Y, W5.alloc (.cells #[.string ((⟨#[112, 58]⟩ : ByteArray) ++ id), .string pl, .string y.name, .int .i64 0, .int .i64 tt, .slice none 0 0, .int .i64 0] 66) = Y := ⟨_, rfl⟩
    rw [hW6]
    have hb6 : Below W5.heap.size W5 W6 := by rw [← hW6]; exact (Below.refl _ _).al _
    have b6 := b5.st hb6
    have B3 := B3.below hb6 B3.lt
    have B5 := B5.below hb6 B5.lt
    have B6 : Blk W6 W5.heap.size #[.string ((⟨#[112, 58]⟩ : ByteArray) ++ id), .string pl, .string y.name, .int .i64 0, .int .i64 tt, .slice none 0 0, .int .i64 0] 66 := by rw [← hW6]; exact Blk.new W5 _ _
    have s6 : W6.heap.size = W5.heap.size + 1 := by rw [← hW6]; simp
    have S6 := Lib.hid s6
    have HLE : Hid (W5.heap.size ≤ W6.heap.size) := Lib.hid (by omega)
    have HB3 := Lib.hid B3
    have HB5 := Lib.hid B5
    have HB6 := Lib.hid b6
    have HOK5 := Lib.hid hok5
    have HB56 := Lib.hid hb6
    have H35 : Hid (Y2.heap.size < W5.heap.size ∧ W4.heap.size < W5.heap.size) := Lib.hid ⟨by have := H35a.out; omega, H35a.out.2⟩
    clear hW6 hb6 b6 B3 B5 s6 q0 q2 q4 z0 B2 b5 hok5 hW5 H35a
    generalize hkey : ((⟨#[112, 58]⟩ : ByteArray) ++ id) = key at *
    have HKEY := Lib.hid hkey
    clear hkey
    go_loopw [11] (fun i wr => ∃ (k : Nat) (lA : Option Addr) (lc : Nat), k ≤ us.length ∧ i = .int .i64 k ∧ Hid (noE z (us.take k)) ∧ Hid (Blk wr W5.heap.size #[.string key, .string pl, .string y.name, .int .i64 0, .int .i64 tt, .slice lA k lc, .int .i64 0] 66) ∧ Hid (Own 123 encLn 2 wr W6.heap.size lA lc (lnL z (us.take k))) ∧ Below W5.heap.size W6 wr) (fun i _ => us.length - (RowKit.intOf i).toNat)
    case atStart => exact ⟨0, none, 0, Nat.zero_le _, rfl, (by unfold Hid noE; simp), B6, Own.nil _ _, (Below.refl _ _).mono HLE.out⟩
    case round =>
      obtain ⟨k, lA, lc, hk, rfl, HNE, HBK, HOW, hwr⟩ := hrel
      have B3 := HB3.out.below hwr H35.out.1
      have B5 := HB5.out.below hwr H35.out.2
      have HWS : Hid (W5.heap.size < wr.heap.size ∧ W6.heap.size ≤ wr.heap.size) := Lib.hid ⟨by have h1 := hwr.size; have h2 := S6.out; omega, hwr.size⟩
      have hW : Below w.heap.size w wr := HB6.out.trans (hwr.mono (by have := H35.out; have := S3.out; omega))
      have BK := HBK.out
      by_cases hi : k < us.length
      · obtain ⟨ub, uo, f, t, rfl, hub, hux, d0, d1⟩ := (HU.out.st hW).iv hi
        have hub2 : ub < wr.heap.size := hub
        have HUX := Lib.hid hux
        have HI := Lib.hid hi
        have hokr : ZOk wr y := ⟨(HOK5.out.1.keep (HB56.out.trans hwr)).more (by have := HWS.out; omega), (HOK5.out.2.keep (HB56.out.trans hwr)).more (by have := HWS.out; omega)⟩
        have CP := Lib.hid (fun (X : World) (hX : Below wr.heap.size wr X) => kfee_any y f t (hokr.st hX) (by omega))
        rw [(HFE.out f t).1, (HFE.out f t).2] at CP
        have hln := lnL_snoc (z := z) hux
        have hmem := take_snoc hux
        simp only at hln
        generalize hfe : feeE z f t = fe at *
        generalize hfn : feeN z f t = fn at *
        have HLN := Lib.hid hln
        have HMEM := Lib.hid hmem
        have HFEE := Lib.hid hfe
        have bX := Below.refl wr.heap.size wr
        clear hux hub hln hmem hfe hfn hokr
        go_wp2_with fail
        refine wp_region_held_drew (S := fun w' => Blk w' W4.heap.size #[.string y.name, .slice y.hA y.hs.length y.hc, .slice y.sA y.ss.length y.sc, .int .i64 y.grace, .int .i64 y.free, .int .i64 y.dayMax, .int .i64 y.maxStay] 76 ∧ w'.cell? ⟨ub, uo + k * 2, none⟩ = some (.int .i64 f) ∧ w'.cell? ⟨ub, uo + k * 2 + 1, none⟩ = some (.int .i64 t)) (by kernel_rfl) ?_ (fun hHeld => ?_)
        (focus exact ⟨B5.drew, d0, d1⟩)
        have bX := bX.drew
        change wpAnyH _ _ _ _ _ 11 _ _ _
        refine wpAnyH_take (i := 0) (v := .agg #[.string y.name, .slice y.hA y.hs.length y.hc, .slice y.sA y.ss.length y.sc, .int .i64 y.grace, .int .i64 y.free, .int .i64 y.dayMax, .int .i64 y.maxStay]) (by simp only [List.getElem?_toArray, List.getElem?_cons_zero, List.getElem?_cons_succ]; rfl) (by kernel_rfl) (by kernel_rfl) (by kernel_rfl) (by intro _ _ _ h; exact h) (yieldsIf_boxLoad (by rfl) rfl rfl (fun _ hw => hw.1) ⟨_, Tryz.underlying76, by kernel_rfl⟩) (by assumption) ?_; (try simp only [Act.put, List.setIfInBounds_toArray, List.set_cons_zero, List.set_cons_succ, List.getElem_toArray, List.getElem_cons_zero, List.getElem_cons_succ])
        refine wpAnyH_take (i := 1) (v := ?_) (by simp only [List.getElem?_toArray, List.getElem?_cons_zero, List.getElem?_cons_succ]; rfl) (by kernel_rfl) (by kernel_rfl) (by kernel_rfl) (by intro _ _ _ h; exact h) (Or.inl ⟨by rfl, ?_⟩) (by assumption) ?_; rotate_left; (focus (intro w1 hSw; (try dsimp only at hSw); go_simp; (try with_reducible rfl))); (try simp only [Act.put, List.setIfInBounds_toArray, List.set_cons_zero, List.set_cons_succ, List.getElem_toArray, List.getElem_cons_zero, List.getElem_cons_succ])
        refine wpAnyH_take (i := 2) (v := ?_) (by simp only [List.getElem?_toArray, List.getElem?_cons_zero, List.getElem?_cons_succ]; rfl) (by kernel_rfl) (by kernel_rfl) (by kernel_rfl) (by intro _ _ _ h; exact h) (Or.inl ⟨by rfl, ?_⟩) (by assumption) ?_; rotate_left; (focus (intro w1 hSw; (try dsimp only at hSw); go_simp; (try with_reducible rfl))); (try simp only [Act.put, List.setIfInBounds_toArray, List.set_cons_zero, List.set_cons_succ, List.getElem_toArray, List.getElem_cons_zero, List.getElem_cons_succ])
        refine wpAnyH_take (i := 3) (v := ?_) (by simp only [List.getElem?_toArray, List.getElem?_cons_zero, List.getElem?_cons_succ]; rfl) (by kernel_rfl) (by kernel_rfl) (by kernel_rfl) (by intro _ _ _ h; exact h) (Or.inl ⟨by rfl, ?_⟩) (by assumption) ?_; rotate_left; (focus (intro w1 hSw; (try dsimp only at hSw); go_simp; (try with_reducible rfl))); (try simp only [Act.put, List.setIfInBounds_toArray, List.set_cons_zero, List.set_cons_succ, List.getElem_toArray, List.getElem_cons_zero, List.getElem_cons_succ])
        refine wpAnyH_take (i := 4) (v := ?_) (by simp only [List.getElem?_toArray, List.getElem?_cons_zero, List.getElem?_cons_succ]; rfl) (by kernel_rfl) (by kernel_rfl) (by kernel_rfl) (by intro _ _ _ h; exact h) (Or.inl ⟨by rfl, ?_⟩) (by assumption) ?_; rotate_left; (focus (intro w1 hSw; (try dsimp only at hSw); go_simp; (try with_reducible rfl))); (try simp only [Act.put, List.setIfInBounds_toArray, List.set_cons_zero, List.set_cons_succ, List.getElem_toArray, List.getElem_cons_zero, List.getElem_cons_succ])
        refine wpAnyH_ready (rs := [5]) (by kernel_rfl) (by simp) ?_; refine AllReadyH.cons (by simp only [List.getElem?_toArray, List.getElem?_cons_zero, List.getElem?_cons_succ]; rfl) (fun K hK => ?_) AllReadyH.nil; rw [if_pos (by rfl)]; go_wp2_with fail
        refine (CP.out _ bX).mono ?_
        rintro e W8 ⟨rfl, hb8⟩
        have bX := bX.st hb8
        go_wp2_with fail
        refine hK.out _ _ ?_ (fun hHeld => ?_)
        (focus exact ⟨B5.below bX B5.lt, (bX.cell hub2).trans d0, (bX.cell hub2).trans d1⟩)
        clear hK K
        (try simp only [Act.put, List.setIfInBounds_toArray, List.set_cons_zero, List.set_cons_succ, List.getElem_toArray, List.getElem_cons_zero, List.getElem_cons_succ])
        refine wpAnyH_take (i := 6) (v := ?_) (by simp only [List.getElem?_toArray, List.getElem?_cons_zero, List.getElem?_cons_succ]; rfl) (by kernel_rfl) (by kernel_rfl) (by kernel_rfl) (by intro _ _ _ h; exact h) (Or.inl ⟨by rfl, ?_⟩) (by assumption) ?_; rotate_left; (focus (intro w1 hSw; (try dsimp only at hSw); go_simp; (try with_reducible rfl))); (try simp only [Act.put, List.setIfInBounds_toArray, List.set_cons_zero, List.set_cons_succ, List.getElem_toArray, List.getElem_cons_zero, List.getElem_cons_succ])
        refine wpAnyH_take (i := 7) (v := ?_) (by simp only [List.getElem?_toArray, List.getElem?_cons_zero, List.getElem?_cons_succ]; rfl) (by kernel_rfl) (by kernel_rfl) (by kernel_rfl) (by intro _ _ _ h; exact h) (Or.inl ⟨by rfl, ?_⟩) (by assumption) ?_; rotate_left; (focus (intro w1 hSw; (try dsimp only at hSw); go_simp; (try with_reducible rfl))); (try simp only [Act.put, List.setIfInBounds_toArray, List.set_cons_zero, List.set_cons_succ, List.getElem_toArray, List.getElem_cons_zero, List.getElem_cons_succ])
        refine wpAnyH_take (i := 8) (v := ?_) (by simp only [List.getElem?_toArray, List.getElem?_cons_zero, List.getElem?_cons_succ]; rfl) (by kernel_rfl) (by kernel_rfl) (by kernel_rfl) (by intro _ _ _ h; exact h) (Or.inl ⟨by rfl, ?_⟩) (by assumption) ?_; rotate_left; (focus (intro w1 hSw; (try dsimp only at hSw); go_simp; (try with_reducible rfl))); (try simp only [Act.put, List.setIfInBounds_toArray, List.set_cons_zero, List.set_cons_succ, List.getElem_toArray, List.getElem_cons_zero, List.getElem_cons_succ])
        refine wpAnyH_take (i := 9) (v := ?_) (by simp only [List.getElem?_toArray, List.getElem?_cons_zero, List.getElem?_cons_succ]; rfl) (by kernel_rfl) (by kernel_rfl) (by kernel_rfl) (by intro _ _ _ h; exact h) (Or.inl ⟨by rfl, ?_⟩) (by assumption) ?_; rotate_left; (focus (intro w1 hSw; (try dsimp only at hSw); go_simp; (try with_reducible rfl))); (try simp only [Act.put, List.setIfInBounds_toArray, List.set_cons_zero, List.set_cons_succ, List.getElem_toArray, List.getElem_cons_zero, List.getElem_cons_succ])
        refine wpAnyH_take (i := 10) (v := ?_) (by simp only [List.getElem?_toArray, List.getElem?_cons_zero, List.getElem?_cons_succ]; rfl) (by kernel_rfl) (by kernel_rfl) (by kernel_rfl) (by intro _ _ _ h; exact h) (Or.inl ⟨by rfl, ?_⟩) (by assumption) ?_; rotate_left; (focus (intro w1 hSw; (try dsimp only at hSw); go_simp; (try with_reducible rfl))); (try simp only [Act.put, List.setIfInBounds_toArray, List.set_cons_zero, List.set_cons_succ, List.getElem_toArray, List.getElem_cons_zero, List.getElem_cons_succ])
        refine wpAnyH_done (by kernel_rfl) ?_ _
        clear CP hHeld hb8 d0 d1 B5
        have B3 := B3.below bX B3.lt
        have BK := BK.below bX BK.lt
        have hW8 := hW.st bX
        have hwr8 : Below W5.heap.size W6 W8 := hwr.trans (bX.mono (by have := HWS.out; omega))
        have how8 := HOW.out.keep bX (Nat.le_refl _)
        have hsz8 : W6.heap.size ≤ W8.heap.size := hwr8.size
        have HSZ := Lib.hid hsz8
        clear hsz8 bX
        by_cases he : fe = 0
        · subst he
          have c5 := BK.cell 5 (v := .slice lA k lc) rfl
          generalize hL : lnL z (us.take k) = L at *
          have HL := Lib.hid hL
          have HLl : Hid (L.length = k) := Lib.hid (by rw [← hL, lnL_len, List.length_take]; omega)
          clear hL
          go_wp2_with (at_builtin; refine wpList_app1 rfl (.tmp 58) (.tmp 61) tyLn encLn_ok rfl (stayS, fn) rfl W6.heap.size rfl HLl.out.symm how8 rfl (by first | rfl | simp) (by have := HLl.out; omega) (by have := HLl.out; omega) HSZ.out ?_; intro A9 c9 w9 hown9 hb9 hs9 hf9; have BK9 := BK.below hb9 (by have := S6.out; omega); have c9_ := BK9.cell 5 (v := .slice lA k lc) rfl; have f9_ := BK9.frozen 5)
          go_roundw
          case rel =>
            refine ⟨k + 1, A9, c9, HI.out, by go_num, ?_, ?_, ?_, ?_⟩
            · refine Lib.hid ?_
              intro u hu
              rw [HMEM.out] at hu
              rcases List.mem_append.1 hu with h1 | h1
              · exact HNE.out u h1
              · obtain rfl := List.mem_singleton.1 h1; exact HFEE.out
            · exact Lib.hid (BK9.set 5 _)
            · refine Lib.hid ?_
              rw [HLN.out]
              exact hown9.other (by show W5.heap.size < _; have := S6.out; omega) _
            · exact (hwr8.trans (hb9.mono HLE.out)).setCell (Nat.le_refl _) _
          case measure => have := HI.out; simp [RowKit.intOf]; omega
        · have HE := Lib.hid he
          go_wp2_with (refine wpList_boxStore rfl (ty := 66) (x := .tmp 6) (y := .tmp 55) (cells := #[.string ⟨#[]⟩, .string ⟨#[]⟩, .string ⟨#[]⟩, .int .i64 0, .int .i64 0, .slice none 0 0, .int .i64 0]) rfl B3 rfl rfl (by kernel_rfl) rfl (by kernel_rfl) ?_; intro w9 B9 hoz hbz)
          refine bodyPost_ret (v := .tuple #[.agg #[.string ⟨#[]⟩, .string ⟨#[]⟩, .string ⟨#[]⟩, .int .i64 0, .int .i64 0, .slice none 0 0, .int .i64 0], .int .i64 fe]) (results_box_tmp Tryz.results15 _ (.int .i64 fe) rfl rfl B9 ⟨_, Tryz.underlying66, by kernel_rfl⟩) rfl ?_
          exact ⟨zeroC, fe, none, 0, .fee z fe HF.out ⟨k, (f, t), HUX.out, HNE.out, HFEE.out, HE.out⟩, rfl, Rd.nil, hbz _ _ (by have := S3.out; omega) hW8⟩
      · obtain rfl : k = us.length := by omega
        rw [List.take_length] at HNE HOW
        have c5 := BK.cell 5 (v := .slice lA us.length lc) rfl
        have CL := rlines_any (l := lnL z us) lc (HOW.out.rd encLn_ok) (by rw [lnL_len]; omega) (lnL_mst z us)
        rw [lnL_len, lnL_sum] at CL
        have hb0 := (feSum_bnd z us).1
        have hfit : fitsB (feSum z us) = decide (feSum z us ≤ 1125899906842624) := by
          unfold fitsB; rw [Bool.eq_iff_iff]; simp; omega
        rw [hfit] at CL
        clear hfit hb0
        by_cases hq : feSum z us ≤ 1125899906842624
        all_goals
          have HQ := Lib.hid hq
          simp only [hq, decide_true, decide_false, if_true, if_false, Bool.false_eq_true] at CL
          have CL := Lib.hid CL
          clear hq
          go_wp2_with fail
          refine CL.out.mono ?_
          rintro e w' ⟨rfl, hw'⟩
          rw [hw']
          clear hw' w' CL
        · have c6 := BK.cell 6 (v := .int .i64 0) rfl
          have f6 := BK.frozen 6
          obtain ⟨W9, hW9⟩ : ∃ Y, wr.setCell ⟨W5.heap.size, 6, none⟩ (.int .i64 (feSum z us)) = Y := ⟨_, rfl⟩
          have B9 : Blk W9 W5.heap.size #[.string key, .string pl, .string y.name, .int .i64 0, .int .i64 tt, .slice lA us.length lc, .int .i64 (feSum z us)] 66 := by rw [← hW9]; exact BK.set 6 _
          have B39 := (by rw [← hW9]; exact B3.other (by have := H35.out; show Y2.heap.size ≠ W5.heap.size; omega) _ : Blk W9 Y2.heap.size #[.string ⟨#[]⟩, .string ⟨#[]⟩, .string ⟨#[]⟩, .int .i64 0, .int .i64 0, .slice none 0 0, .int .i64 0] 66)
          have bW9 : Below w.heap.size w W9 := by rw [← hW9]; exact hW.setCell (by have := H35.out; have := S3.out; show _ ≤ W5.heap.size; omega) _
          have ho9 : Own 123 encLn 2 W9 W6.heap.size lA lc (lnL z us) := by rw [← hW9]; exact HOW.out.other (by show W5.heap.size < _; have := S6.out; omega) _
          clear B3 BK
          go_wp2_with (first | (refine wpList_boxLoad rfl (ty := 66) (x := .tmp 10) (cs := #[.string key, .string pl, .string y.name, .int .i64 0, .int .i64 tt, .slice lA us.length lc, .int .i64 (feSum z us)]) rfl B9 rfl ⟨_, Tryz.underlying66, by kernel_rfl⟩ ?_) | (refine wpList_boxStore rfl (ty := 66) (x := .tmp 6) (y := .tmp 76) (cells := #[.string key, .string pl, .string y.name, .int .i64 0, .int .i64 tt, .slice lA us.length lc, .int .i64 (feSum z us)]) rfl B39 rfl rfl (by kernel_rfl) rfl (by kernel_rfl) ?_; intro w10 B10 hoz hbz))
          refine bodyPost_ret (v := .tuple #[.agg #[.string key, .string pl, .string y.name, .int .i64 0, .int .i64 tt, .slice lA us.length lc, .int .i64 (feSum z us)], .int .i64 0]) (results_box_tmp Tryz.results15 _ (.int .i64 0) rfl rfl B10 ⟨_, Tryz.underlying66, by kernel_rfl⟩) rfl ?_
          refine ⟨_, 0, lA, lc, .ok z HF.out HNE.out HQ.out, ?_, ?_, hbz _ _ (by have := S3.out; omega) bW9⟩
          · simp only [CHV, lnL_len, HKEY.out, HNM.out, keyP]
          · exact (ho9.same (fun g hg => hoz g (by have := S6.out; have := H35.out; omega))).rd encLn_ok
        · go_wp2_with (refine wpList_boxStore rfl (ty := 66) (x := .tmp 6) (y := .tmp 72) (cells := #[.string ⟨#[]⟩, .string ⟨#[]⟩, .string ⟨#[]⟩, .int .i64 0, .int .i64 0, .slice none 0 0, .int .i64 0]) rfl B3 rfl rfl (by kernel_rfl) rfl (by kernel_rfl) ?_; intro w9 B9 hoz hbz)
          refine bodyPost_ret (v := .tuple #[.agg #[.string ⟨#[]⟩, .string ⟨#[]⟩, .string ⟨#[]⟩, .int .i64 0, .int .i64 0, .slice none 0 0, .int .i64 0], .int .i64 13]) (results_box_tmp Tryz.results15 _ (.int .i64 13) rfl rfl B9 ⟨_, Tryz.underlying66, by kernel_rfl⟩) rfl ?_
          exact ⟨zeroC, 13, none, 0, .big z HF.out HNE.out (by have := HQ.out; omega), rfl, Rd.nil, hbz _ _ (by have := S3.out; omega) hW⟩
end Go.Proofs.YtcpfiiapfggmpaaGreat
