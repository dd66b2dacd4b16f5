/- price.Trip, walked. -/
import Derived.Test.YtelchfijalkibaaGreatDoorJTrpM
import Derived.Test.YtelchfijalkibaaGreatDoorJDisRefM
import Derived.Test.YtelchfijalkibaaGreatDoorTrpSc
import Derived.Deep.DeepCutAuto
set_option linter.unusedSimpArgs false
set_option linter.unusedSimpArgs false
namespace Go.Proofs.YtelchfijalkibaaGreatDoor
open Go.RowKit Go.Lib

def TripE (ts : List Ta) (qs : List Int) (dcs : List Dc) (xi xv xy : ByteArray) (cl : Int) (ss : List Stp) (lv er : Int) (w w' : World) (e : Ending) : Prop :=
  ∃ v er' A c, TripR ts qs dcs xi xv xy cl ss lv er v er' ∧ e = .returned (.tuple #[CHV v A c, .int .i64 er']) ∧ Rd encLn 2 w' w'.heap.size A v.lns ∧ Below w.heap.size w w'
/-- the line of the level lies in memory -/
def StpC (n p : Int) (W : World) (s : Value) (wx : World) : Prop := ∃ SA sc, s = .slice SA (stpL n p).length sc ∧ Rd encLn 2 wx wx.heap.size SA (stpL n p) ∧ Below W.heap.size W wx
set_option maxRecDepth 100000 in
set_option maxHeartbeats 16000000 in
theorem ptrip_any {tA uA dA qA kA xA : Option Addr} (tc uc dc qc kc xc : Nat) (pe : Int) (o0 o1 o2 o3 o4 o5 o6 o7 o14 o15 o16 o17 o18 o19 o20 o21 o22 o23 o24 : Value) (xi xv xy : ByteArray) (cl lv er : Int) {ts : List Ta} {us ds qs : List Int} {dcs : List Dc} {ss : List Stp} {w : World}
    (ht : Rd encTa 4 w w.heap.size tA ts) (hto : ∀ y ∈ ts, TaOk w y ∧ TaSm y) (htl : ts.length ≤ 1000000) (htc : ∀ x ∈ ts, ∀ y ∈ x.rs, RtC y) (hsc : ScOk pe us ds qs) (hu : Rd encI 1 w w.heap.size uA us) (hd : Rd encI 1 w w.heap.size dA ds) (hq : Rd encI 1 w w.heap.size qA qs)
    (hk : Rd encDc 10 w w.heap.size kA dcs) (hkl : LOk dcs) (hs : Rd encSp 3 w w.heap.size xA ss) (hsl : ss.length ≤ 1000000) (hs0 : 0 < ss.length) (hxi : xi.size ≤ 1000000000000000000) :
    Calls Tryz.prog 7 #[.agg #[o0, o1, o2, o3, o4, o5, o6, o7, .slice tA ts.length tc, .int .i64 pe, .slice uA us.length uc, .slice dA ds.length dc, .slice qA qs.length qc, .slice kA dcs.length kc, o14, o15, o16, o17, o18, o19, o20, o21, o22, o23, o24], .agg #[.string xi, .string xv, .string xy, .int .i64 cl, .slice xA ss.length xc], .int .i64 lv, .int .i64 er] w fun e w' => TripE ts qs dcs xi xv xy cl ss lv er w w' e := by
  obtain ⟨Y1, hY1⟩ : ∃ Y, w.alloc (.cells #[o0, o1, o2, o3, o4, o5, o6, o7, .slice tA ts.length tc, .int .i64 pe, .slice uA us.length uc, .slice dA ds.length dc, .slice qA qs.length qc, .slice kA dcs.length kc, o14, o15, o16, o17, o18, o19, o20, o21, o22, o23, o24] 46) = Y := ⟨_, rfl⟩
  obtain ⟨Y2, hY2⟩ : ∃ Y, Y1.alloc (.cells #[.string xi, .string xv, .string xy, .int .i64 cl, .slice xA ss.length xc] 53) = Y := ⟨_, rfl⟩
  obtain ⟨Y3, hY3⟩ : ∃ Y, Y2.alloc (.cells #[.string ⟨#[]⟩, .string ⟨#[]⟩, .string ⟨#[]⟩, .int .i64 0, .int .i64 0, .slice none 0 0, .int .i64 0] 57) = Y := ⟨_, rfl⟩
  have b1 : Below w.heap.size w Y1 := by rw [← hY1]; exact (Below.refl _ w).al _
  have b2 : Below w.heap.size w Y2 := by rw [← hY2]; exact b1.al _
  have b3 : Below w.heap.size w Y3 := by rw [← hY3]; exact b2.al _
  have s1 : Y1.heap.size = w.heap.size + 1 := by rw [← hY1]; simp
  have s2 : Y2.heap.size = w.heap.size + 2 := by rw [← hY2]; simp [s1]
  have B1 : Blk Y3 w.heap.size #[o0, o1, o2, o3, o4, o5, o6, o7, .slice tA ts.length tc, .int .i64 pe, .slice uA us.length uc, .slice dA ds.length dc, .slice qA qs.length qc, .slice kA dcs.length kc, o14, o15, o16, o17, o18, o19, o20, o21, o22, o23, o24] 46 := by rw [← hY3, ← hY2, ← hY1]; exact ((Blk.new w _ _).alloc _).alloc _
  have B2 : Blk Y3 (w.heap.size + 1) #[.string xi, .string xv, .string xy, .int .i64 cl, .slice xA ss.length xc] 53 := by rw [← s1, ← hY3, ← hY2]; exact (Blk.new Y1 _ _).alloc _
  have B3 : Blk Y3 (w.heap.size + 2) #[.string ⟨#[]⟩, .string ⟨#[]⟩, .string ⟨#[]⟩, .int .i64 0, .int .i64 0, .slice none 0 0, .int .i64 0] 57 := by rw [← s2, ← hY3]; exact Blk.new Y2 _ _
  obtain ⟨s0, hss0⟩ : ∃ s0, ss[0]? = some s0 := ⟨_, List.getElem?_eq_getElem hs0⟩
  have CB := Lib.hid (pbase_any tc xc o0 o1 o2 o3 o4 o5 o6 o7 (.int .i64 pe) (.slice uA us.length uc) (.slice dA ds.length dc) (.slice qA qs.length qc) (.slice kA dcs.length kc) o14 o15 o16 o17 o18 o19 o20 o21 o22 o23 o24 xi xv xy cl (ht.st b3) (fun y hy => ⟨((hto y hy).1).st b3, (hto y hy).2⟩) htl (hs.st b3) (by omega))
  have CP := Lib.hid (fun (X : World) (hX : Below w.heap.size w X) => ppart_any uc dc qc pe lv hsc (hu.st hX) (hd.st hX) (hq.st hX))
  have CA := Lib.hid (fun (x : Dc) (hx : x ∈ dcs) (X : World) (hX : Below w.heap.size w X) => papplies_any (hkl.mem hx) (tr := ⟨xi, xv, xy, cl, xA, xc, ss⟩) er ⟨hs.st hX, by show ss.length ≤ _; omega⟩ hss0)
  have HK := Lib.hid hk
  have HKL := Lib.hid hkl
  have HS := Lib.hid hs
  have HS0 := Lib.hid hss0
  have hpm := partM_bnd hsc lv
  have hbb := baseM_bnd htc cl ss
  have HFW := Lib.hid hkl.few
  have HSN := Lib.hid hs0
  clear ht hto htl htc hsc hu hd hq hk hkl hs b1 b2 hss0
  go_enter Tryz.func7, Tryz.ntmps7
  go_wp2_with (first | (refine wpList_boxLoad rfl (ty := 46) (x := .tmp 4) (cs := #[o0, o1, o2, o3, o4, o5, o6, o7, .slice tA ts.length tc, .int .i64 pe, .slice uA us.length uc, .slice dA ds.length dc, .slice qA qs.length qc, .slice kA dcs.length kc, o14, o15, o16, o17, o18, o19, o20, o21, o22, o23, o24]) rfl (B1) rfl ⟨_, Tryz.underlying46, by kernel_rfl⟩ ?_) | (refine wpList_boxLoad rfl (ty := 53) (x := .tmp 5) (cs := #[.string xi, .string xv, .string xy, .int .i64 cl, .slice xA ss.length xc]) rfl (B2) rfl ⟨_, Tryz.underlying53, by kernel_rfl⟩ ?_))
  refine CB.out.mono ?_
  rintro e W2 ⟨rfl, hbn⟩
  have b2 := b3.st hbn
  have B1 := B1.below hbn B1.lt
  have B2 := B2.below hbn B2.lt
  have B3 := B3.below hbn B3.lt
  have HBR : Hid (∀ e, (baseM ts cl ss).2 = e → e ≠ 0 → TripR ts qs dcs xi xv xy cl ss lv er zeroC e) := Lib.hid (fun e h1 h2 => .base e h1 h2)
  have HRR : Hid (∀ e, (baseM ts cl ss).2 = 0 → (nearP (baseM ts cl ss).1 (partM qs lv)).2 = e → e ≠ 0 → TripR ts qs dcs xi xv xy cl ss lv er zeroC e) := Lib.hid (fun e h1 h2 h3 => .ratio e h1 h2 h3)
  have HOK : Hid (∀ b, (baseM ts cl ss).2 = 0 → (nearP (baseM ts cl ss).1 (partM qs lv)).2 = 0 → BestR (appL xy cl s0.t er dcs) (nearP (baseM ts cl ss).1 (partM qs lv)).1 b → TripR ts qs dcs xi xv xy cl ss lv er ⟨keyT xi, xv, xy, cl, lastT ss, trpL (appL xy cl s0.t er dcs) (baseM ts cl ss).1 (nearP (baseM ts cl ss).1 (partM qs lv)).1 b, (nearP (baseM ts cl ss).1 (partM qs lv)).1 - red (appL xy cl s0.t er dcs) (nearP (baseM ts cl ss).1 (partM qs lv)).1 b⟩ 0) := Lib.hid (fun b h1 h2 h3 => .ok s0 b HS0.out h1 h2 h3)
  clear CB hbn hY1 hY2 hY3 s1 s2 b3
  obtain ⟨n, hn⟩ : ∃ n, (baseM ts cl ss).1 = n := ⟨_, rfl⟩
  obtain ⟨e1, he1⟩ : ∃ n, (baseM ts cl ss).2 = n := ⟨_, rfl⟩
  rw [hn] at hbb HRR HOK ⊢
  rw [he1] at HBR HRR HOK ⊢
  clear hn he1
  by_cases he : e1 = 0
  case' neg =>
    have HE := Lib.hid he
    have hne : (e1 != 0) = true := by simp [he]
    clear he CP CA
    go_wp2_with (refine wpList_boxStore rfl (ty := 57) (x := .tmp 8) (y := .tmp 26) (cells := #[.string ⟨#[]⟩, .string ⟨#[]⟩, .string ⟨#[]⟩, .int .i64 0, .int .i64 0, .slice none 0 0, .int .i64 0]) rfl B3 rfl rfl (by kernel_rfl) rfl (by kernel_rfl) ?_; intro w7 B7 hoz hbz)
    refine bodyPost_ret (v := .tuple #[.agg #[.string ⟨#[]⟩, .string ⟨#[]⟩, .string ⟨#[]⟩, .int .i64 0, .int .i64 0, .slice none 0 0, .int .i64 0], .int .i64 e1]) (results_box_tmp Tryz.results7 _ (.int .i64 e1) rfl rfl B7 ⟨_, Tryz.underlying57, by kernel_rfl⟩) rfl ?_
    exact ⟨zeroC, e1, none, 0, HBR.out e1 rfl HE.out, rfl, Rd.nil, hbz _ _ (Nat.le_add_right _ _) b2⟩
  subst he
  have HRX := Lib.hid (fun e => HRR.out e rfl)
  have HOX := Lib.hid (fun b => HOK.out b rfl)
  clear HRR HOK
  have HB1 := Lib.hid B1
  have HB2 := Lib.hid B2
  have HB3 := Lib.hid B3
  have HBW := Lib.hid b2
  have g13 := B1.cell 13 (v := .slice kA dcs.length kc) rfl
  have hf12 : dcs.length ≤ 12 := HFW.out
  have RK := Lib.hid (HK.out.st b2)
  clear B1 B2 B3 b2
  go_wp2_with fail
  go_loopw [31, 12] (fun sk so wr => ∃ (k : Nat) (A : Option Addr) (c : Nat), k ≤ dcs.length ∧ sk = .int .i64 k ∧ so = .slice A (appL xy cl s0.t er (dcs.take k)).length c ∧ Own 99 encDc 10 wr W2.heap.size A c (appL xy cl s0.t er (dcs.take k)) ∧ Below W2.heap.size W2 wr) (fun sk _ _ => dcs.length - (RowKit.intOf sk).toNat)
  case atStart => exact ⟨0, none, 0, Nat.zero_le _, rfl, rfl, Own.nil _ _, Below.refl _ _⟩
  case round =>
    obtain ⟨k, A, c, hk, rfl, rfl, hown, hbn⟩ := hrel
    have k1 : (0 : Int) ≤ (k : Int) := by omega
    have HOW := Lib.hid hown
    have HBN := Lib.hid hbn
    clear hown hbn
    by_cases hi : k < dcs.length
    · have k2 : (k : Int) < (dcs.length : Int) := by omega
      have HI := Lib.hid hi
      obtain ⟨lb, lo, x, hA2, hlb, hxl, hc⟩ := (RK.out.st HBN.out).at_ hi
      subst hA2
      have d0 := hc 0 _ rfl
      have d1 := hc 1 _ rfl
      have d2 := hc 2 _ rfl
      have d3 := hc 3 _ rfl
      have d4 := hc 4 _ rfl
      have d5 := hc 5 _ rfl
      have d6 := hc 6 _ rfl
      have d7 := hc 7 _ rfl
      have d8 := hc 8 _ rfl
      have d9 := hc 9 _ rfl
      simp only [Nat.add_zero] at d0
      obtain ⟨Y5, hY5⟩ : ∃ Y, wr.alloc (.cells #[.string x.nm, .int .i64 x.kd, .int .i64 x.am, .string x.gr, .string x.sy, .int .i64 x.cl, .int .i64 x.wd, .int .i64 x.wf, .int .i64 x.wt, .int .i64 x.le] 99) = Y := ⟨_, rfl⟩
      have b5 : Below wr.heap.size wr Y5 := by rw [← hY5]; exact (Below.refl _ _).al _
      have B5 : Blk Y5 wr.heap.size #[.string x.nm, .int .i64 x.kd, .int .i64 x.am, .string x.gr, .string x.sy, .int .i64 x.cl, .int .i64 x.wd, .int .i64 x.wf, .int .i64 x.wt, .int .i64 x.le] 99 := by rw [← hY5]; exact Blk.new wr _ _
      have BT := (HB2.out.below HBN.out HB2.out.lt).below b5 (HB2.out.below HBN.out HB2.out.lt).lt
      have HB5 := Lib.hid (HBN.out.st b5)
      have CAX := Lib.hid (CA.out x (List.mem_of_getElem? hxl) Y5 (HBW.out.trans (HB5.out.mono HBW.out.size)))
      have HSN := Lib.hid (appL_snoc (sy := xy) (cl := cl) (t := s0.t) (er := er) hxl)
      have HAL := Lib.hid (Nat.le_trans (appL_len xy cl s0.t er (dcs.take k)) (by rw [List.length_take]; exact Nat.min_le_left _ _))
      have HO5 := Lib.hid (HOW.out.keep b5 (Nat.le_refl _))
      obtain ⟨L, hL⟩ : ∃ L, appL xy cl s0.t er (dcs.take k) = L := ⟨_, rfl⟩
      rw [hL] at HSN HAL HO5 ⊢
      clear hc hlb hxl hi b5 HOW hL
      go_wp2_with (first | (refine wpList_boxLoad rfl (ty := 99) (x := .tmp 14) (cs := #[.string x.nm, .int .i64 x.kd, .int .i64 x.am, .string x.gr, .string x.sy, .int .i64 x.cl, .int .i64 x.wd, .int .i64 x.wf, .int .i64 x.wt, .int .i64 x.le]) rfl (B5) rfl ⟨_, Tryz.underlying99, by kernel_rfl⟩ ?_) | (refine wpList_boxLoad rfl (ty := 53) (x := .tmp 5) (cs := #[.string xi, .string xv, .string xy, .int .i64 cl, .slice xA ss.length xc]) rfl (BT) rfl ⟨_, Tryz.underlying53, by kernel_rfl⟩ ?_))
      refine CAX.out.mono ?_
      rintro e W6 ⟨rfl, hbn⟩
      have B6 := B5.below hbn B5.lt
      have HB6 := Lib.hid (HB5.out.st hbn)
      have hown := HO5.out.keep hbn (Nat.le_refl _)
      have hbs : W2.heap.size ≤ W6.heap.size := HB6.out.size
      have hll : L.length ≤ 12 := by have := HAL.out; omega
      clear hbn B5 BT CAX d0 d1 d2 d3 d4 d5 d6 d7 d8 d9 HO5 HB5 hY5
      cases hap : appB x xy cl s0.t er
      · have HN := HSN.out
        rw [hap] at HN
        simp only [Bool.false_eq_true, if_false] at HN
        have HN := Lib.hid HN
        have HOW := Lib.hid hown
        clear hap HSN hown
        go_wp2_with fail
        go_roundw
        case rel => exact ⟨k + 1, A, c, HI.out, by go_num, by rw [HN.out], by rw [HN.out]; exact HOW.out, HB6.out⟩
        case measure => have := HI.out; simp [RowKit.intOf]; omega
      · have HN := HSN.out
        rw [hap, if_pos rfl] at HN
        have HN := Lib.hid HN
        clear hap HSN
        go_wp2_with (first | (refine wpList_boxLoad rfl (ty := 99) (x := .tmp 14) (cs := #[.string x.nm, .int .i64 x.kd, .int .i64 x.am, .string x.gr, .string x.sy, .int .i64 x.cl, .int .i64 x.wd, .int .i64 x.wf, .int .i64 x.wt, .int .i64 x.le]) rfl (B6) rfl ⟨_, Tryz.underlying99, by kernel_rfl⟩ ?_) | (at_builtin; refine wpList_app1 rfl (.tmp 39) (.tmp 41) tyDc encDc_ok rfl x rfl _ rfl (by simp) hown rfl (by first | rfl | simp) (by first | omega | (simp; omega)) (by first | omega | (simp; omega)) hbs ?_; intro A9 c9 w9 hown9 hb9 hs9 hf9))
        go_roundw
        case rel => exact ⟨k + 1, A9, c9, HI.out, by go_num, by rw [HN.out]; simp, by rw [HN.out]; exact hown9, HB6.out.trans hb9⟩
        case measure => have := HI.out; simp [RowKit.intOf]; omega
    · obtain rfl : k = dcs.length := by omega
      rw [List.take_length] at HOW ⊢
      have HLO := Lib.hid (appL_ok (sy := xy) (cl := cl) (t := s0.t) (er := er) HKL.out)
      obtain ⟨L, hL⟩ : ∃ L, appL xy cl s0.t er dcs = L := ⟨_, rfl⟩
      rw [hL] at HOW HLO HOX ⊢
      have hl12 : ¬ (12 : Int) < (L.length : Int) := by have := HLO.out.few; omega
      have bW := HBW.out.trans (HBN.out.mono HBW.out.size)
      have B1 := HB1.out.below HBN.out HB1.out.lt
      have B2 := HB2.out.below HBN.out HB2.out.lt
      have B3 := HB3.out.below HBN.out HB3.out.lt
      have g9 := B1.cell 9 (v := .int .i64 pe) rfl
      have g10 := B1.cell 10 (v := .slice uA us.length uc) rfl
      have g11 := B1.cell 11 (v := .slice dA ds.length dc) rfl
      have g12 := B1.cell 12 (v := .slice qA qs.length qc) rfl
      have CPX := Lib.hid (CP.out wr bW)
      have CQ := Lib.hid (fun (X : World) => qnear_any hbb.1 hbb.2 hpm.1 hpm.2 X)
      have hnb := nearP_bnd hbb.1 hpm.1
      clear hL HK RK HB1 HB2 HB3 CP CA hk hi hf12
      obtain ⟨p, hp⟩ : ∃ p, (nearP n (partM qs lv)).1 = p := ⟨_, rfl⟩
      obtain ⟨e2, he2⟩ : ∃ p, (nearP n (partM qs lv)).2 = p := ⟨_, rfl⟩
      rw [hp] at CQ hnb HOX
      rw [he2] at CQ HRX HOX
      generalize partM qs lv = pm at *
      clear hp he2 hpm
      go_wp2_with fail
      refine CPX.out.mono ?_
      rintro e W3 ⟨rfl, hbn⟩
      have bW3 := bW.st hbn
      have HO3 := Lib.hid (HOW.out.keep hbn (Nat.le_refl _))
      have B2 := B2.below hbn B2.lt
      have B3 := B3.below hbn B3.lt
      clear hbn B1 g9 g10 g11 g12 g13 CPX HOW bW
      go_wp2_with fail
      refine (CQ.out _).mono ?_
      rintro e w' ⟨rfl, kq, hw'⟩
      obtain ⟨W4, hW4⟩ : ∃ X, W3.drewN kq = X := ⟨_, rfl⟩
      rw [hW4] at hw'
      rw [hw']
      have bW4 : Below w.heap.size w W4 := by rw [← hW4]; exact below_drewN bW3 kq
      have B2 : Blk W4 (w.heap.size + 1) #[.string xi, .string xv, .string xy, .int .i64 cl, .slice xA ss.length xc] 53 := by rw [← hW4]; exact B2
      have B3 : Blk W4 (w.heap.size + 2) #[.string ⟨#[]⟩, .string ⟨#[]⟩, .string ⟨#[]⟩, .int .i64 0, .int .i64 0, .slice none 0 0, .int .i64 0] 57 := by rw [← hW4]; exact B3
      have HO4 : Hid (Own 99 encDc 10 W4 W2.heap.size A c L) := Lib.hid (by rw [← hW4]; exact HO3.out.drewN kq)
      clear hw' w' hW4 bW3 HO3 CQ
      by_cases he : e2 = 0
      case' neg =>
        have HE := Lib.hid he
        have hne : (e2 != 0) = true := by simp [he]
        clear he
        go_wp2_with (refine wpList_boxStore rfl (ty := 57) (x := .tmp 8) (y := .tmp 59) (cells := #[.string ⟨#[]⟩, .string ⟨#[]⟩, .string ⟨#[]⟩, .int .i64 0, .int .i64 0, .slice none 0 0, .int .i64 0]) rfl B3 rfl rfl (by kernel_rfl) rfl (by kernel_rfl) ?_; intro w7 B7 hoz hbz)
        refine bodyPost_ret (v := .tuple #[.agg #[.string ⟨#[]⟩, .string ⟨#[]⟩, .string ⟨#[]⟩, .int .i64 0, .int .i64 0, .slice none 0 0, .int .i64 0], .int .i64 e2]) (results_box_tmp Tryz.results7 _ (.int .i64 e2) rfl rfl B7 ⟨_, Tryz.underlying57, by kernel_rfl⟩) rfl ?_
        exact ⟨zeroC, e2, none, 0, HRX.out e2 rfl HE.out, rfl, Rd.nil, hbz _ _ (Nat.le_add_right _ _) bW4⟩
      subst he
      have HOZ := Lib.hid (fun b => HOX.out b rfl)
      clear HOX HRX
      have HBP := Lib.hid (And.intro hbb hnb)
      obtain ⟨hb1, hb2⟩ := hbb
      obtain ⟨hp1, hp2⟩ := hnb
      have HB2 := Lib.hid B2
      have HB3 := Lib.hid B3
      have HBW4 := Lib.hid bW4
      clear B2 B3 bW4
      go_upto_if 63 with fail
      go_cut [16] (fun s wx => StpC n p W4 s wx)
      case first =>
        by_cases hpn : p = n
        · have q1 : (p != n) = false := by simp [hpn]
          have R : Hid (stpL n p = []) := Lib.hid (if_pos hpn)
          clear hpn
          go_wp2_with fail
          go_meet
          exact ⟨none, 0, by rw [R.out]; rfl, by rw [R.out]; exact Rd.nil, Below.refl _ _⟩
        · have q1 : (p != n) = true := by simp [hpn]
          have R : Hid (stpL n p = [(levelS, p - n)]) := Lib.hid (if_neg hpn)
          have w1 : IntKind.i64.wrap (p - n) = p - n := IntWalk.i64_in _ (by omega)
          clear hpn
          go_wp2_with fail
          go_meet
          exact ⟨_, 1, by rw [R.out]; rfl, by rw [R.out]; exact Rd.lit W4 _ encLn_ok rfl (by simp), (Below.refl _ _).al _⟩
      case rest =>
        obtain ⟨SA, sc, rfl, hsr, hbc⟩ := hcut
        have HSR := Lib.hid hsr
        have HBC := Lib.hid hbc
        have bW := HBW4.out.st hbc
        have B2 := HB2.out.below hbc HB2.out.lt
        have HB3c := Lib.hid (HB3.out.below hbc HB3.out.lt)
        have HOc := Lib.hid (HO4.out.keep hbc (Nat.le_refl _))
        have HBWc := Lib.hid bW
        obtain ⟨m, hm⟩ : ∃ m, m + 1 = ss.length := ⟨ss.length - 1, by have := HSN.out; omega⟩
        obtain ⟨xb, xo, s, hxA, hxb, hx, f0, f1, f2⟩ := (HS.out.st bW).stp (i := m) (by omega)
        subst hxA
        have hlt : lastT ss = s.t := by unfold lastT; rw [show ss.length - 1 = m by omega, hx]; rfl
        obtain ⟨lt, hlte⟩ : ∃ lt, s.t = lt := ⟨_, rfl⟩
        rw [hlte] at f1 hlt
        rw [hlt] at HOZ
        have hwm : IntKind.i64.wrap ((ss.length : Int) - 1) = (m : Int) := by rw [show (ss.length : Int) - 1 = (m : Int) by omega]; exact IntWalk.i64_in _ (by omega)
        have m1 : (0 : Int) ≤ (m : Int) := by omega
        have m2 : (m : Int) < (ss.length : Int) := by omega
        have m3 : m < ss.length := by omega
        have hsz : ¬ 9223372036854775807 < (⟨#[116, 58]⟩ : ByteArray).size + xi.size := by show ¬ _ < 2 + xi.size; omega
        have hsz2 : ¬ 9223372036854775807 < 2 + xi.size := by omega
        have KS : Hid (∀ X, Below wc.heap.size wc X → (fun w' : World => w'.cell? ⟨w.heap.size + 1, 0, none⟩ = some (.string xi) ∧ w'.cell? ⟨w.heap.size + 1, 1, none⟩ = some (.string xv) ∧ w'.cell? ⟨w.heap.size + 1, 2, none⟩ = some (.string xy) ∧ w'.cell? ⟨w.heap.size + 1, 3, none⟩ = some (.int .i64 cl) ∧ w'.cell? ⟨w.heap.size + 1, 4, none⟩ = some (.slice (some ⟨xb, xo, none⟩) ss.length xc) ∧ w'.cell? ⟨xb, xo + m * 3 + 1, none⟩ = some (.int .i64 lt)) X) := Lib.hid (fun X hX => ⟨(B2.below hX B2.lt).cell 0 rfl, (B2.below hX B2.lt).cell 1 rfl, (B2.below hX B2.lt).cell 2 rfl, (B2.below hX B2.lt).cell 3 rfl, (B2.below hX B2.lt).cell 4 rfl, (hX.cell (p := ⟨xb, xo + m * 3 + 1, none⟩) hxb).trans f1⟩)
        clear hsr hbc bW HO4 HB2 HB3 HBW4 hlte hlt hx hxb f0 f1 f2 B2 hm
        go_wp2_with fail
        refine wp_region_held_drew (S := (fun w' : World => w'.cell? ⟨w.heap.size + 1, 0, none⟩ = some (.string xi) ∧ w'.cell? ⟨w.heap.size + 1, 1, none⟩ = some (.string xv) ∧ w'.cell? ⟨w.heap.size + 1, 2, none⟩ = some (.string xy) ∧ w'.cell? ⟨w.heap.size + 1, 3, none⟩ = some (.int .i64 cl) ∧ w'.cell? ⟨w.heap.size + 1, 4, none⟩ = some (.slice (some ⟨xb, xo, none⟩) ss.length xc) ∧ w'.cell? ⟨xb, xo + m * 3 + 1, none⟩ = some (.int .i64 lt))) (by kernel_rfl) ?_ (fun hHeld => ?_)
        focus exact KS.out _ (Below.refl _ _).drew
        have hSS := KS.out _ (Below.refl wc.heap.size wc).drew
        have bR := (Below.refl wc.heap.size wc).drew
        obtain ⟨V0, hV0⟩ : ∃ V, World.drew wc = V := ⟨_, rfl⟩
        rw [hV0] at bR hHeld hSS ⊢
        clear hV0
        change wpAnyH _ _ _ _ _ 21 _ _ _
        refine wpAnyH_take (i := 0) (v := ?_) (by simp only [List.getElem?_toArray, List.getElem?_cons_zero, List.getElem?_cons_succ]; rfl) (by kernel_rfl) (by kernel_rfl) (by kernel_rfl) (by intro _ _ _ h; exact h) (Or.inl ⟨by rfl, ?_⟩) (by assumption) ?_; rotate_left; (focus (intro w1 hSw; (try dsimp only at hSw); go_simp; (try with_reducible rfl))); (try simp only [Act.put, List.setIfInBounds_toArray, List.set_cons_zero, List.set_cons_succ, List.getElem_toArray, List.getElem_cons_zero, List.getElem_cons_succ])
        refine wpAnyH_take (i := 1) (v := ?_) (by simp only [List.getElem?_toArray, List.getElem?_cons_zero, List.getElem?_cons_succ]; rfl) (by kernel_rfl) (by kernel_rfl) (by kernel_rfl) (by intro _ _ _ h; exact h) (Or.inl ⟨by rfl, ?_⟩) (by assumption) ?_; rotate_left; (focus (intro w1 hSw; (try dsimp only at hSw); go_simp; (try with_reducible rfl))); (try simp only [Act.put, List.setIfInBounds_toArray, List.set_cons_zero, List.set_cons_succ, List.getElem_toArray, List.getElem_cons_zero, List.getElem_cons_succ])
        refine wpAnyH_take (i := 2) (v := ?_) (by simp only [List.getElem?_toArray, List.getElem?_cons_zero, List.getElem?_cons_succ]; rfl) (by kernel_rfl) (by kernel_rfl) (by kernel_rfl) (by intro _ _ _ h; exact h) (Or.inl ⟨by rfl, ?_⟩) (by assumption) ?_; rotate_left; (focus (intro w1 hSw; (try dsimp only at hSw); go_simp; (try with_reducible rfl))); (try simp only [Act.put, List.setIfInBounds_toArray, List.set_cons_zero, List.set_cons_succ, List.getElem_toArray, List.getElem_cons_zero, List.getElem_cons_succ])
        refine wpAnyH_take (i := 3) (v := ?_) (by simp only [List.getElem?_toArray, List.getElem?_cons_zero, List.getElem?_cons_succ]; rfl) (by kernel_rfl) (by kernel_rfl) (by kernel_rfl) (by intro _ _ _ h; exact h) (Or.inl ⟨by rfl, ?_⟩) (by assumption) ?_; rotate_left; (focus (intro w1 hSw; (try dsimp only at hSw); go_simp; (try with_reducible rfl))); (try simp only [Act.put, List.setIfInBounds_toArray, List.set_cons_zero, List.set_cons_succ, List.getElem_toArray, List.getElem_cons_zero, List.getElem_cons_succ])
        refine wpAnyH_take (i := 4) (v := ?_) (by simp only [List.getElem?_toArray, List.getElem?_cons_zero, List.getElem?_cons_succ]; rfl) (by kernel_rfl) (by kernel_rfl) (by kernel_rfl) (by intro _ _ _ h; exact h) (Or.inl ⟨by rfl, ?_⟩) (by assumption) ?_; rotate_left; (focus (intro w1 hSw; (try dsimp only at hSw); go_simp; (try with_reducible rfl))); (try simp only [Act.put, List.setIfInBounds_toArray, List.set_cons_zero, List.set_cons_succ, List.getElem_toArray, List.getElem_cons_zero, List.getElem_cons_succ])
        refine wpAnyH_take (i := 5) (v := ?_) (by simp only [List.getElem?_toArray, List.getElem?_cons_zero, List.getElem?_cons_succ]; rfl) (by kernel_rfl) (by kernel_rfl) (by kernel_rfl) (by intro _ _ _ h; exact h) (Or.inl ⟨by rfl, ?_⟩) (by assumption) ?_; rotate_left; (focus (intro w1 hSw; (try dsimp only at hSw); go_simp; (try with_reducible rfl))); (try simp only [Act.put, List.setIfInBounds_toArray, List.set_cons_zero, List.set_cons_succ, List.getElem_toArray, List.getElem_cons_zero, List.getElem_cons_succ])
        refine wpAnyH_take (i := 6) (v := ?_) (by simp only [List.getElem?_toArray, List.getElem?_cons_zero, List.getElem?_cons_succ]; rfl) (by kernel_rfl) (by kernel_rfl) (by kernel_rfl) (by intro _ _ _ h; exact h) (Or.inl ⟨by rfl, ?_⟩) (by assumption) ?_; rotate_left; (focus (intro w1 hSw; (try dsimp only at hSw); go_simp; (try with_reducible rfl))); (try simp only [Act.put, List.setIfInBounds_toArray, List.set_cons_zero, List.set_cons_succ, List.getElem_toArray, List.getElem_cons_zero, List.getElem_cons_succ])
        refine wpAnyH_take (i := 7) (v := ?_) (by simp only [List.getElem?_toArray, List.getElem?_cons_zero, List.getElem?_cons_succ]; rfl) (by kernel_rfl) (by kernel_rfl) (by kernel_rfl) (by intro _ _ _ h; exact h) (Or.inl ⟨by rfl, ?_⟩) (by assumption) ?_; rotate_left; (focus (intro w1 hSw; (try dsimp only at hSw); go_simp; (try with_reducible rfl))); (try simp only [Act.put, List.setIfInBounds_toArray, List.set_cons_zero, List.set_cons_succ, List.getElem_toArray, List.getElem_cons_zero, List.getElem_cons_succ])
        refine wpAnyH_take (i := 8) (v := ?_) (by simp only [List.getElem?_toArray, List.getElem?_cons_zero, List.getElem?_cons_succ]; rfl) (by kernel_rfl) (by kernel_rfl) (by kernel_rfl) (by intro _ _ _ h; exact h) (Or.inl ⟨by rfl, ?_⟩) (by assumption) ?_; rotate_left; (focus (intro w1 hSw; (try dsimp only at hSw); go_simp; (try with_reducible rfl))); (try simp only [Act.put, List.setIfInBounds_toArray, List.set_cons_zero, List.set_cons_succ, List.getElem_toArray, List.getElem_cons_zero, List.getElem_cons_succ])
        refine wpAnyH_take (i := 9) (v := ?_) (by simp only [List.getElem?_toArray, List.getElem?_cons_zero, List.getElem?_cons_succ]; rfl) (by kernel_rfl) (by kernel_rfl) (by kernel_rfl) (by intro _ _ _ h; exact h) (Or.inl ⟨by rfl, ?_⟩) (by assumption) ?_; rotate_left; (focus (intro w1 hSw; (try dsimp only at hSw); go_simp; (try with_reducible rfl))); (try simp only [Act.put, List.setIfInBounds_toArray, List.set_cons_zero, List.set_cons_succ, List.getElem_toArray, List.getElem_cons_zero, List.getElem_cons_succ])
        refine wpAnyH_take (i := 10) (v := ?_) (by simp only [List.getElem?_toArray, List.getElem?_cons_zero, List.getElem?_cons_succ]; rfl) (by kernel_rfl) (by kernel_rfl) (by kernel_rfl) (by intro _ _ _ h; exact h) (Or.inl ⟨by rfl, ?_⟩) (by assumption) ?_; rotate_left; (focus (intro w1 hSw; (try dsimp only at hSw); go_simp; (try with_reducible rfl))); (try simp only [Act.put, List.setIfInBounds_toArray, List.set_cons_zero, List.set_cons_succ, List.getElem_toArray, List.getElem_cons_zero, List.getElem_cons_succ])
        refine wpAnyH_take (i := 11) (v := ?_) (by simp only [List.getElem?_toArray, List.getElem?_cons_zero, List.getElem?_cons_succ]; rfl) (by kernel_rfl) (by kernel_rfl) (by kernel_rfl) (by intro _ _ _ h; exact h) (Or.inl ⟨by rfl, ?_⟩) (by assumption) ?_; rotate_left; (focus (intro w1 hSw; (try dsimp only at hSw); go_simp; (try with_reducible rfl))); (try simp only [Act.put, List.setIfInBounds_toArray, List.set_cons_zero, List.set_cons_succ, List.getElem_toArray, List.getElem_cons_zero, List.getElem_cons_succ])
        refine wpAnyH_take (i := 12) (v := ?_) (by simp only [List.getElem?_toArray, List.getElem?_cons_zero, List.getElem?_cons_succ]; rfl) (by kernel_rfl) (by kernel_rfl) (by kernel_rfl) (by intro _ _ _ h; exact h) (Or.inl ⟨by rfl, ?_⟩) (by assumption) ?_; rotate_left; (focus (intro w1 hSw; (try dsimp only at hSw); go_simp; (try with_reducible rfl))); (try simp only [Act.put, List.setIfInBounds_toArray, List.set_cons_zero, List.set_cons_succ, List.getElem_toArray, List.getElem_cons_zero, List.getElem_cons_succ])
        refine wpAnyH_take (i := 13) (v := ?_) (by simp only [List.getElem?_toArray, List.getElem?_cons_zero, List.getElem?_cons_succ]; rfl) (by kernel_rfl) (by kernel_rfl) (by kernel_rfl) (by intro _ _ _ h; exact h) (Or.inl ⟨by rfl, ?_⟩) (by assumption) ?_; rotate_left; (focus (intro w1 hSw; (try dsimp only at hSw); go_simp; (try with_reducible rfl))); (try simp only [Act.put, List.setIfInBounds_toArray, List.set_cons_zero, List.set_cons_succ, List.getElem_toArray, List.getElem_cons_zero, List.getElem_cons_succ])
        refine wpAnyH_take (i := 14) (v := ?_) (by simp only [List.getElem?_toArray, List.getElem?_cons_zero, List.getElem?_cons_succ]; rfl) (by kernel_rfl) (by kernel_rfl) (by kernel_rfl) (by intro _ _ _ h; exact h) (Or.inl ⟨by rfl, ?_⟩) (by assumption) ?_; rotate_left; (focus (intro w1 hSw; (try dsimp only at hSw); go_simp; (try with_reducible rfl))); (try simp only [Act.put, List.setIfInBounds_toArray, List.set_cons_zero, List.set_cons_succ, List.getElem_toArray, List.getElem_cons_zero, List.getElem_cons_succ])
        refine wpAnyH_take (i := 15) (v := ?_) (by simp only [List.getElem?_toArray, List.getElem?_cons_zero, List.getElem?_cons_succ]; rfl) (by kernel_rfl) (by kernel_rfl) (by kernel_rfl) (by intro _ _ _ h; exact h) (Or.inl ⟨by rfl, ?_⟩) (by assumption) ?_; rotate_left; (focus (intro w1 hSw; (try dsimp only at hSw); go_simp; (try with_reducible rfl))); (try simp only [Act.put, List.setIfInBounds_toArray, List.set_cons_zero, List.set_cons_succ, List.getElem_toArray, List.getElem_cons_zero, List.getElem_cons_succ])
        refine wpAnyH_take (i := 16) (v := ?_) (by simp only [List.getElem?_toArray, List.getElem?_cons_zero, List.getElem?_cons_succ]; rfl) (by kernel_rfl) (by kernel_rfl) (by kernel_rfl) (by intro _ _ _ h; exact h) (Or.inl ⟨by rfl, ?_⟩) (by assumption) ?_; rotate_left; (focus (intro w1 hSw; (try dsimp only at hSw); go_simp; (try with_reducible rfl))); (try simp only [Act.put, List.setIfInBounds_toArray, List.set_cons_zero, List.set_cons_succ, List.getElem_toArray, List.getElem_cons_zero, List.getElem_cons_succ])
        refine wpAnyH_take (i := 17) (v := ?_) (by simp only [List.getElem?_toArray, List.getElem?_cons_zero, List.getElem?_cons_succ]; rfl) (by kernel_rfl) (by kernel_rfl) (by kernel_rfl) (by intro _ _ _ h; exact h) (Or.inl ⟨by rfl, ?_⟩) (by assumption) ?_; rotate_left; (focus (intro w1 hSw; (try dsimp only at hSw); go_simp; (try with_reducible rfl))); (try simp only [Act.put, List.setIfInBounds_toArray, List.set_cons_zero, List.set_cons_succ, List.getElem_toArray, List.getElem_cons_zero, List.getElem_cons_succ])
        refine wpAnyH_take (i := 18) (v := ?_) (by simp only [List.getElem?_toArray, List.getElem?_cons_zero, List.getElem?_cons_succ]; rfl) (by kernel_rfl) (by kernel_rfl) (by kernel_rfl) (by intro _ _ _ h; exact h) (Or.inl ⟨by rfl, ?_⟩) (by assumption) ?_; rotate_left; (focus (intro w1 hSw; (try dsimp only at hSw); go_simp; (try with_reducible rfl))); (try simp only [Act.put, List.setIfInBounds_toArray, List.set_cons_zero, List.set_cons_succ, List.getElem_toArray, List.getElem_cons_zero, List.getElem_cons_succ])
        refine wpAnyH_ready (rs := [19]) (by kernel_rfl) (by simp) ?_; refine AllReadyH.cons (by simp only [List.getElem?_toArray, List.getElem?_cons_zero, List.getElem?_cons_succ]; rfl) (fun K hK => ?_) AllReadyH.nil
        obtain ⟨V1, hV⟩ : ∃ V, World.alloc V0 (.cells #[.string ⟨#[]⟩, .string ⟨#[]⟩, .string ⟨#[]⟩, .int .i64 0, .int .i64 0, .slice none 0 0, .int .i64 0] 57) = V := ⟨_, rfl⟩
        have hbn : Below V0.heap.size V0 V1 := by rw [← hV]; exact (Below.refl _ _).al _
        have C5 : Blk V1 V0.heap.size #[.string ⟨#[]⟩, .string ⟨#[]⟩, .string ⟨#[]⟩, .int .i64 0, .int .i64 0, .slice none 0 0, .int .i64 0] 57 := by rw [← hV]; exact Blk.new _ _ _
        have bR1 := bR.st hbn
        rw [if_pos (by rfl)]
        go_wp2_with fail
        refine hK.out _ _ (KS.out _ bR1) (fun hHeld => ?_)
        clear hK K
        (try simp only [Act.put, List.setIfInBounds_toArray, List.set_cons_zero, List.set_cons_succ, List.getElem_toArray, List.getElem_cons_zero, List.getElem_cons_succ])
        refine wpAnyH_ready (rs := [20]) (by kernel_rfl) (by simp) ?_; refine AllReadyH.cons (by simp only [List.getElem?_toArray, List.getElem?_cons_zero, List.getElem?_cons_succ]; rfl) (fun K hK => ?_) AllReadyH.nil
        rw [if_pos (by rfl)]
        refine wp_boxStore rfl C5 rfl rfl (by kernel_rfl) rfl (by kernel_rfl) ?_
        intro V2 C6 hoz hbz
        have bR2 := hbz _ _ bR.size bR1
        refine hK.out _ _ (KS.out _ bR2) (fun hHeld => ?_)
        clear hK K
        (try simp only [Act.put, List.setIfInBounds_toArray, List.set_cons_zero, List.set_cons_succ, List.getElem_toArray, List.getElem_cons_zero, List.getElem_cons_succ])
        refine wpAnyH_done (by kernel_rfl) ?_ _
        have HC6 : Hid (Blk V2 V0.heap.size #[.string (keyT xi), .string xv, .string xy, .int .i64 cl, .int .i64 lt, .slice none 0 0, .int .i64 0] 57) := Lib.hid C6
        have HB2V := Lib.hid bR2
        have HVZ : Hid (wc.heap.size ≤ V0.heap.size ∧ V0.heap.size < V2.heap.size) := Lib.hid ⟨bR.size, C6.lt⟩
        clear hHeld hSS hV hbn C5 C6 bR bR1 bR2 hoz hbz KS hwm hsz hsz2 m1 m2 m3
        obtain ⟨ob, hob⟩ : ∃ ob, V0.heap.size = ob := ⟨_, rfl⟩
        rw [hob] at HC6 HVZ ⊢
        clear hob
        have HOV := Lib.hid (HOc.out.keep HB2V.out (Nat.le_refl _))
        have HBV := Lib.hid (HBWc.out.st HB2V.out)
        obtain ⟨V4, hV4⟩ : ∃ V, World.alloc V2 (.cells #[.string (⟨#[98, 97, 115, 101]⟩ : ByteArray), .int .i64 n] 104) = V := ⟨_, rfl⟩
        have bn4 : Below V2.heap.size V2 V4 := by rw [← hV4]; exact (Below.refl _ _).al _
        have hr4 : Rd encLn 2 V4 V4.heap.size (some ⟨V2.heap.size, 0, none⟩) [(baseS, n)] := by rw [← hV4]; exact Rd.lit V2 _ encLn_ok rfl (by simp)
        have CL := Lib.hid (plinesD_any HLO.out HOV.out.cap hp1 hp2 ((HOV.out.keep bn4 (Nat.le_refl _)).rd encDc_ok))
        have HR4 := Lib.hid hr4
        have HB4 := Lib.hid bn4
        clear hr4 bn4
        go_wp2_with fail
        refine CL.out.mono ?_
        rintro e W5 ⟨LA, lcp, b, rfl, hbest, hown, hbn⟩
        have hbl := hbest.1.len
        have HBE := Lib.hid hbest
        have HTF := Lib.hid (trpL_facts HLO.out hb1 hb2 hp1 hp2 (b := b) (by have := HLO.out.few; omega))
        have HLL : Hid ((lnsS L p b).1.length = b.length) := Lib.hid (lnsS_len HLO.out hp1 hp2 b)
        have HB5 := Lib.hid (HB4.out.trans (hbn.mono HB4.out.size))
        have HR5 := Lib.hid (HR4.out.st hbn)
        have HL5 := Lib.hid (hown.rd encLn_ok)
        have HS5 := Lib.hid ((HSR.out.st HB2V.out).st HB5.out)
        have hsl := stpL_len n p
        clear hbest hown hbn CL
        obtain ⟨V6, hV6⟩ : ∃ V, World.alloc W5 (.cells #[.slice (some ⟨V2.heap.size, 0, none⟩) 1 1, .slice SA (stpL n p).length sc, .slice LA b.length lcp] 55) = V := ⟨_, rfl⟩
        have bn6 : Below W5.heap.size W5 V6 := by rw [← hV6]; exact (Below.refl _ _).al _
        have B6 : Blk V6 W5.heap.size #[.slice (some ⟨V2.heap.size, 0, none⟩) 1 1, .slice SA (stpL n p).length sc, .slice LA b.length lcp] 55 := by rw [← hV6]; exact Blk.new _ _ _
        have CJ := join3_any (c := 3) (l1 := [(baseS, n)]) (l2 := stpL n p) (l3 := (lnsS L p b).1) B6.lt (B6.cell 0 rfl) (B6.cell 1 rfl) (by rw [HLL.out]; exact B6.cell 2 rfl) (HR5.out.st bn6) (HS5.out.st bn6) (HL5.out.st bn6) (by simp) (by omega) (by rw [HLL.out]; have := HLO.out.few; omega)
        rw [HLL.out, show [(baseS, n)] ++ stpL n p ++ (lnsS L p b).1 = trpL L n p b by simp [trpL], show [(baseS, n)].length + (stpL n p).length + b.length = (trpL L n p b).length by rw [HTF.out.1]; rfl] at CJ
        have CJ := Lib.hid CJ
        have HB6 := Lib.hid (HB5.out.trans (bn6.mono HB5.out.size))
        obtain ⟨TL, hTL⟩ : ∃ TL, trpL L n p b = TL := ⟨_, rfl⟩
        rw [hTL] at CJ HTF
        have HTL := Lib.hid hTL
        clear bn6 B6 hTL
        go_wp2_with fail
        refine CJ.out.mono ?_
        rintro e W7 ⟨A9, c9, rfl, hown, hbn⟩
        have HB7 := Lib.hid (HB6.out.trans (hbn.mono HB6.out.size))
        have HC7 := Lib.hid (HC6.out.below HB7.out HVZ.out.2)
        have HA9 : Hid (∀ b off, A9 = some ⟨b, off, none⟩ → ob < b) := Lib.hid (by
          intro b off hb
          rcases hown.form with ⟨q, _⟩ | ⟨g, q, h1, _⟩
          · rw [q] at hb; cases hb
          · rw [q] at hb; injection hb with hb; injection hb with hb; subst hb
            have := HB6.out.size; have := HVZ.out.2
            omega)
        have HR7 := Lib.hid (hown.rd encLn_ok)
        have c5 := HC7.out.cell 5 (v := .slice none 0 0) rfl
        have f5 := HC7.out.frozen 5
        clear hown hbn CJ
        obtain ⟨V8, hV8⟩ : ∃ V, World.setCell W7 ⟨ob, 5, none⟩ (.slice A9 TL.length c9) = V := ⟨_, rfl⟩
        have HC8 : Hid (Blk V8 ob #[.string (keyT xi), .string xv, .string xy, .int .i64 cl, .int .i64 lt, .slice A9 TL.length c9, .int .i64 0] 57) := Lib.hid (by rw [← hV8]; exact HC7.out.set 5 _)
        have HR8 : Hid (Rd encLn 2 V8 V8.heap.size A9 TL) := Lib.hid (by rw [← hV8]; exact HR7.out.set1 (fun b off h => Nat.ne_of_gt (HA9.out b off h)) _)
        have HB8 : Hid (Below wc.heap.size wc V8) := Lib.hid (by rw [← hV8]; exact (HB2V.out.trans (HB7.out.mono (by have := HVZ.out; omega))).setCell (p := ⟨ob, 5, none⟩) HVZ.out.1 _)
        have c8 := HC8.out.cell 5 (v := .slice A9 TL.length c9) rfl
        have CS := Lib.hid (psum_any c9 HR8.out (by have := HTF.out.2.1; omega) HTF.out.2.2.2)
        rw [HTF.out.2.2.1] at CS
        go_wp2_with fail
        refine CS.out.mono ?_
        rintro e W9 ⟨rfl, hbn⟩
        have HC9 := Lib.hid (HC8.out.below hbn HC8.out.lt)
        have HR9 := Lib.hid (HR8.out.st hbn)
        have HB9 := Lib.hid (HB8.out.st hbn)
        have c6 := HC9.out.cell 6 (v := .int .i64 0) rfl
        have f6 := HC9.out.frozen 6
        clear hbn CS c5 f5 c8 hV8
        obtain ⟨ct, hct⟩ : ∃ ct, p - red L p b = ct := ⟨_, rfl⟩
        rw [hct]
        obtain ⟨V10, hV10⟩ : ∃ V, World.setCell W9 ⟨ob, 6, none⟩ (.int .i64 ct) = V := ⟨_, rfl⟩
        have BX : Blk V10 ob #[.string (keyT xi), .string xv, .string xy, .int .i64 cl, .int .i64 lt, .slice A9 TL.length c9, .int .i64 ct] 57 := by rw [← hV10]; exact HC9.out.set 6 _
        have HR10 : Hid (Rd encLn 2 V10 V10.heap.size A9 TL) := Lib.hid (by rw [← hV10]; exact HR9.out.set1 (fun b off h => Nat.ne_of_gt (HA9.out b off h)) _)
        have HB10 : Hid (Below wc.heap.size wc V10) := Lib.hid (by rw [← hV10]; exact HB9.out.setCell (p := ⟨ob, 6, none⟩) HVZ.out.1 _)
        have B3 := HB3c.out.below HB10.out HB3c.out.lt
        have HCT := Lib.hid hct
        clear hct
        go_wp2_with (first | (refine wpList_boxLoad rfl (ty := 57) (x := .tmp 17) (cs := #[.string (keyT xi), .string xv, .string xy, .int .i64 cl, .int .i64 lt, .slice A9 TL.length c9, .int .i64 ct]) rfl BX rfl ⟨_, Tryz.underlying57, by kernel_rfl⟩ ?_) | (refine wpList_boxStore rfl (ty := 57) (x := .tmp 8) (y := .tmp 102) (cells := #[.string (keyT xi), .string xv, .string xy, .int .i64 cl, .int .i64 lt, .slice A9 TL.length c9, .int .i64 ct]) rfl B3 rfl rfl (by kernel_rfl) rfl (by kernel_rfl) ?_; intro w9 B9 hoz hbz))
        refine bodyPost_ret (v := .tuple #[.agg #[.string (keyT xi), .string xv, .string xy, .int .i64 cl, .int .i64 lt, .slice A9 TL.length c9, .int .i64 ct], .int .i64 0]) (results_box_tmp Tryz.results7 _ (.int .i64 0) rfl rfl B9 ⟨_, Tryz.underlying57, by kernel_rfl⟩) rfl ?_
        refine ⟨_, 0, A9, c9, HOZ.out b HBE.out, ?_, ?_, hbz _ _ (Nat.le_add_right _ _) (HBWc.out.st HB10.out)⟩
        · simp only [CHV, HTL.out, HCT.out]
        · have hr : Rd encLn 2 w9 V10.heap.size A9 TL := HR10.out.keepIf fun b off hb _ o => World.cell?_of_block (hoz b (by have := HA9.out b off hb; have := HB3c.out.lt; have := HVZ.out.1; omega))
          rw [HTL.out]
          exact hr.more ((hbz 0 V10 (Nat.zero_le _) (Below.refl _ _)).size)
end Go.Proofs.YtelchfijalkibaaGreatDoor
