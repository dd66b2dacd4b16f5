/- The reference's Trip, walked. -/
import Derived.Test.YtcpfiiapfggmpaaGreatTrpP
import Derived.Test.YtcpfiiapfggmpaaGreatTrpRApp
import Derived.Test.YtcpfiiapfggmpaaGreatJDisRBest
import Derived.Test.YtcpfiiapfggmpaaGreatJTrpRRatio
import Derived.Test.YtcpfiiapfggmpaaGreatJTrpM
import Derived.Deep.DeepCutAuto
set_option linter.unusedSimpArgs false
set_option linter.unusedSimpArgs false
namespace Go.Proofs.YtcpfiiapfggmpaaGreat
open Go.RowKit Go.Lib

def baseL (n p : Int) : List Ln := (baseS, n) :: stpL n p
theorem baseL_len (n p : Int) : (baseL n p).length ≤ 2 := by have := stpL_len n p; unfold baseL; simp; omega
theorem trpL_base (l : List Dc) (n p : Int) (b : List Nat) : baseL n p ++ (lnsS l p b).1 = trpL l n p b := by unfold baseL trpL; simp
/-- the first lines lie in the new charge -/
def BaseC (xi xv xy : ByteArray) (cl lt n p : Int) (ob : Nat) (V2 wx : World) : Prop := ∃ A c, Blk wx ob #[.string (keyT xi), .string xv, .string xy, .int .i64 cl, .int .i64 lt, .slice A (baseL n p).length c, .int .i64 0] 66 ∧ Own 123 encLn 2 wx V2.heap.size A c (baseL n p) ∧ Below ob V2 wx
/-- all lines lie in the new charge -/
def TripC (xi xv xy : ByteArray) (cl lt n p : Int) (L : List Dc) (ob : Nat) (V2 wx : World) : Prop := ∃ A c b, BestR L p b ∧ (lnsS L p b).1.length = b.length ∧ Blk wx ob #[.string (keyT xi), .string xv, .string xy, .int .i64 cl, .int .i64 lt, .slice A ((baseL n p).length + b.length) c, .int .i64 0] 66 ∧ Own 123 encLn 2 wx V2.heap.size A c (baseL n p ++ (lnsS L p b).1) ∧ Below ob V2 wx
theorem red_bnd {l : List Dc} (hok : LOk l) {p : Int} (h0 : 0 ≤ p) (h1 : p ≤ 1125899906842624) (b : List Nat) : 0 ≤ red l p b ∧ red l p b ≤ p := by
  have := (sumA_bnd hok h0 h1 b).1
  unfold red
  split <;> omega
set_option maxRecDepth 100000 in
set_option maxHeartbeats 16000000 in
theorem rtrip_any {tA uA dA qA kA xA : Option Addr} (tc uc dc qc kc xc : Nat) (pe : Int) (o0 o1 o2 o3 o4 o5 o6 o7 o14 o15 o16 o17 o18 o19 o20 o21 o22 o23 o24 : Value) (xi xv xy : ByteArray) (cl lv er : Int) {ts : List Ta} {us ds qs : List Int} {dcs : List Dc} {ss : List Stp} {w : World}
    (ht : Rd encTa 4 w w.heap.size tA ts) (hto : ∀ y ∈ ts, TaOk w y ∧ TaSm y) (htl : ts.length ≤ 1000000) (htc : ∀ x ∈ ts, ∀ y ∈ x.rs, RtC y) (hsc : ScOk pe us ds qs) (hu : Rd encI 1 w w.heap.size uA us) (hd : Rd encI 1 w w.heap.size dA ds) (hq : Rd encI 1 w w.heap.size qA qs)
    (hk : Rd encDc 10 w w.heap.size kA dcs) (hkl : LOk dcs) (hs : Rd encSp 3 w w.heap.size xA ss) (hsl : ss.length ≤ 1000000) (hs0 : 0 < ss.length) (hxi : xi.size ≤ 1000000000000000000) :
    Calls Tryz.prog 20 #[.agg #[o0, o1, o2, o3, o4, o5, o6, o7, .slice tA ts.length tc, .int .i64 pe, .slice uA us.length uc, .slice dA ds.length dc, .slice qA qs.length qc, .slice kA dcs.length kc, o14, o15, o16, o17, o18, o19, o20, o21, o22, o23, o24], .agg #[.string xi, .string xv, .string xy, .int .i64 cl, .slice xA ss.length xc], .int .i64 lv, .int .i64 er] w fun e w' => TripE ts qs dcs xi xv xy cl ss lv er w w' e := by
  obtain ⟨Y1, hY1⟩ : ∃ Y, w.alloc (.cells #[o0, o1, o2, o3, o4, o5, o6, o7, .slice tA ts.length tc, .int .i64 pe, .slice uA us.length uc, .slice dA ds.length dc, .slice qA qs.length qc, .slice kA dcs.length kc, o14, o15, o16, o17, o18, o19, o20, o21, o22, o23, o24] 46) = Y := ⟨_, rfl⟩
  obtain ⟨Y2, hY2⟩ : ∃ Y, Y1.alloc (.cells #[.string xi, .string xv, .string xy, .int .i64 cl, .slice xA ss.length xc] 49) = Y := ⟨_, rfl⟩
  obtain ⟨Y3, hY3⟩ : ∃ Y, Y2.alloc (.cells #[.string ⟨#[]⟩, .string ⟨#[]⟩, .string ⟨#[]⟩, .int .i64 0, .int .i64 0, .slice none 0 0, .int .i64 0] 66) = Y := ⟨_, rfl⟩
  have b1 : Below w.heap.size w Y1 := by rw [← hY1]; exact (Below.refl _ w).al _
  have b2 : Below w.heap.size w Y2 := by rw [← hY2]; exact b1.al _
  have b3 : Below w.heap.size w Y3 := by rw [← hY3]; exact b2.al _
  have s1 : Y1.heap.size = w.heap.size + 1 := by rw [← hY1]; simp
  have s2 : Y2.heap.size = w.heap.size + 2 := by rw [← hY2]; simp [s1]
  have B1 : Blk Y3 w.heap.size #[o0, o1, o2, o3, o4, o5, o6, o7, .slice tA ts.length tc, .int .i64 pe, .slice uA us.length uc, .slice dA ds.length dc, .slice qA qs.length qc, .slice kA dcs.length kc, o14, o15, o16, o17, o18, o19, o20, o21, o22, o23, o24] 46 := by rw [← hY3, ← hY2, ← hY1]; exact ((Blk.new w _ _).alloc _).alloc _
  have B2 : Blk Y3 (w.heap.size + 1) #[.string xi, .string xv, .string xy, .int .i64 cl, .slice xA ss.length xc] 49 := by rw [← s1, ← hY3, ← hY2]; exact (Blk.new Y1 _ _).alloc _
  have B3 : Blk Y3 (w.heap.size + 2) #[.string ⟨#[]⟩, .string ⟨#[]⟩, .string ⟨#[]⟩, .int .i64 0, .int .i64 0, .slice none 0 0, .int .i64 0] 66 := by rw [← s2, ← hY3]; exact Blk.new Y2 _ _
  obtain ⟨s0, hss0⟩ : ∃ s0, ss[0]? = some s0 := ⟨_, List.getElem?_eq_getElem hs0⟩
  have CB := Lib.hid (rbase_any tc xc o0 o1 o2 o3 o4 o5 o6 o7 (.int .i64 pe) (.slice uA us.length uc) (.slice dA ds.length dc) (.slice qA qs.length qc) (.slice kA dcs.length kc) o14 o15 o16 o17 o18 o19 o20 o21 o22 o23 o24 xi xv xy cl (ht.st b3) (fun y hy => ⟨((hto y hy).1).st b3, (hto y hy).2⟩) htl (hs.st b3) (by omega))
  have CP := Lib.hid (fun (X : World) (hX : Below w.heap.size w X) => rpart_any uc dc qc pe lv hsc (hu.st hX) (hd.st hX) (hq.st hX))
  have CA := Lib.hid (fun (X : World) (hX : Below w.heap.size w X) => rappl_any tc uc dc qc kc xc pe o0 o1 o2 o3 o4 o5 o6 o7 o14 o15 o16 o17 o18 o19 o20 o21 o22 o23 o24 xi xv xy cl er (ts := ts) (us := us) (ds := ds) (qs := qs) (tA := tA) (uA := uA) (dA := dA) (qA := qA) (hk.st hX) hkl (hs.st hX) hsl hss0)
  have HKL := Lib.hid hkl
  have HS := Lib.hid hs
  have HS0 := Lib.hid hss0
  have hpm := partM_bnd hsc lv
  have hbb := baseM_bnd htc cl ss
  have HFW := Lib.hid hkl.few
  have HSN := Lib.hid hs0
  clear ht hto htl htc hsc hu hd hq hk hkl hs b1 b2 hss0
  go_enter Tryz.func20, Tryz.ntmps20
  go_wp2_with (first | (refine wpList_boxLoad rfl (ty := 46) (x := .tmp 4) (cs := #[o0, o1, o2, o3, o4, o5, o6, o7, .slice tA ts.length tc, .int .i64 pe, .slice uA us.length uc, .slice dA ds.length dc, .slice qA qs.length qc, .slice kA dcs.length kc, o14, o15, o16, o17, o18, o19, o20, o21, o22, o23, o24]) rfl (B1) rfl ⟨_, Tryz.underlying46, by kernel_rfl⟩ ?_) | (refine wpList_boxLoad rfl (ty := 49) (x := .tmp 5) (cs := #[.string xi, .string xv, .string xy, .int .i64 cl, .slice xA ss.length xc]) rfl (B2) rfl ⟨_, Tryz.underlying49, by kernel_rfl⟩ ?_))
  refine CB.out.mono ?_
  rintro e W2 ⟨rfl, hbn⟩
  have b2 := b3.st hbn
  have B1 := B1.below hbn B1.lt
  have B2 := B2.below hbn B2.lt
  have B3 := B3.below hbn B3.lt
  have HBR : Hid (∀ e, (baseM ts cl ss).2 = e → e ≠ 0 → TripR ts qs dcs xi xv xy cl ss lv er zeroC e) := Lib.hid (fun e h1 h2 => .base e h1 h2)
  have HRR : Hid (∀ e, (baseM ts cl ss).2 = 0 → (nearP (baseM ts cl ss).1 (partM qs lv)).2 = e → e ≠ 0 → TripR ts qs dcs xi xv xy cl ss lv er zeroC e) := Lib.hid (fun e h1 h2 h3 => .ratio e h1 h2 h3)
  have HOK : Hid (∀ b, (baseM ts cl ss).2 = 0 → (nearP (baseM ts cl ss).1 (partM qs lv)).2 = 0 → BestR (appL xy cl s0.t er dcs) (nearP (baseM ts cl ss).1 (partM qs lv)).1 b → TripR ts qs dcs xi xv xy cl ss lv er ⟨keyT xi, xv, xy, cl, lastT ss, trpL (appL xy cl s0.t er dcs) (baseM ts cl ss).1 (nearP (baseM ts cl ss).1 (partM qs lv)).1 b, (nearP (baseM ts cl ss).1 (partM qs lv)).1 - red (appL xy cl s0.t er dcs) (nearP (baseM ts cl ss).1 (partM qs lv)).1 b⟩ 0) := Lib.hid (fun b h1 h2 h3 => .ok s0 b HS0.out h1 h2 h3)
  clear CB hbn hY1 hY2 hY3 s1 s2 b3
  obtain ⟨n, hn⟩ : ∃ n, (baseM ts cl ss).1 = n := ⟨_, rfl⟩
  obtain ⟨e1, he1⟩ : ∃ n, (baseM ts cl ss).2 = n := ⟨_, rfl⟩
  rw [hn] at hbb HRR HOK ⊢
  rw [he1] at HBR HRR HOK ⊢
  clear hn he1
  by_cases he : e1 = 0
  case' neg =>
    have HE := Lib.hid he
    have hne : (e1 != 0) = true := by simp [he]
    clear he CP CA
    go_wp2_with (refine wpList_boxStore rfl (ty := 66) (x := .tmp 8) (y := .tmp 26) (cells := #[.string ⟨#[]⟩, .string ⟨#[]⟩, .string ⟨#[]⟩, .int .i64 0, .int .i64 0, .slice none 0 0, .int .i64 0]) rfl B3 rfl rfl (by kernel_rfl) rfl (by kernel_rfl) ?_; intro w7 B7 hoz hbz)
    refine bodyPost_ret (v := .tuple #[.agg #[.string ⟨#[]⟩, .string ⟨#[]⟩, .string ⟨#[]⟩, .int .i64 0, .int .i64 0, .slice none 0 0, .int .i64 0], .int .i64 e1]) (results_box_tmp Tryz.results20 _ (.int .i64 e1) rfl rfl B7 ⟨_, Tryz.underlying66, by kernel_rfl⟩) rfl ?_
    exact ⟨zeroC, e1, none, 0, HBR.out e1 rfl HE.out, rfl, Rd.nil, hbz _ _ (Nat.le_add_right _ _) b2⟩
  subst he
  have HRX := Lib.hid (fun e => HRR.out e rfl)
  have HOX := Lib.hid (fun b => HOK.out b rfl)
  clear HRR HOK
  have HB2 := Lib.hid B2
  have HB3 := Lib.hid B3
  have HBW := Lib.hid b2
  have CAX := Lib.hid (CA.out W2 b2)
  have hf12 : dcs.length ≤ 12 := HFW.out
  have HLO := Lib.hid (appL_ok (sy := xy) (cl := cl) (t := s0.t) (er := er) HKL.out)
  obtain ⟨L, hL⟩ : ∃ L, appL xy cl s0.t er dcs = L := ⟨_, rfl⟩
  rw [hL] at CAX HLO HOX
  have hl12 : ¬ (12 : Int) < (L.length : Int) := by have := HLO.out.few; omega
  clear hL B3 b2 CA
  go_wp2_with (first | (refine wpList_boxLoad rfl (ty := 46) (x := .tmp 4) (cs := #[o0, o1, o2, o3, o4, o5, o6, o7, .slice tA ts.length tc, .int .i64 pe, .slice uA us.length uc, .slice dA ds.length dc, .slice qA qs.length qc, .slice kA dcs.length kc, o14, o15, o16, o17, o18, o19, o20, o21, o22, o23, o24]) rfl (B1) rfl ⟨_, Tryz.underlying46, by kernel_rfl⟩ ?_) | (refine wpList_boxLoad rfl (ty := 49) (x := .tmp 5) (cs := #[.string xi, .string xv, .string xy, .int .i64 cl, .slice xA ss.length xc]) rfl (B2) rfl ⟨_, Tryz.underlying49, by kernel_rfl⟩ ?_))
  refine CAX.out.mono ?_
  rintro e wr ⟨A, c, rfl, hown, hbn⟩
  have bW := HBW.out.st hbn
  have B1 := B1.below hbn B1.lt
  have g9 := B1.cell 9 (v := .int .i64 pe) rfl
  have g10 := B1.cell 10 (v := .slice uA us.length uc) rfl
  have g11 := B1.cell 11 (v := .slice dA ds.length dc) rfl
  have g12 := B1.cell 12 (v := .slice qA qs.length qc) rfl
  have CPX := Lib.hid (CP.out wr bW)
  have CQ := Lib.hid (fun (X : World) => rnear_any hbb.1 hbb.2 hpm.1 hpm.2 X)
  have hnb := nearP_bnd hbb.1 hpm.1
  have HOW := Lib.hid hown
  have B2 := HB2.out.below hbn HB2.out.lt
  have B3 := HB3.out.below hbn HB3.out.lt
  clear hown hbn CP CAX hf12 HB2 HB3
  obtain ⟨p, hp⟩ : ∃ p, (nearP n (partM qs lv)).1 = p := ⟨_, rfl⟩
  obtain ⟨e2, he2⟩ : ∃ p, (nearP n (partM qs lv)).2 = p := ⟨_, rfl⟩
  rw [hp] at CQ hnb HOX
  rw [he2] at CQ HRX HOX
  generalize partM qs lv = pm at *
  clear hp he2 hpm
  go_wp2_with fail
  refine CPX.out.mono ?_
  rintro e W3 ⟨rfl, hbn⟩
  have bW3 := bW.st hbn
  have HO3 := Lib.hid (HOW.out.keep hbn (Nat.le_refl _))
  have B2 := B2.below hbn B2.lt
  have B3 := B3.below hbn B3.lt
  clear hbn B1 g9 g10 g11 g12 CPX HOW bW
  go_wp2_with fail
  refine (CQ.out _).mono ?_
  rintro e w' ⟨rfl, kq, hw'⟩
  obtain ⟨wc, hW4⟩ : ∃ X, W3.drewN kq = X := ⟨_, rfl⟩
  rw [hW4] at hw'
  rw [hw']
  have bW : Below w.heap.size w wc := by rw [← hW4]; exact below_drewN bW3 kq
  have B2 : Blk wc (w.heap.size + 1) #[.string xi, .string xv, .string xy, .int .i64 cl, .slice xA ss.length xc] 49 := by rw [← hW4]; exact B2
  have B3 : Blk wc (w.heap.size + 2) #[.string ⟨#[]⟩, .string ⟨#[]⟩, .string ⟨#[]⟩, .int .i64 0, .int .i64 0, .slice none 0 0, .int .i64 0] 66 := by rw [← hW4]; exact B3
  have HOc : Hid (Own 93 encDc 10 wc W2.heap.size A c L) := Lib.hid (by rw [← hW4]; exact HO3.out.drewN kq)
  clear hw' w' hW4 bW3 HO3 CQ
  by_cases he : e2 = 0
  case' neg =>
    have HE := Lib.hid he
    have hne : (e2 != 0) = true := by simp [he]
    clear he
    go_wp2_with (refine wpList_boxStore rfl (ty := 66) (x := .tmp 8) (y := .tmp 47) (cells := #[.string ⟨#[]⟩, .string ⟨#[]⟩, .string ⟨#[]⟩, .int .i64 0, .int .i64 0, .slice none 0 0, .int .i64 0]) rfl B3 rfl rfl (by kernel_rfl) rfl (by kernel_rfl) ?_; intro w7 B7 hoz hbz)
    refine bodyPost_ret (v := .tuple #[.agg #[.string ⟨#[]⟩, .string ⟨#[]⟩, .string ⟨#[]⟩, .int .i64 0, .int .i64 0, .slice none 0 0, .int .i64 0], .int .i64 e2]) (results_box_tmp Tryz.results20 _ (.int .i64 e2) rfl rfl B7 ⟨_, Tryz.underlying66, by kernel_rfl⟩) rfl ?_
    exact ⟨zeroC, e2, none, 0, HRX.out e2 rfl HE.out, rfl, Rd.nil, hbz _ _ (Nat.le_add_right _ _) bW⟩
  subst he
  have HOZ := Lib.hid (fun b => HOX.out b rfl)
  clear HOX HRX
  obtain ⟨hb1, hb2⟩ := hbb
  obtain ⟨hp1, hp2⟩ := hnb
  have HB3c := Lib.hid B3
  have HBWc := Lib.hid bW
  obtain ⟨m, hm⟩ : ∃ m, m + 1 = ss.length := ⟨ss.length - 1, by have := HSN.out; omega⟩
  obtain ⟨xb, xo, s, hxA, hxb, hx, f0, f1, f2⟩ := (HS.out.st bW).stp (i := m) (by omega)
  subst hxA
  have hlt : lastT ss = s.t := by unfold lastT; rw [show ss.length - 1 = m by omega, hx]; rfl
  obtain ⟨lt, hlte⟩ : ∃ lt, s.t = lt := ⟨_, rfl⟩
  rw [hlte] at f1 hlt
  rw [hlt] at HOZ
  have hwm : IntKind.i64.wrap ((ss.length : Int) - 1) = (m : Int) := by rw [show (ss.length : Int) - 1 = (m : Int) by omega]; exact IntWalk.i64_in _ (by omega)
  have m1 : (0 : Int) ≤ (m : Int) := by omega
  have m2 : (m : Int) < (ss.length : Int) := by omega
  have m3 : m < ss.length := by omega
  have hsz : ¬ 9223372036854775807 < (⟨#[116, 58]⟩ : ByteArray).size + xi.size := by show ¬ _ < 2 + xi.size; omega
  have hsz2 : ¬ 9223372036854775807 < 2 + xi.size := by omega
  have KS : Hid (∀ X, Below wc.heap.size wc X → (fun w' : World => w'.cell? ⟨w.heap.size + 1, 0, none⟩ = some (.string xi) ∧ w'.cell? ⟨w.heap.size + 1, 1, none⟩ = some (.string xv) ∧ w'.cell? ⟨w.heap.size + 1, 2, none⟩ = some (.string xy) ∧ w'.cell? ⟨w.heap.size + 1, 3, none⟩ = some (.int .i64 cl) ∧ w'.cell? ⟨w.heap.size + 1, 4, none⟩ = some (.slice (some ⟨xb, xo, none⟩) ss.length xc) ∧ w'.cell? ⟨xb, xo + m * 3 + 1, none⟩ = some (.int .i64 lt)) X) := Lib.hid (fun X hX => ⟨(B2.below hX B2.lt).cell 0 rfl, (B2.below hX B2.lt).cell 1 rfl, (B2.below hX B2.lt).cell 2 rfl, (B2.below hX B2.lt).cell 3 rfl, (B2.below hX B2.lt).cell 4 rfl, (hX.cell (p := ⟨xb, xo + m * 3 + 1, none⟩) hxb).trans f1⟩)
  clear bW B3 hlte hlt hx hxb f0 f1 f2 B2 hm
  go_wp2_with fail
  refine wp_region_held_drew (S := (fun w' : World => w'.cell? ⟨w.heap.size + 1, 0, none⟩ = some (.string xi) ∧ w'.cell? ⟨w.heap.size + 1, 1, none⟩ = some (.string xv) ∧ w'.cell? ⟨w.heap.size + 1, 2, none⟩ = some (.string xy) ∧ w'.cell? ⟨w.heap.size + 1, 3, none⟩ = some (.int .i64 cl) ∧ w'.cell? ⟨w.heap.size + 1, 4, none⟩ = some (.slice (some ⟨xb, xo, none⟩) ss.length xc) ∧ w'.cell? ⟨xb, xo + m * 3 + 1, none⟩ = some (.int .i64 lt))) (by kernel_rfl) ?_ (fun hHeld => ?_)
  focus exact KS.out _ (Below.refl _ _).drew
  have hSS := KS.out _ (Below.refl wc.heap.size wc).drew
  have bR := (Below.refl wc.heap.size wc).drew
  obtain ⟨V0, hV0⟩ : ∃ V, World.drew wc = V := ⟨_, rfl⟩
  rw [hV0] at bR hHeld hSS ⊢
  clear hV0
  change wpAnyH _ _ _ _ _ 21 _ _ _
  refine wpAnyH_take (i := 0) (v := ?_) (by simp only [List.getElem?_toArray, List.getElem?_cons_zero, List.getElem?_cons_succ]; rfl) (by kernel_rfl) (by kernel_rfl) (by kernel_rfl) (by intro _ _ _ h; exact h) (Or.inl ⟨by rfl, ?_⟩) (by assumption) ?_; rotate_left; (focus (intro w1 hSw; (try dsimp only at hSw); go_simp; (try with_reducible rfl))); (try simp only [Act.put, List.setIfInBounds_toArray, List.set_cons_zero, List.set_cons_succ, List.getElem_toArray, List.getElem_cons_zero, List.getElem_cons_succ])
  refine wpAnyH_take (i := 1) (v := ?_) (by simp only [List.getElem?_toArray, List.getElem?_cons_zero, List.getElem?_cons_succ]; rfl) (by kernel_rfl) (by kernel_rfl) (by kernel_rfl) (by intro _ _ _ h; exact h) (Or.inl ⟨by rfl, ?_⟩) (by assumption) ?_; rotate_left; (focus (intro w1 hSw; (try dsimp only at hSw); go_simp; (try with_reducible rfl))); (try simp only [Act.put, List.setIfInBounds_toArray, List.set_cons_zero, List.set_cons_succ, List.getElem_toArray, List.getElem_cons_zero, List.getElem_cons_succ])
  refine wpAnyH_take (i := 2) (v := ?_) (by simp only [List.getElem?_toArray, List.getElem?_cons_zero, List.getElem?_cons_succ]; rfl) (by kernel_rfl) (by kernel_rfl) (by kernel_rfl) (by intro _ _ _ h; exact h) (Or.inl ⟨by rfl, ?_⟩) (by assumption) ?_; rotate_left; (focus (intro w1 hSw; (try dsimp only at hSw); go_simp; (try with_reducible rfl))); (try simp only [Act.put, List.setIfInBounds_toArray, List.set_cons_zero, List.set_cons_succ, List.getElem_toArray, List.getElem_cons_zero, List.getElem_cons_succ])
  refine wpAnyH_take (i := 3) (v := ?_) (by simp only [List.getElem?_toArray, List.getElem?_cons_zero, List.getElem?_cons_succ]; rfl) (by kernel_rfl) (by kernel_rfl) (by kernel_rfl) (by intro _ _ _ h; exact h) (Or.inl ⟨by rfl, ?_⟩) (by assumption) ?_; rotate_left; (focus (intro w1 hSw; (try dsimp only at hSw); go_simp; (try with_reducible rfl))); (try simp only [Act.put, List.setIfInBounds_toArray, List.set_cons_zero, List.set_cons_succ, List.getElem_toArray, List.getElem_cons_zero, List.getElem_cons_succ])
  refine wpAnyH_take (i := 4) (v := ?_) (by simp only [List.getElem?_toArray, List.getElem?_cons_zero, List.getElem?_cons_succ]; rfl) (by kernel_rfl) (by kernel_rfl) (by kernel_rfl) (by intro _ _ _ h; exact h) (Or.inl ⟨by rfl, ?_⟩) (by assumption) ?_; rotate_left; (focus (intro w1 hSw; (try dsimp only at hSw); go_simp; (try with_reducible rfl))); (try simp only [Act.put, List.setIfInBounds_toArray, List.set_cons_zero, List.set_cons_succ, List.getElem_toArray, List.getElem_cons_zero, List.getElem_cons_succ])
  refine wpAnyH_take (i := 5) (v := ?_) (by simp only [List.getElem?_toArray, List.getElem?_cons_zero, List.getElem?_cons_succ]; rfl) (by kernel_rfl) (by kernel_rfl) (by kernel_rfl) (by intro _ _ _ h; exact h) (Or.inl ⟨by rfl, ?_⟩) (by assumption) ?_; rotate_left; (focus (intro w1 hSw; (try dsimp only at hSw); go_simp; (try with_reducible rfl))); (try simp only [Act.put, List.setIfInBounds_toArray, List.set_cons_zero, List.set_cons_succ, List.getElem_toArray, List.getElem_cons_zero, List.getElem_cons_succ])
  refine wpAnyH_take (i := 6) (v := ?_) (by simp only [List.getElem?_toArray, List.getElem?_cons_zero, List.getElem?_cons_succ]; rfl) (by kernel_rfl) (by kernel_rfl) (by kernel_rfl) (by intro _ _ _ h; exact h) (Or.inl ⟨by rfl, ?_⟩) (by assumption) ?_; rotate_left; (focus (intro w1 hSw; (try dsimp only at hSw); go_simp; (try with_reducible rfl))); (try simp only [Act.put, List.setIfInBounds_toArray, List.set_cons_zero, List.set_cons_succ, List.getElem_toArray, List.getElem_cons_zero, List.getElem_cons_succ])
  refine wpAnyH_take (i := 7) (v := ?_) (by simp only [List.getElem?_toArray, List.getElem?_cons_zero, List.getElem?_cons_succ]; rfl) (by kernel_rfl) (by kernel_rfl) (by kernel_rfl) (by intro _ _ _ h; exact h) (Or.inl ⟨by rfl, ?_⟩) (by assumption) ?_; rotate_left; (focus (intro w1 hSw; (try dsimp only at hSw); go_simp; (try with_reducible rfl))); (try simp only [Act.put, List.setIfInBounds_toArray, List.set_cons_zero, List.set_cons_succ, List.getElem_toArray, List.getElem_cons_zero, List.getElem_cons_succ])
  refine wpAnyH_take (i := 8) (v := ?_) (by simp only [List.getElem?_toArray, List.getElem?_cons_zero, List.getElem?_cons_succ]; rfl) (by kernel_rfl) (by kernel_rfl) (by kernel_rfl) (by intro _ _ _ h; exact h) (Or.inl ⟨by rfl, ?_⟩) (by assumption) ?_; rotate_left; (focus (intro w1 hSw; (try dsimp only at hSw); go_simp; (try with_reducible rfl))); (try simp only [Act.put, List.setIfInBounds_toArray, List.set_cons_zero, List.set_cons_succ, List.getElem_toArray, List.getElem_cons_zero, List.getElem_cons_succ])
  refine wpAnyH_take (i := 9) (v := ?_) (by simp only [List.getElem?_toArray, List.getElem?_cons_zero, List.getElem?_cons_succ]; rfl) (by kernel_rfl) (by kernel_rfl) (by kernel_rfl) (by intro _ _ _ h; exact h) (Or.inl ⟨by rfl, ?_⟩) (by assumption) ?_; rotate_left; (focus (intro w1 hSw; (try dsimp only at hSw); go_simp; (try with_reducible rfl))); (try simp only [Act.put, List.setIfInBounds_toArray, List.set_cons_zero, List.set_cons_succ, List.getElem_toArray, List.getElem_cons_zero, List.getElem_cons_succ])
  refine wpAnyH_take (i := 10) (v := ?_) (by simp only [List.getElem?_toArray, List.getElem?_cons_zero, List.getElem?_cons_succ]; rfl) (by kernel_rfl) (by kernel_rfl) (by kernel_rfl) (by intro _ _ _ h; exact h) (Or.inl ⟨by rfl, ?_⟩) (by assumption) ?_; rotate_left; (focus (intro w1 hSw; (try dsimp only at hSw); go_simp; (try with_reducible rfl))); (try simp only [Act.put, List.setIfInBounds_toArray, List.set_cons_zero, List.set_cons_succ, List.getElem_toArray, List.getElem_cons_zero, List.getElem_cons_succ])
  refine wpAnyH_take (i := 11) (v := ?_) (by simp only [List.getElem?_toArray, List.getElem?_cons_zero, List.getElem?_cons_succ]; rfl) (by kernel_rfl) (by kernel_rfl) (by kernel_rfl) (by intro _ _ _ h; exact h) (Or.inl ⟨by rfl, ?_⟩) (by assumption) ?_; rotate_left; (focus (intro w1 hSw; (try dsimp only at hSw); go_simp; (try with_reducible rfl))); (try simp only [Act.put, List.setIfInBounds_toArray, List.set_cons_zero, List.set_cons_succ, List.getElem_toArray, List.getElem_cons_zero, List.getElem_cons_succ])
  refine wpAnyH_take (i := 12) (v := ?_) (by simp only [List.getElem?_toArray, List.getElem?_cons_zero, List.getElem?_cons_succ]; rfl) (by kernel_rfl) (by kernel_rfl) (by kernel_rfl) (by intro _ _ _ h; exact h) (Or.inl ⟨by rfl, ?_⟩) (by assumption) ?_; rotate_left; (focus (intro w1 hSw; (try dsimp only at hSw); go_simp; (try with_reducible rfl))); (try simp only [Act.put, List.setIfInBounds_toArray, List.set_cons_zero, List.set_cons_succ, List.getElem_toArray, List.getElem_cons_zero, List.getElem_cons_succ])
  refine wpAnyH_take (i := 13) (v := ?_) (by simp only [List.getElem?_toArray, List.getElem?_cons_zero, List.getElem?_cons_succ]; rfl) (by kernel_rfl) (by kernel_rfl) (by kernel_rfl) (by intro _ _ _ h; exact h) (Or.inl ⟨by rfl, ?_⟩) (by assumption) ?_; rotate_left; (focus (intro w1 hSw; (try dsimp only at hSw); go_simp; (try with_reducible rfl))); (try simp only [Act.put, List.setIfInBounds_toArray, List.set_cons_zero, List.set_cons_succ, List.getElem_toArray, List.getElem_cons_zero, List.getElem_cons_succ])
  refine wpAnyH_take (i := 14) (v := ?_) (by simp only [List.getElem?_toArray, List.getElem?_cons_zero, List.getElem?_cons_succ]; rfl) (by kernel_rfl) (by kernel_rfl) (by kernel_rfl) (by intro _ _ _ h; exact h) (Or.inl ⟨by rfl, ?_⟩) (by assumption) ?_; rotate_left; (focus (intro w1 hSw; (try dsimp only at hSw); go_simp; (try with_reducible rfl))); (try simp only [Act.put, List.setIfInBounds_toArray, List.set_cons_zero, List.set_cons_succ, List.getElem_toArray, List.getElem_cons_zero, List.getElem_cons_succ])
  refine wpAnyH_take (i := 15) (v := ?_) (by simp only [List.getElem?_toArray, List.getElem?_cons_zero, List.getElem?_cons_succ]; rfl) (by kernel_rfl) (by kernel_rfl) (by kernel_rfl) (by intro _ _ _ h; exact h) (Or.inl ⟨by rfl, ?_⟩) (by assumption) ?_; rotate_left; (focus (intro w1 hSw; (try dsimp only at hSw); go_simp; (try with_reducible rfl))); (try simp only [Act.put, List.setIfInBounds_toArray, List.set_cons_zero, List.set_cons_succ, List.getElem_toArray, List.getElem_cons_zero, List.getElem_cons_succ])
  refine wpAnyH_take (i := 16) (v := ?_) (by simp only [List.getElem?_toArray, List.getElem?_cons_zero, List.getElem?_cons_succ]; rfl) (by kernel_rfl) (by kernel_rfl) (by kernel_rfl) (by intro _ _ _ h; exact h) (Or.inl ⟨by rfl, ?_⟩) (by assumption) ?_; rotate_left; (focus (intro w1 hSw; (try dsimp only at hSw); go_simp; (try with_reducible rfl))); (try simp only [Act.put, List.setIfInBounds_toArray, List.set_cons_zero, List.set_cons_succ, List.getElem_toArray, List.getElem_cons_zero, List.getElem_cons_succ])
  refine wpAnyH_take (i := 17) (v := ?_) (by simp only [List.getElem?_toArray, List.getElem?_cons_zero, List.getElem?_cons_succ]; rfl) (by kernel_rfl) (by kernel_rfl) (by kernel_rfl) (by intro _ _ _ h; exact h) (Or.inl ⟨by rfl, ?_⟩) (by assumption) ?_; rotate_left; (focus (intro w1 hSw; (try dsimp only at hSw); go_simp; (try with_reducible rfl))); (try simp only [Act.put, List.setIfInBounds_toArray, List.set_cons_zero, List.set_cons_succ, List.getElem_toArray, List.getElem_cons_zero, List.getElem_cons_succ])
  refine wpAnyH_take (i := 18) (v := ?_) (by simp only [List.getElem?_toArray, List.getElem?_cons_zero, List.getElem?_cons_succ]; rfl) (by kernel_rfl) (by kernel_rfl) (by kernel_rfl) (by intro _ _ _ h; exact h) (Or.inl ⟨by rfl, ?_⟩) (by assumption) ?_; rotate_left; (focus (intro w1 hSw; (try dsimp only at hSw); go_simp; (try with_reducible rfl))); (try simp only [Act.put, List.setIfInBounds_toArray, List.set_cons_zero, List.set_cons_succ, List.getElem_toArray, List.getElem_cons_zero, List.getElem_cons_succ])
  refine wpAnyH_ready (rs := [19]) (by kernel_rfl) (by simp) ?_; refine AllReadyH.cons (by simp only [List.getElem?_toArray, List.getElem?_cons_zero, List.getElem?_cons_succ]; rfl) (fun K hK => ?_) AllReadyH.nil
  obtain ⟨V1, hV⟩ : ∃ V, World.alloc V0 (.cells #[.string ⟨#[]⟩, .string ⟨#[]⟩, .string ⟨#[]⟩, .int .i64 0, .int .i64 0, .slice none 0 0, .int .i64 0] 66) = V := ⟨_, rfl⟩
  have hbn : Below V0.heap.size V0 V1 := by rw [← hV]; exact (Below.refl _ _).al _
  have C5 : Blk V1 V0.heap.size #[.string ⟨#[]⟩, .string ⟨#[]⟩, .string ⟨#[]⟩, .int .i64 0, .int .i64 0, .slice none 0 0, .int .i64 0] 66 := by rw [← hV]; exact Blk.new _ _ _
  have bR1 := bR.st hbn
  rw [if_pos (by rfl)]
  go_wp2_with fail
  refine hK.out _ _ (KS.out _ bR1) (fun hHeld => ?_)
  clear hK K
  (try simp only [Act.put, List.setIfInBounds_toArray, List.set_cons_zero, List.set_cons_succ, List.getElem_toArray, List.getElem_cons_zero, List.getElem_cons_succ])
  refine wpAnyH_ready (rs := [20]) (by kernel_rfl) (by simp) ?_; refine AllReadyH.cons (by simp only [List.getElem?_toArray, List.getElem?_cons_zero, List.getElem?_cons_succ]; rfl) (fun K hK => ?_) AllReadyH.nil
  rw [if_pos (by rfl)]
  refine wp_boxStore rfl C5 rfl rfl (by kernel_rfl) rfl (by kernel_rfl) ?_
  intro V2 C6 hoz hbz
  have bR2 := hbz _ _ bR.size bR1
  refine hK.out _ _ (KS.out _ bR2) (fun hHeld => ?_)
  clear hK K
  (try simp only [Act.put, List.setIfInBounds_toArray, List.set_cons_zero, List.set_cons_succ, List.getElem_toArray, List.getElem_cons_zero, List.getElem_cons_succ])
  refine wpAnyH_done (by kernel_rfl) ?_ _
  have HC6 : Hid (Blk V2 V0.heap.size #[.string (keyT xi), .string xv, .string xy, .int .i64 cl, .int .i64 lt, .slice none 0 0, .int .i64 0] 66) := Lib.hid C6
  have HB2V := Lib.hid bR2
  have HVZ : Hid (wc.heap.size ≤ V0.heap.size ∧ V0.heap.size < V2.heap.size) := Lib.hid ⟨bR.size, C6.lt⟩
  clear hHeld hSS hV hbn C5 C6 bR bR1 bR2 hoz hbz KS hwm hsz hsz2 m1 m2 m3
  obtain ⟨ob, hob⟩ : ∃ ob, V0.heap.size = ob := ⟨_, rfl⟩
  rw [hob] at HC6 HVZ ⊢
  clear hob
  have HOV := Lib.hid (HOc.out.keep HB2V.out (Nat.le_refl _))
  have HBV := Lib.hid (HBWc.out.st HB2V.out)
  have q5 : Blk V2 ob #[.string (keyT xi), .string xv, .string xy, .int .i64 cl, .int .i64 lt, .slice none 0 0, .int .i64 0] 66 := HC6.out
  have c5 := q5.cell 5 (v := .slice none 0 0) rfl
  have f5 := q5.frozen 5
  have HNIL : Hid (Own 123 encLn 2 V2 V2.heap.size none 0 ([] : List Ln)) := Lib.hid (Own.nil _ _)
  have hnil := HNIL.out
  have hle := Nat.le_refl V2.heap.size
  clear q5
  go_upto_if 77 with (at_builtin; refine wpList_app1 rfl (.tmp 69) (.tmp 72) tyLn encLn_ok rfl (baseS, n) rfl _ rfl (by simp) hnil rfl (by first | rfl | simp) (by first | omega | (simp; done) | (simp; omega)) (by first | omega | (simp; done) | (simp; omega)) hle ?_; intro A9 c9 w9 hown9 hb9 hs9 hf9; have HBO9 := Lib.hid (HC6.out.below hb9 HVZ.out.2); have c5 := HBO9.out.cell 5 (v := .slice none 0 0) rfl; have f5 := HBO9.out.frozen 5)
  have HBOb := Lib.hid (HBO9.out.set 5 (.slice A9 1 c9))
  have HPOb := Lib.hid (hown9.other (p := ⟨ob, 5, none⟩) HVZ.out.2 (.slice A9 1 c9))
  have HBCb := Lib.hid ((hb9.mono (Nat.le_of_lt HVZ.out.2)).setCell (p := ⟨ob, 5, none⟩) (Nat.le_refl ob) (.slice A9 1 c9))
  clear hown9 hb9 hs9 hf9 c5 f5 HBO9 hnil hle HNIL
  have HBb : Hid (BaseC xi xv xy cl lt n p ob V2 (World.setCell w9 ⟨ob, 5, none⟩ (.slice A9 1 c9)) ∨ p ≠ n) := Lib.hid (by
    by_cases hpn : p = n
    · left
      have e : baseL n p = [(baseS, n)] := by unfold baseL stpL; rw [if_pos hpn]
      refine ⟨A9, c9, ?_, ?_, HBCb.out⟩
      · rw [e]; exact HBOb.out
      · rw [e]; exact HPOb.out
    · exact .inr hpn)
  obtain ⟨Wb, hWb⟩ : ∃ X, World.setCell w9 ⟨ob, 5, none⟩ (.slice A9 1 c9) = X := ⟨_, rfl⟩
  rw [hWb] at HBOb HPOb HBCb HBb ⊢
  clear hWb
  go_cut [] (fun wx => BaseC xi xv xy cl lt n p ob V2 wx)
  case first =>
    by_cases hpn : p = n
    · have q1 : (p != n) = false := by simp [hpn]
      have R : Hid (BaseC xi xv xy cl lt n p ob V2 Wb) := Lib.hid (by rcases HBb.out with h | h; (exact h); (exact absurd hpn h))
      clear hpn
      go_wp2_with fail
      go_meet
      exact R.out
    · have q1 : (p != n) = true := by simp [hpn]
      have e : Hid (baseL n p = [(baseS, n)] ++ [(levelS, p - n)]) := Lib.hid (by unfold baseL stpL; rw [if_neg hpn]; rfl)
      have w1 : IntKind.i64.wrap (p - n) = p - n := IntWalk.i64_in _ (by omega)
      have c5 := HBOb.out.cell 5 (v := .slice A9 1 c9) rfl
      have hown := HPOb.out
      have hbs := HBCb.out.size
      clear hpn
      go_wp2_with (at_builtin; refine wpList_app1 rfl (.tmp 79) (.tmp 84) tyLn encLn_ok rfl (levelS, p - n) rfl _ rfl (by simp) hown rfl (by first | rfl | simp) (by first | omega | (simp; done) | (simp; omega)) (by first | omega | (simp; done) | (simp; omega)) hbs ?_; intro A8 c8 w8 hown8 hb8 hs8 hf8; have HBO8 := Lib.hid (HBOb.out.below hb8 HVZ.out.2); have c5 := HBO8.out.cell 5 (v := .slice A9 1 c9) rfl; have f5 := HBO8.out.frozen 5)
      have HBOx := HBO8.out.set 5 (.slice A8 2 c8)
      have HPOx := hown8.other (p := ⟨ob, 5, none⟩) HVZ.out.2 (.slice A8 2 c8)
      have HBCx := (HBCb.out.trans (hb8.mono (Nat.le_of_lt HVZ.out.2))).setCell (p := ⟨ob, 5, none⟩) (Nat.le_refl ob) (.slice A8 2 c8)
      go_meet
      refine ⟨A8, c8, ?_, ?_, HBCx⟩
      · rw [e.out]; exact HBOx
      · rw [e.out]; exact HPOx
  case rest =>
    obtain ⟨SA, sc, hbo, hpo, hbc⟩ := hcut
    have HBO := Lib.hid hbo
    have HPO := Lib.hid hpo
    have HBC := Lib.hid hbc
    have HB2C := Lib.hid (HB2V.out.trans (hbc.mono HVZ.out.1))
    have c5 := HBO.out.cell 5 (v := .slice SA (baseL n p).length sc) rfl
    have hl12 := HLO.out.few
    clear hbo hpo hbc HBOb HPOb HBCb HBb
    go_upto_region 14 with fail
    go_cut [] (fun wx => TripC xi xv xy cl lt n p L ob V2 wx)
    case first =>
      refine wp_region_held_drew (S := fun _ => True) (by kernel_rfl) trivial (fun hHeld => ?_)
      obtain ⟨V0, hV0⟩ : ∃ V, World.drew wc = V := ⟨_, rfl⟩
      have CL := Lib.hid (rlinesD_any (lc := c) HLO.out hp1 hp2 (show Rd encDc 10 V0 V0.heap.size A L by rw [← hV0]; exact (HOc.out.rd encDc_ok).st HB2C.out.drew))
      have HBO : Hid (Blk V0 ob #[.string (keyT xi), .string xv, .string xy, .int .i64 cl, .int .i64 lt, .slice SA (baseL n p).length sc, .int .i64 0] 66) := Lib.hid (by rw [← hV0]; exact HBO.out)
      have HPO : Hid (Own 123 encLn 2 V0 V2.heap.size SA sc (baseL n p)) := Lib.hid (by rw [← hV0]; exact HPO.out)
      have HBC : Hid (Below ob V2 V0) := Lib.hid (by rw [← hV0]; exact HBC.out.drew)
      have c5 := HBO.out.cell 5 (v := .slice SA (baseL n p).length sc) rfl
      rw [hV0]
      clear hV0
      change wpAnyH _ _ _ _ _ 8 _ _ _
      refine wpAnyH_take (i := 0) (v := ?_) (by simp only [List.getElem?_toArray, List.getElem?_cons_zero, List.getElem?_cons_succ]; rfl) (by kernel_rfl) (by kernel_rfl) (by kernel_rfl) (by intro _ _ _ h; exact h) (Or.inl ⟨by rfl, ?_⟩) (by assumption) ?_; rotate_left; (focus (intro w1 hSw; (try dsimp only at hSw); go_simp; (try with_reducible rfl))); (try simp only [Act.put, List.setIfInBounds_toArray, List.set_cons_zero, List.set_cons_succ, List.getElem_toArray, List.getElem_cons_zero, List.getElem_cons_succ])
      refine wpAnyH_take (i := 2) (v := ?_) (by simp only [List.getElem?_toArray, List.getElem?_cons_zero, List.getElem?_cons_succ]; rfl) (by kernel_rfl) (by kernel_rfl) (by kernel_rfl) (by intro _ _ _ h; exact h) (Or.inl ⟨by rfl, ?_⟩) (by assumption) ?_; rotate_left; (focus (intro w1 hSw; (try dsimp only at hSw); go_simp; (try with_reducible rfl))); (try simp only [Act.put, List.setIfInBounds_toArray, List.set_cons_zero, List.set_cons_succ, List.getElem_toArray, List.getElem_cons_zero, List.getElem_cons_succ])
      refine wpAnyH_take (i := 3) (v := ?_) (by simp only [List.getElem?_toArray, List.getElem?_cons_zero, List.getElem?_cons_succ]; rfl) (by kernel_rfl) (by kernel_rfl) (by kernel_rfl) (by intro _ _ _ h; exact h) (Or.inl ⟨by rfl, ?_⟩) (by assumption) ?_; rotate_left; (focus (intro w1 hSw; (try dsimp only at hSw); go_simp; (try with_reducible rfl))); (try simp only [Act.put, List.setIfInBounds_toArray, List.set_cons_zero, List.set_cons_succ, List.getElem_toArray, List.getElem_cons_zero, List.getElem_cons_succ])
      refine wpAnyH_ready (rs := [1, 4]) (by kernel_rfl) (by simp) ?_; refine AllReadyH.cons (by simp only [List.getElem?_toArray, List.getElem?_cons_zero, List.getElem?_cons_succ]; rfl) (fun K hK => ?_) (AllReadyH.cons (by simp only [List.getElem?_toArray, List.getElem?_cons_zero, List.getElem?_cons_succ]; rfl) (fun K hK => ?_) AllReadyH.nil)
      · (rw [if_pos (by rfl)]); (go_wp2_with fail); (refine hK.out _ _ trivial (fun hHeld => ?_); clear hK K; (try simp only [Act.put, List.setIfInBounds_toArray, List.set_cons_zero, List.set_cons_succ, List.getElem_toArray, List.getElem_cons_zero, List.getElem_cons_succ]))
        refine wpAnyH_ready (rs := [4]) (by kernel_rfl) (by simp) ?_; refine AllReadyH.cons (by simp only [List.getElem?_toArray, List.getElem?_cons_zero, List.getElem?_cons_succ]; rfl) (fun K hK => ?_) AllReadyH.nil
        (rw [if_pos (by rfl)]); (go_wp2_with fail); (refine CL.out.mono ?_); (rintro e W5 ⟨LA, lcp, b, rfl, hbest, hown, hbn⟩); (go_wp2_with fail); (have c5 : World.cell? W5 ⟨ob, 5, none⟩ = some (.slice SA (baseL n p).length sc) := (HBO.out.below hbn HBO.out.lt).cell 5 rfl); (refine hK.out _ _ trivial (fun hHeld => ?_); clear hK K; (try simp only [Act.put, List.setIfInBounds_toArray, List.set_cons_zero, List.set_cons_succ, List.getElem_toArray, List.getElem_cons_zero, List.getElem_cons_succ]))
        (have HBE := Lib.hid hbest); (have HLL : Hid ((lnsS L p b).1.length = b.length) := Lib.hid (lnsS_len HLO.out hp1 hp2 b)); (have hbl : b.length ≤ 12 := Nat.le_trans hbest.1.len HLO.out.few); (have HBO5 := Lib.hid (HBO.out.below hbn HBO.out.lt)); (have HPO5 := Lib.hid (HPO.out.keep hbn (Nat.le_refl _))); (have HB5 := Lib.hid (HBC.out.trans (hbn.mono (Nat.le_trans (Nat.le_of_lt HVZ.out.2) HBC.out.size)))); (have HZ5 : Hid (V2.heap.size ≤ W5.heap.size) := Lib.hid HB5.out.size); (have HL5 := Lib.hid (hown.rd encLn_ok)); (have hsl := baseL_len n p); (clear hbest hown hbn CL); (refine wpAnyH_ready (rs := [5]) (by kernel_rfl) (by simp) ?_; refine AllReadyH.cons (by simp only [List.getElem?_toArray, List.getElem?_cons_zero, List.getElem?_cons_succ]; rfl) (fun K hK => ?_) AllReadyH.nil); (rw [if_pos (by rfl)]); (refine wp_appS (.tmp 88) (.tmp 91) tyLn encLn_ok (by rfl) V2.heap.size (by rfl) (by rfl) HPO5.out (lnsS L p b).1 (by rfl) HLL.out.symm HL5.out (by rw [HLL.out]; omega) (by rw [HLL.out]; omega) HZ5.out ?_); (intro A9 c9 w9 hown9 hb9 hs9 hf9); (have HBO9 := Lib.hid (HBO5.out.below hb9 HVZ.out.2)); (have c5 := HBO9.out.cell 5 (v := .slice SA (baseL n p).length sc) rfl); (have f5 := HBO9.out.frozen 5); (refine hK.out _ _ trivial (fun hHeld => ?_); clear hK K; (try simp only [Act.put, List.setIfInBounds_toArray, List.set_cons_zero, List.set_cons_succ, List.getElem_toArray, List.getElem_cons_zero, List.getElem_cons_succ])); (refine wpAnyH_take (i := 6) (v := ?_) (by simp only [List.getElem?_toArray, List.getElem?_cons_zero, List.getElem?_cons_succ]; rfl) (by kernel_rfl) (by kernel_rfl) (by kernel_rfl) (by intro _ _ _ h; exact h) (Or.inl ⟨by rfl, ?_⟩) (by assumption) ?_; rotate_left; (focus (intro w1 hSw; (try dsimp only at hSw); go_simp; (try with_reducible rfl))); (try simp only [Act.put, List.setIfInBounds_toArray, List.set_cons_zero, List.set_cons_succ, List.getElem_toArray, List.getElem_cons_zero, List.getElem_cons_succ])); (refine wpAnyH_ready (rs := [7]) (by kernel_rfl) (by simp) ?_; refine AllReadyH.cons (by simp only [List.getElem?_toArray, List.getElem?_cons_zero, List.getElem?_cons_succ]; rfl) (fun K hK => ?_) AllReadyH.nil); (rw [if_pos (by rfl)]); (go_wp2_with fail); (refine hK.out _ _ trivial (fun hHeld => ?_); clear hK K; (try simp only [Act.put, List.setIfInBounds_toArray, List.set_cons_zero, List.set_cons_succ, List.getElem_toArray, List.getElem_cons_zero, List.getElem_cons_succ])); (refine wpAnyH_done (by kernel_rfl) ?_ _); (have h14 : TripC xi xv xy cl lt n p L ob V2 (World.setCell w9 ⟨ob, 5, none⟩ (.slice A9 ((baseL n p).length + b.length) c9)) := ⟨A9, c9, b, HBE.out, HLL.out, HBO9.out.set 5 (.slice A9 ((baseL n p).length + b.length) c9), hown9.other (p := ⟨ob, 5, none⟩) HVZ.out.2 _, (HB5.out.trans (hb9.mono (Nat.le_of_lt HVZ.out.2))).setCell (p := ⟨ob, 5, none⟩) (Nat.le_refl _) _⟩); (go_wp2_with fail); (go_meet); (exact h14)
      · (rw [if_pos (by rfl)]); (go_wp2_with fail); (refine CL.out.mono ?_); (rintro e W5 ⟨LA, lcp, b, rfl, hbest, hown, hbn⟩); (go_wp2_with fail); (have c5 : World.cell? W5 ⟨ob, 5, none⟩ = some (.slice SA (baseL n p).length sc) := (HBO.out.below hbn HBO.out.lt).cell 5 rfl); (refine hK.out _ _ trivial (fun hHeld => ?_); clear hK K; (try simp only [Act.put, List.setIfInBounds_toArray, List.set_cons_zero, List.set_cons_succ, List.getElem_toArray, List.getElem_cons_zero, List.getElem_cons_succ]))
        refine wpAnyH_ready (rs := [1]) (by kernel_rfl) (by simp) ?_; refine AllReadyH.cons (by simp only [List.getElem?_toArray, List.getElem?_cons_zero, List.getElem?_cons_succ]; rfl) (fun K hK => ?_) AllReadyH.nil
        (rw [if_pos (by rfl)]); (go_wp2_with fail); (refine hK.out _ _ trivial (fun hHeld => ?_); clear hK K; (try simp only [Act.put, List.setIfInBounds_toArray, List.set_cons_zero, List.set_cons_succ, List.getElem_toArray, List.getElem_cons_zero, List.getElem_cons_succ]))
        (have HBE := Lib.hid hbest); (have HLL : Hid ((lnsS L p b).1.length = b.length) := Lib.hid (lnsS_len HLO.out hp1 hp2 b)); (have hbl : b.length ≤ 12 := Nat.le_trans hbest.1.len HLO.out.few); (have HBO5 := Lib.hid (HBO.out.below hbn HBO.out.lt)); (have HPO5 := Lib.hid (HPO.out.keep hbn (Nat.le_refl _))); (have HB5 := Lib.hid (HBC.out.trans (hbn.mono (Nat.le_trans (Nat.le_of_lt HVZ.out.2) HBC.out.size)))); (have HZ5 : Hid (V2.heap.size ≤ W5.heap.size) := Lib.hid HB5.out.size); (have HL5 := Lib.hid (hown.rd encLn_ok)); (have hsl := baseL_len n p); (clear hbest hown hbn CL); (refine wpAnyH_ready (rs := [5]) (by kernel_rfl) (by simp) ?_; refine AllReadyH.cons (by simp only [List.getElem?_toArray, List.getElem?_cons_zero, List.getElem?_cons_succ]; rfl) (fun K hK => ?_) AllReadyH.nil); (rw [if_pos (by rfl)]); (refine wp_appS (.tmp 88) (.tmp 91) tyLn encLn_ok (by rfl) V2.heap.size (by rfl) (by rfl) HPO5.out (lnsS L p b).1 (by rfl) HLL.out.symm HL5.out (by rw [HLL.out]; omega) (by rw [HLL.out]; omega) HZ5.out ?_); (intro A9 c9 w9 hown9 hb9 hs9 hf9); (have HBO9 := Lib.hid (HBO5.out.below hb9 HVZ.out.2)); (have c5 := HBO9.out.cell 5 (v := .slice SA (baseL n p).length sc) rfl); (have f5 := HBO9.out.frozen 5); (refine hK.out _ _ trivial (fun hHeld => ?_); clear hK K; (try simp only [Act.put, List.setIfInBounds_toArray, List.set_cons_zero, List.set_cons_succ, List.getElem_toArray, List.getElem_cons_zero, List.getElem_cons_succ])); (refine wpAnyH_take (i := 6) (v := ?_) (by simp only [List.getElem?_toArray, List.getElem?_cons_zero, List.getElem?_cons_succ]; rfl) (by kernel_rfl) (by kernel_rfl) (by kernel_rfl) (by intro _ _ _ h; exact h) (Or.inl ⟨by rfl, ?_⟩) (by assumption) ?_; rotate_left; (focus (intro w1 hSw; (try dsimp only at hSw); go_simp; (try with_reducible rfl))); (try simp only [Act.put, List.setIfInBounds_toArray, List.set_cons_zero, List.set_cons_succ, List.getElem_toArray, List.getElem_cons_zero, List.getElem_cons_succ])); (refine wpAnyH_ready (rs := [7]) (by kernel_rfl) (by simp) ?_; refine AllReadyH.cons (by simp only [List.getElem?_toArray, List.getElem?_cons_zero, List.getElem?_cons_succ]; rfl) (fun K hK => ?_) AllReadyH.nil); (rw [if_pos (by rfl)]); (go_wp2_with fail); (refine hK.out _ _ trivial (fun hHeld => ?_); clear hK K; (try simp only [Act.put, List.setIfInBounds_toArray, List.set_cons_zero, List.set_cons_succ, List.getElem_toArray, List.getElem_cons_zero, List.getElem_cons_succ])); (refine wpAnyH_done (by kernel_rfl) ?_ _); (have h14 : TripC xi xv xy cl lt n p L ob V2 (World.setCell w9 ⟨ob, 5, none⟩ (.slice A9 ((baseL n p).length + b.length) c9)) := ⟨A9, c9, b, HBE.out, HLL.out, HBO9.out.set 5 (.slice A9 ((baseL n p).length + b.length) c9), hown9.other (p := ⟨ob, 5, none⟩) HVZ.out.2 _, (HB5.out.trans (hb9.mono (Nat.le_of_lt HVZ.out.2))).setCell (p := ⟨ob, 5, none⟩) (Nat.le_refl _) _⟩); (go_wp2_with fail); (go_meet); (exact h14)
    case rest =>
      obtain ⟨A9, c9, b, hbest, hll, hbx, hox, hbcx⟩ := hcut
      have hbl := hbest.1.len
      have HTF := Lib.hid (trpL_facts HLO.out hb1 hb2 hp1 hp2 (b := b) (by omega))
      have HRB := Lib.hid (red_bnd HLO.out hp1 hp2 b)
      rw [trpL_base] at hox
      have hlen : (baseL n p).length + b.length = (trpL L n p b).length := by rw [HTF.out.1]; unfold baseL; simp; omega
      rw [hlen] at hbx
      have HBE := Lib.hid hbest
      obtain ⟨TL, hTL⟩ : ∃ TL, trpL L n p b = TL := ⟨_, rfl⟩
      rw [hTL] at HTF hox hbx
      have HTL := Lib.hid hTL
      have HC9 := Lib.hid hbx
      have HR9 := Lib.hid (hox.rd encLn_ok)
      have HB9 := Lib.hid (HB2V.out.trans (hbcx.mono HVZ.out.1))
      have HA9 : Hid (∀ b off, A9 = some ⟨b, off, none⟩ → ob < b) := Lib.hid (by
        intro b off hb
        rcases hox.form with ⟨q, _⟩ | ⟨g, q, h1, _⟩
        · rw [q] at hb; cases hb
        · rw [q] at hb; injection hb with hb; injection hb with hb; subst hb
          have := HVZ.out.2
          omega)
      have CS := Lib.hid (rlines_any c9 HR9.out (by have := HTF.out.2.1; omega) HTF.out.2.2.2)
      rw [HTF.out.2.2.1] at CS
      obtain ⟨ct, hct⟩ : ∃ ct, p - red L p b = ct := ⟨_, rfl⟩
      have hfit : fitsB ct = true := by unfold fitsB; have := HRB.out; exact decide_eq_true ⟨by omega, by omega⟩
      rw [hct, hfit, if_pos rfl, if_pos rfl] at CS
      have HCT := Lib.hid hct
      have c5 := HC9.out.cell 5 (v := .slice A9 TL.length c9) rfl
      have c6 := HC9.out.cell 6 (v := .int .i64 0) rfl
      have f6 := HC9.out.frozen 6
      clear hct hfit hTL hlen hbest hll hbx hox hbcx hbl
      go_wp2_with fail
      refine CS.out.mono ?_
      rintro e w' ⟨rfl, hw'⟩
      rw [hw']
      clear hw' w' CS
      obtain ⟨V10, hV10⟩ : ∃ V, World.setCell wc ⟨ob, 6, none⟩ (.int .i64 ct) = V := ⟨_, rfl⟩
      have BX : Blk V10 ob #[.string (keyT xi), .string xv, .string xy, .int .i64 cl, .int .i64 lt, .slice A9 TL.length c9, .int .i64 ct] 66 := by rw [← hV10]; exact HC9.out.set 6 _
      have HR10 : Hid (Rd encLn 2 V10 V10.heap.size A9 TL) := Lib.hid (by rw [← hV10]; exact HR9.out.set1 (fun b off h => Nat.ne_of_gt (HA9.out b off h)) _)
      have HB10 := Lib.hid (show Below _ _ V10 by rw [← hV10]; exact HB9.out.setCell (p := ⟨ob, 6, none⟩) HVZ.out.1 _)
      have B3 := HB3c.out.below HB10.out HB3c.out.lt
      go_wp2_with (first | (refine wpList_boxLoad rfl (ty := 66) (x := .tmp 15) (cs := #[.string (keyT xi), .string xv, .string xy, .int .i64 cl, .int .i64 lt, .slice A9 TL.length c9, .int .i64 ct]) rfl BX rfl ⟨_, Tryz.underlying66, by kernel_rfl⟩ ?_) | (refine wpList_boxStore rfl (ty := 66) (x := .tmp 8) (y := .tmp 102) (cells := #[.string (keyT xi), .string xv, .string xy, .int .i64 cl, .int .i64 lt, .slice A9 TL.length c9, .int .i64 ct]) rfl B3 rfl rfl (by kernel_rfl) rfl (by kernel_rfl) ?_; intro w9 B9 hoz hbz))
      refine bodyPost_ret (v := .tuple #[.agg #[.string (keyT xi), .string xv, .string xy, .int .i64 cl, .int .i64 lt, .slice A9 TL.length c9, .int .i64 ct], .int .i64 0]) (results_box_tmp Tryz.results20 _ (.int .i64 0) rfl rfl B9 ⟨_, Tryz.underlying66, by kernel_rfl⟩) rfl ?_
      refine ⟨_, 0, A9, c9, HOZ.out b HBE.out, ?_, ?_, hbz _ _ (Nat.le_add_right _ _) (HBWc.out.st HB10.out)⟩
      · simp only [CHV, HTL.out, HCT.out]
      · have hr : Rd encLn 2 w9 V10.heap.size A9 TL := HR10.out.keepIf fun b off hb _ o => World.cell?_of_block (hoz b (by have := HA9.out b off hb; have := HB3c.out.lt; have := HVZ.out.1; omega))
        rw [HTL.out]
        exact hr.more ((hbz 0 V10 (Nat.zero_le _) (Below.refl _ _)).size)
end Go.Proofs.YtcpfiiapfggmpaaGreat
