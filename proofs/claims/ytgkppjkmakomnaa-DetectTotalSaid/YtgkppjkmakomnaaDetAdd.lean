/- detect.Check, detect.Add, walked. -/
import Derived.Test.YtgkppjkmakomnaaDetSift
namespace Go.Proofs.Ytgkppjkmakomnaa
open Go.RowKit Go.Lib

set_option maxRecDepth 100000 in
set_option maxHeartbeats 4000000 in
theorem check_any {A : Option Addr} (c : Nat) {l : List Dv} (d : Dt) {w : World} (h : Rd encD 6 w w.heap.size A l) (hz : DsOk w l) (hsm : ∀ y ∈ l, y.os.length ≤ 100 ∧ y.ds.length ≤ 100) (hl : l.length ≤ 1000) (hsz : SzD d) :
    Calls Try.prog 17 #[.slice A l.length c, DtV d] w fun e w' => e = .returned (.int .i64 (corW l d)) ∧ Below w.heap.size w w' := by
  have CR := Lib.hid (fun (X : World) (hX : Below w.heap.size w X) => correct_any c d (h.st hX) (hz.st hX) hsm hl hsz)
  clear h hz hsm hl
  simp only [CorR] at CR
  generalize corS l d = s at CR
  generalize corW l d = cw at CR ⊢
  obtain ⟨dev, seq, tm, tg, pl, ax, sc⟩ := d
  simp only [DtV, SnV] at CR ⊢
  obtain ⟨Y1, hY1⟩ : ∃ Y, w.alloc (.cells #[.string dev, .int .i64 seq, .int .i64 tm, .string tg, .string pl, .int .i64 ax, .int .i64 sc] 24) = Y := ⟨_, rfl⟩
  have bW : Below w.heap.size w Y1 := by rw [← hY1]; exact (Below.refl _ w).al _
  have BA : Blk Y1 w.heap.size #[.string dev, .int .i64 seq, .int .i64 tm, .string tg, .string pl, .int .i64 ax, .int .i64 sc] 24 := by rw [← hY1]; exact Blk.new w _ _
  go_enter Try.func17, Try.ntmps17
  go_wp2_with (refine wpList_boxLoad rfl (ty := 24) (x := .tmp 3) (cs := #[.string dev, .int .i64 seq, .int .i64 tm, .string tg, .string pl, .int .i64 ax, .int .i64 sc]) rfl BA rfl ⟨_, Try.underlying24, by kernel_rfl⟩ ?_)
  refine (CR.out _ bW).mono ?_
  rintro e w1 ⟨rfl, hbn⟩
  have bW := bW.st hbn
  clear CR hbn BA hY1
  obtain ⟨Z, hZ⟩ : ∃ Z, w1.alloc (.cells #[.string ⟨#[]⟩, .int .i64 0, .int .i64 0, .string ⟨#[]⟩, .string ⟨#[]⟩, .int .i64 0, .int .i64 0, .int .i64 0, .string ⟨#[]⟩, .int .i64 0, .int .i64 0] 29) = Z := ⟨_, rfl⟩
  have bZ : Below w1.heap.size w1 Z := by rw [← hZ]; exact (Below.refl _ w1).al _
  have BZ : Blk Z w1.heap.size #[.string ⟨#[]⟩, .int .i64 0, .int .i64 0, .string ⟨#[]⟩, .string ⟨#[]⟩, .int .i64 0, .int .i64 0, .int .i64 0, .string ⟨#[]⟩, .int .i64 0, .int .i64 0] 29 := by rw [← hZ]; exact Blk.new w1 _ _
  have HBW := Lib.hid bW
  clear bW
  go_wp2_with (refine wpList_boxStore rfl (ty := 29) (x := .tmp 5) (y := .tmp 11) rfl BZ rfl rfl (by kernel_rfl) rfl (by kernel_rfl) ?_; intro wz BX hoz hbz; have b4 := HBW.out.st (hbz _ _ (Nat.le_refl _) bZ); clear hoz hbz BZ bZ hZ)
  go_ret
  exact ⟨rfl, b4⟩

/-- what Add sifts -/
def addD (S : List Sn) (R : List Rj) (d : Dt) : List Dt := d :: (S.map Sn.d ++ R.map Rj.d)
theorem addD_len (S : List Sn) (R : List Rj) (d : Dt) : (addD S R d).length = S.length + R.length + 1 := by simp [addD]
theorem SiftR.from {l : List Dv} {ds : List Dt} {w w1 w' : World} {e : Ending} (hb : Below w.heap.size w w1) (h : SiftR l ds w1 e w') : SiftR l ds w e w' := by
  obtain ⟨S, R, As, Ar, cs, cr, h1, h2, h3, h4, h5, h6, h7⟩ := h
  exact ⟨S, R, As, Ar, cs, cr, h1, h2, h3, h4, h5, h6, hb.st h7⟩
def add1 (S : List Sn) (d : Dt) (k : Nat) : List Dt := d :: (S.take k).map Sn.d
def add2 (S : List Sn) (R : List Rj) (d : Dt) (k : Nat) : List Dt := d :: (S.map Sn.d ++ (R.take k).map Rj.d)
theorem add1_len {S : List Sn} {d : Dt} {k : Nat} (h : k ≤ S.length) : (add1 S d k).length = k + 1 := by simp [add1]; omega
theorem add2_len {S : List Sn} {R : List Rj} {d : Dt} {k : Nat} (h : k ≤ R.length) : (add2 S R d k).length = S.length + k + 1 := by simp [add2]; omega
theorem add1_snoc {S : List Sn} {d : Dt} {k : Nat} {s : Sn} (h : S[k]? = some s) : add1 S d (k + 1) = add1 S d k ++ [s.d] := by unfold add1; rw [take_snoc h]; simp
theorem add2_snoc {S : List Sn} {R : List Rj} {d : Dt} {k : Nat} {s : Rj} (h : R[k]? = some s) : add2 S R d (k + 1) = add2 S R d k ++ [s.d] := by unfold add2; rw [take_snoc h]; simp
theorem add1_end (S : List Sn) (R : List Rj) (d : Dt) : add1 S d S.length = add2 S R d 0 := by simp [add1, add2]
theorem add2_end (S : List Sn) (R : List Rj) (d : Dt) : add2 S R d R.length = addD S R d := by simp [add2, addD]

set_option maxRecDepth 100000 in
set_option maxHeartbeats 8000000 in
theorem add_any {A sA rA : Option Addr} (c sc_ rc : Nat) {l : List Dv} {S : List Sn} {R : List Rj} (d : Dt) {w : World} (h : Rd encD 6 w w.heap.size A l) (hz : DsOk w l) (hsm : ∀ y ∈ l, y.os.length ≤ 100 ∧ y.ds.length ≤ 100) (hl : l.length ≤ 1000)
    (hS : Rd encSn 11 w w.heap.size sA S) (hR : Rd encRj 8 w w.heap.size rA R) (hn : S.length + R.length ≤ 999) (hsz : ∀ x ∈ addD S R d, SzD x) (hok : ∀ x ∈ addD S R d, SrcOk (srcOf x)) :
    Calls Try.prog 27 #[.slice A l.length c, .slice sA S.length sc_, .slice rA R.length rc, DtV d] w fun e w' => SiftR l (addD S R d) w e w' := by
  have CF := Lib.hid (fun (X : World) (hX : Below w.heap.size w X) (B : Option Addr) (cb : Nat) (hd : Rd encDt 7 X X.heap.size B (addD S R d)) => sift_any c cb (h.st hX) (hz.st hX) hsm hl hd (by rw [addD_len]; omega) hsz hok)
  have HS := Lib.hid hS
  have HR := Lib.hid hR
  clear h hz hsm hl hS hR hsz hok
  have H1 := Lib.hid (fun (k : Nat) (s : Sn) (q : S[k]? = some s) => add1_snoc (d := d) q)
  have H2 := Lib.hid (fun (k : Nat) (s : Rj) (q : R[k]? = some s) => add2_snoc (S := S) (d := d) q)
  have H3 := Lib.hid (add1_end S R d)
  have H4 := Lib.hid (add2_end S R d)
  have L1 := Lib.hid (fun (k : Nat) (q : k ≤ S.length) => add1_len (d := d) q)
  have L2 := Lib.hid (fun (k : Nat) (q : k ≤ R.length) => add2_len (S := S) (d := d) q)
  have HAL := Lib.hid (addD_len S R d)
  have hA0 : add1 S d 0 = [d] := by simp [add1]
  generalize hqa : addD S R d = all at *
  generalize hq1 : add1 S d = f1 at *
  generalize hq2 : add2 S R d = f2 at *
  clear hqa hq1 hq2
  obtain ⟨dev, seq, tm, tg, pl, ax, sc⟩ := d
  simp only [DtV]
  obtain ⟨Y1, hY1⟩ : ∃ Y, w.alloc (.cells #[.string dev, .int .i64 seq, .int .i64 tm, .string tg, .string pl, .int .i64 ax, .int .i64 sc] 24) = Y := ⟨_, rfl⟩
  have bW : Below w.heap.size w Y1 := by rw [← hY1]; exact (Below.refl _ w).al _
  have BA : Blk Y1 w.heap.size #[.string dev, .int .i64 seq, .int .i64 tm, .string tg, .string pl, .int .i64 ax, .int .i64 sc] 24 := by rw [← hY1]; exact Blk.new w _ _
  obtain ⟨Y2, hY2⟩ : ∃ Y, Y1.alloc (.cells #[.string dev, .int .i64 seq, .int .i64 tm, .string tg, .string pl, .int .i64 ax, .int .i64 sc] 24) = Y := ⟨_, rfl⟩
  have bel : Below Y1.heap.size Y1 Y2 := by rw [← hY2]; exact (Below.refl _ Y1).al _
  have hown : Own 24 encDt 7 Y2 Y1.heap.size (some ⟨Y1.heap.size, 0, none⟩) 1 (f1 0) := by rw [hA0, ← hY2]; exact Own.lit Y1 Y1.heap.size _ encDt_ok rfl rfl (Nat.le_refl _) (by simp)
  have HO := Lib.hid (And.intro hown (And.intro bel bW))
  have h01 : (f1 0).length = 1 := by rw [hA0]; rfl
  have HH := Lib.hid h01
  clear hown bel bW hA0 h01
  go_enter Try.func27, Try.ntmps27
  go_wp2_with (refine wpList_boxLoad rfl (ty := 24) (x := .tmp 7) (cs := #[.string dev, .int .i64 seq, .int .i64 tm, .string tg, .string pl, .int .i64 ax, .int .i64 sc]) rfl BA rfl ⟨_, Try.underlying24, by kernel_rfl⟩ ?_)
  clear hY1 hY2 BA
  go_loopw [10, 19] (fun v i wr => ∃ (k : Nat) (Ao : Option Addr) (co : Nat), k ≤ S.length ∧ i = .int .i64 k ∧ v = .slice Ao (f1 k).length co ∧ Own 24 encDt 7 wr Y1.heap.size Ao co (f1 k) ∧ Below Y1.heap.size Y1 wr) (fun _ i _ => S.length - (intOf i).toNat)
  case atStart => exact ⟨0, _, _, Nat.zero_le _, rfl, by rw [HH.out], HO.out.1, HO.out.2.1⟩
  case round =>
    obtain ⟨k, Ao, co, hk, rfl, rfl, hown, bel⟩ := hrel
    by_cases hi : k < S.length
    · obtain ⟨b, off, s, hA, hb, hx, d0, d1, d2, d3, d4, d5, d6, d7, d8, d9, d10⟩ := (HS.out.st (HO.out.2.2.trans (bel.mono HO.out.2.2.size))).sn hi
      have HN := Lib.hid (H1.out k s hx)
      have HLk := Lib.hid (show (f1 k).length ≤ 1000 by have := L1.out k hk; omega)
      have hi1 : (0 : Int) ≤ (k : Int) := by omega
      have hi2 : (k : Int) < (S.length : Int) := by omega
      have HL := Lib.hid hi
      obtain ⟨⟨y1, y2, y3, y4, y5, y6, y7⟩, yt, yp, yl, yk⟩ := s
      simp only at d0 d1 d2 d3 d4 d5 d6 d7 d8 d9 d10 HN
      subst hA
      have hlk := HLk.out
      have hsz := bel.size
      obtain ⟨Z, hZ⟩ : ∃ Z, wr.alloc (.cells #[.string ⟨#[]⟩, .int .i64 0, .int .i64 0, .string ⟨#[]⟩, .string ⟨#[]⟩, .int .i64 0, .int .i64 0, .int .i64 0, .string ⟨#[]⟩, .int .i64 0, .int .i64 0] 29) = Z := ⟨_, rfl⟩
      have bZ : Below wr.heap.size wr Z := by rw [← hZ]; exact (Below.refl _ wr).al _
      have BZ : Blk Z wr.heap.size #[.string ⟨#[]⟩, .int .i64 0, .int .i64 0, .string ⟨#[]⟩, .string ⟨#[]⟩, .int .i64 0, .int .i64 0, .int .i64 0, .string ⟨#[]⟩, .int .i64 0, .int .i64 0] 29 := by rw [← hZ]; exact Blk.new wr _ _
      have HB0 := Lib.hid (And.intro hown bel)
      have HK := Lib.hid hlk
      clear hx hi hb hk hown bel hlk
      go_wp2_with (first | (refine wpList_boxStore rfl (ty := 29) (x := .tmp 12) (y := .tmp 22) rfl BZ rfl rfl (by kernel_rfl) rfl (by kernel_rfl) ?_; intro wz BX hoz hbz; have b4 := hbz _ _ (Nat.le_refl _) bZ; have hown := HB0.out.1.st b4; have bel := HB0.out.2.st b4; have hlk := HK.out; have u0 := BX.cell 0 (v := .string y1) rfl; have u1 := BX.cell 1 (v := .int .i64 y2) rfl; have u2 := BX.cell 2 (v := .int .i64 y3) rfl; have u3 := BX.cell 3 (v := .string y4) rfl; have u4 := BX.cell 4 (v := .string y5) rfl; have u5 := BX.cell 5 (v := .int .i64 y6) rfl; have u6 := BX.cell 6 (v := .int .i64 y7) rfl; clear hoz hbz BZ bZ hZ d0 d1 d2 d3 d4 d5 d6 d7 d8 d9 d10 b4 BX) | ((at_builtin; refine wpList_app1 rfl (.tmp 23) (.tmp 26) tyDt encDt_ok rfl (⟨y1, y2, y3, y4, y5, y6, y7⟩ : Dt) rfl _ rfl (by simp) hown rfl (by first | rfl | simp) (by first | omega | (simp; omega)) (by first | omega | (simp; omega)) bel.size ?_; intro A9 c9 w9 hown9 hb9 hs9 hf9; have hbel9 := bel.trans hb9)))
      go_roundw
      case rel => exact ⟨k + 1, A9, c9, HL.out, by go_num, by rw [HN.out]; simp, by rw [HN.out]; exact hown9, hbel9⟩
      case measure => have := HL.out; simp [intOf]; omega
    · obtain rfl : k = S.length := by omega
      obtain ⟨wo, hwo⟩ : ∃ wo, wo = wr := ⟨_, rfl⟩
      rw [← hwo] at hown bel ⊢
      clear hwo
      have HO2 := Lib.hid (And.intro hown bel)
      clear hown bel hk
      rw [H3.out] at HO2 ⊢
      go_wp2_with fail
      go_loopw [10, 31] (fun v i wx => ∃ (k : Nat) (Ao : Option Addr) (co : Nat), k ≤ R.length ∧ i = .int .i64 k ∧ v = .slice Ao (f2 k).length co ∧ Own 24 encDt 7 wx Y1.heap.size Ao co (f2 k) ∧ Below Y1.heap.size Y1 wx) (fun _ i _ => R.length - (intOf i).toNat)
      case atStart => exact ⟨0, _, _, Nat.zero_le _, rfl, rfl, HO2.out.1, HO2.out.2⟩
      case round =>
        obtain ⟨k, Ao, co, hk, rfl, rfl, hown, bel⟩ := hrel
        by_cases hi : k < R.length
        · obtain ⟨b, off, s, hA, hb, hx, d0, d1, d2, d3, d4, d5, d6, d7⟩ := (HR.out.st (HO.out.2.2.trans (bel.mono HO.out.2.2.size))).rj hi
          have HN := Lib.hid (H2.out k s hx)
          have HLk := Lib.hid (show (f2 k).length ≤ 1000 by have := L2.out k hk; omega)
          have hi1 : (0 : Int) ≤ (k : Int) := by omega
          have hi2 : (k : Int) < (R.length : Int) := by omega
          have HL := Lib.hid hi
          obtain ⟨⟨y1, y2, y3, y4, y5, y6, y7⟩, yw⟩ := s
          simp only at d0 d1 d2 d3 d4 d5 d6 d7 HN
          subst hA
          have hlk := HLk.out
          have hsz := bel.size
          obtain ⟨Z, hZ⟩ : ∃ Z, wr.alloc (.cells #[.string ⟨#[]⟩, .int .i64 0, .int .i64 0, .string ⟨#[]⟩, .string ⟨#[]⟩, .int .i64 0, .int .i64 0, .int .i64 0] 36) = Z := ⟨_, rfl⟩
          have bZ : Below wr.heap.size wr Z := by rw [← hZ]; exact (Below.refl _ wr).al _
          have BZ : Blk Z wr.heap.size #[.string ⟨#[]⟩, .int .i64 0, .int .i64 0, .string ⟨#[]⟩, .string ⟨#[]⟩, .int .i64 0, .int .i64 0, .int .i64 0] 36 := by rw [← hZ]; exact Blk.new wr _ _
          have HB0 := Lib.hid (And.intro hown bel)
          have HK := Lib.hid hlk
          clear hx hi hb hk hown bel hlk
          go_wp2_with (first | (refine wpList_boxStore rfl (ty := 36) (x := .tmp 14) (y := .tmp 34) rfl BZ rfl rfl (by kernel_rfl) rfl (by kernel_rfl) ?_; intro wz BX hoz hbz; have b4 := hbz _ _ (Nat.le_refl _) bZ; have hown := HB0.out.1.st b4; have bel := HB0.out.2.st b4; have hlk := HK.out; have u0 := BX.cell 0 (v := .string y1) rfl; have u1 := BX.cell 1 (v := .int .i64 y2) rfl; have u2 := BX.cell 2 (v := .int .i64 y3) rfl; have u3 := BX.cell 3 (v := .string y4) rfl; have u4 := BX.cell 4 (v := .string y5) rfl; have u5 := BX.cell 5 (v := .int .i64 y6) rfl; have u6 := BX.cell 6 (v := .int .i64 y7) rfl; clear hoz hbz BZ bZ hZ d0 d1 d2 d3 d4 d5 d6 d7 b4 BX) | ((at_builtin; refine wpList_app1 rfl (.tmp 35) (.tmp 38) tyDt encDt_ok rfl (⟨y1, y2, y3, y4, y5, y6, y7⟩ : Dt) rfl _ rfl (by simp) hown rfl (by first | rfl | simp) (by first | omega | (simp; omega)) (by first | omega | (simp; omega)) bel.size ?_; intro A9 c9 w9 hown9 hb9 hs9 hf9; have hbel9 := bel.trans hb9)))
          go_roundw
          case rel => exact ⟨k + 1, A9, c9, HL.out, by go_num, by rw [HN.out]; simp, by rw [HN.out]; exact hown9, hbel9⟩
          case measure => have := HL.out; simp [intOf]; omega
        · obtain rfl : k = R.length := by omega
          rw [H4.out] at hown ⊢
          have bW2 := HO.out.2.2.trans (bel.mono HO.out.2.2.size)
          have HBW := Lib.hid bW2
          have CF1 := Lib.hid (CF.out _ bW2 _ co (hown.rd encDt_ok))
          clear hown bel hk CF bW2
          go_wp2_with fail
          refine CF1.out.mono ?_
          rintro e w5 ⟨S', R', As, Ar, cs, cr, hof, hl1, hl2, rfl, rs, rr, hb⟩
          have HF := Lib.hid (And.intro hof (And.intro hl1 (And.intro hl2 (And.intro rs (And.intro rr (HBW.out.st hb))))))
          clear hof hl1 hl2 rs rr hb CF1
          go_wp2_with fail
          go_ret2
          exact ⟨S', R', As, Ar, cs, cr, HF.out.1, HF.out.2.1, HF.out.2.2.1, rfl, HF.out.2.2.2.1, HF.out.2.2.2.2.1, HF.out.2.2.2.2.2⟩
end Go.Proofs.Ytgkppjkmakomnaa
