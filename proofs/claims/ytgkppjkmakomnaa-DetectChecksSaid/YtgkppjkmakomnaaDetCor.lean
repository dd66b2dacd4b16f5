/- tollway/detect.Correct, walked. -/
import Derived.Test.YtgkppjkmakomnaaJDevClock
import Derived.Test.YtgkppjkmakomnaaJDetCmp
import Derived.Test.YtgkppjkmakomnaaDevFind
import Derived.Test.YtgkppjkmakomnaaJValid
namespace Go.Proofs.Ytgkppjkmakomnaa
open Go.RowKit Go.Lib

set_option maxRecDepth 100000 in
set_option maxHeartbeats 16000000 in
theorem correct_any {A : Option Addr} (c : Nat) {l : List Dv} (d : Dt) {w : World} (h : Rd encD 6 w w.heap.size A l) (hz : DsOk w l) (hsm : ∀ y ∈ l, y.os.length ≤ 100 ∧ y.ds.length ≤ 100) (hl : l.length ≤ 1000) (hsz : SzD d) :
    Calls Try.prog 14 #[.slice A l.length c, DtV d] w fun e w' => CorR l d w e w' := by
  have hsmX : ∀ y, vD y = vD (corX l d) → y.os.length ≤ 100 ∧ y.ds.length ≤ 100 := by
    intro y hy
    obtain ⟨_, _, _, _, h5, h6⟩ := vD_parts hy
    rw [h5, h6]
    unfold corX
    cases hq : findD l d.dev with
    | none => simp [zeroD]
    | some z => exact hsm z (List.mem_of_find?_eq_some hq)
  have HSX := Lib.hid hsmX
  have hsm : ∀ y ∈ l, smallD y := fun y hy => by have := hsm y hy; unfold smallD; omega
  have CF := Lib.hid (fun (X : World) (hX : Below w.heap.size w X) => show Calls _ _ _ X _ from dfind_any c (h.st hX) (hz.st hX) hsm (by omega) (nm := d.dev))
  have CT := Lib.hid (fun (kd : Int) (X : World) => fits_any kd d hsz X)
  have HE := Lib.hid (fun (y : Dv) (k : Int) (hv : vD y = vD (corX l d)) (f : Bool) (hf : (findD l d.dev).isSome = f) (hk : corOf f y d = k) => cor_end hv hf hk)
  unfold CorR
  generalize hcs : corS l d = rs at *
  generalize hcw : corW l d = rw_ at *
  clear hsm hsmX h hz
  obtain ⟨dev, seq, tm, tg, pl, ax, sc⟩ := d
  simp only [DtV, FindDR] at *
  obtain ⟨Y1, hY1⟩ : ∃ Y, w.alloc (.cells #[.string dev, .int .i64 seq, .int .i64 tm, .string tg, .string pl, .int .i64 ax, .int .i64 sc] 24) = Y := ⟨_, rfl⟩
  obtain ⟨Y2, hY2⟩ : ∃ Y, Y1.alloc (.cells #[.string ⟨#[]⟩, .int .i64 0, .int .i64 0, .string ⟨#[]⟩, .string ⟨#[]⟩, .int .i64 0, .int .i64 0, .int .i64 0, .string ⟨#[]⟩, .int .i64 0, .int .i64 0] 29) = Y := ⟨_, rfl⟩
  have b1 : Below w.heap.size w Y1 := by rw [← hY1]; exact (Below.refl _ w).al _
  have bW : Below w.heap.size w Y2 := by rw [← hY2]; exact b1.st ((Below.refl _ Y1).al _)
  have BA : Blk Y2 w.heap.size #[.string dev, .int .i64 seq, .int .i64 tm, .string tg, .string pl, .int .i64 ax, .int .i64 sc] 24 := by rw [← hY2, ← hY1]; exact (Blk.new w _ _).alloc _
  have BS : Blk Y2 Y1.heap.size #[.string ⟨#[]⟩, .int .i64 0, .int .i64 0, .string ⟨#[]⟩, .string ⟨#[]⟩, .int .i64 0, .int .i64 0, .int .i64 0, .string ⟨#[]⟩, .int .i64 0, .int .i64 0] 29 := by rw [← hY2]; exact Blk.new Y1 _ _
  have HY12 := Lib.hid (show w.heap.size < Y1.heap.size by rw [← hY1]; simp)
  have k0 := BA.cell 0 (v := .string dev) rfl
  have hsS := BS.lt
  go_enter Try.func14, Try.ntmps14
  go_wp2_with fail
  refine (CF.out _ bW).mono ?_
  rintro e w1 ⟨y, rfl, hv, hok, hbn⟩
  have bW := bW.st hbn
  have BA := BA.below hbn BA.lt
  have BS := BS.below hbn BS.lt
  have hys := HSX.out y hv
  have HE := Lib.hid (fun (k : Int) => HE.out y k hv)
  clear hcs hcw hv CF HSX k0 hbn
  generalize hfb : (findD l dev).isSome = fb at *
  have CC := Lib.hid (fun (X : World) (hX : Below w1.heap.size w1 X) => dclock_any y tm (hok.st hX) (by omega))
  have CW := Lib.hid (fun (t : Int) (X : World) (hX : Below w1.heap.size w1 X) => dworks_any y t (hok.st hX) (by omega))
  clear hok hys
  have HE := Lib.hid (fun (k : Int) (hk : corOf fb y ⟨dev, seq, tm, tg, pl, ax, sc⟩ = k) => HE.out k fb rfl hk)
  have H1 := Lib.hid (fun q => cor1 (x := y) (d := ⟨dev, seq, tm, tg, pl, ax, sc⟩) fb q)
  have H3 := Lib.hid (fun q => cor3 (x := y) (d := ⟨dev, seq, tm, tg, pl, ax, sc⟩) q)
  have H2 := Lib.hid (fun q r => cor2 (x := y) (d := ⟨dev, seq, tm, tg, pl, ax, sc⟩) q r)
  have H5 := Lib.hid (fun q r s => cor5 (x := y) (d := ⟨dev, seq, tm, tg, pl, ax, sc⟩) q r s)
  have H0 := Lib.hid (fun q r s => cor0 (x := y) (d := ⟨dev, seq, tm, tg, pl, ax, sc⟩) q r s)
  obtain ⟨Y3, hY3⟩ : ∃ Y, w1.alloc (.cells #[.string ⟨#[]⟩, .string ⟨#[]⟩, .int .i64 0, .int .i64 0, .slice none 0 0, .slice none 0 0] 59) = Y := ⟨_, rfl⟩
  have hlt := BA.lt
  have hlt2 := BS.lt
  have ne1 := Lib.hid (show w.heap.size ≠ w1.heap.size by omega)
  have ne2 := Lib.hid (show Y1.heap.size ≠ w1.heap.size by omega)
  have ne3 := Lib.hid (show w.heap.size ≤ w1.heap.size by omega)
  have ne4 := Lib.hid (show w.heap.size ≤ Y1.heap.size by have := HY12.out; omega)
  have bW : Below w.heap.size w Y3 := by rw [← hY3]; exact bW.al _
  have hd1 : Below w1.heap.size w1 Y3 := by rw [← hY3]; exact (Below.refl _ w1).al _
  have BA : Blk Y3 w.heap.size #[.string dev, .int .i64 seq, .int .i64 tm, .string tg, .string pl, .int .i64 ax, .int .i64 sc] 24 := by rw [← hY3]; exact BA.alloc _
  have BS : Blk Y3 Y1.heap.size #[.string ⟨#[]⟩, .int .i64 0, .int .i64 0, .string ⟨#[]⟩, .string ⟨#[]⟩, .int .i64 0, .int .i64 0, .int .i64 0, .string ⟨#[]⟩, .int .i64 0, .int .i64 0] 29 := by rw [← hY3]; exact BS.alloc _
  have BD0 : Blk Y3 w1.heap.size #[.string ⟨#[]⟩, .string ⟨#[]⟩, .int .i64 0, .int .i64 0, .slice none 0 0, .slice none 0 0] 59 := by rw [← hY3]; exact Blk.new w1 _ _
  clear hlt hlt2 hsS HY12 b1 hY1 hY2 hfb
  have hclk : ∃ cb ct, clockB y tm = cb ∧ clockN y tm = ct := ⟨_, _, rfl, rfl⟩
  obtain ⟨cb, ct, hcb, hct⟩ := hclk
  obtain ⟨wb, hwb⟩ : ∃ wb, worksB y ct = wb := ⟨_, rfl⟩
  simp only [hct, hcb] at CC H2 H5 H0
  have CW := Lib.hid (CW.out ct)
  rw [hwb] at CW H5 H0
  have hsn : corSn y ⟨dev, seq, tm, tg, pl, ax, sc⟩ = ⟨⟨dev, seq, tm, tg, pl, ax, sc⟩, ct, y.pt, y.lane, y.kind⟩ := by unfold corSn; rw [hct]
  rw [hsn] at HE
  clear hwb hct hcb hsn
  obtain ⟨nm, pt, kd, ln, oA, oc, os, dA, dc, ds⟩ := y
  have CT := Lib.hid (CT.out kd)
  simp only [DV] at *
  generalize hft : fitsB kd ⟨dev, seq, tm, tg, pl, ax, sc⟩ = ft at *
  clear hft
  cases fb
  · have R := Lib.hid (HE.out 1 (H1.out rfl))
    clear HE H1 H2 H3 H5 H0 CT CC CW
    go_wp2_with (first | (refine wpList_boxStore rfl (ty := 59) (x := .tmp 6) (y := .tmp 16) rfl BD0 rfl rfl (by kernel_rfl) rfl (by kernel_rfl) ?_; intro wz BD hoz hbz; have BA := BA.oth hoz ne1.out; have BS := BS.oth hoz ne2.out; have bW := hbz _ _ ne3.out bW; have hd1 := hbz _ _ (Nat.le_refl _) hd1; have k0 := BA.cell 0 (v := .string dev) rfl; have k3 := BA.cell 3 (v := .string tg) rfl; have k4 := BA.cell 4 (v := .string pl) rfl; have k5 := BA.cell 5 (v := .int .i64 ax) rfl; have k1 := BA.cell 1 (v := .int .i64 seq) rfl; have k2 := BA.cell 2 (v := .int .i64 tm) rfl; have k6 := BA.cell 6 (v := .int .i64 sc) rfl; have m1 := BD.cell 1 (v := .string pt) rfl; have m2 := BD.cell 2 (v := .int .i64 kd) rfl; have m3 := BD.cell 3 (v := .int .i64 ln) rfl) | (refine wpList_boxBuild rfl (t := 29) rfl (cells := #[.string ⟨#[]⟩, .int .i64 0, .int .i64 0, .string ⟨#[]⟩, .string ⟨#[]⟩, .int .i64 0, .int .i64 0, .int .i64 0, .string ⟨#[]⟩, .int .i64 0, .int .i64 0]) (by kernel_rfl) ?_) | (refine wpList_boxStore rfl (ty := 29) (x := .tmp 4) (y := .tmp 67) rfl BS rfl rfl (by kernel_rfl) rfl (by kernel_rfl) ?_; intro wy SS hoy hby) | (refine wpList_boxLoad rfl (ty := 24) (x := .tmp 3) (cs := #[.string dev, .int .i64 seq, .int .i64 tm, .string tg, .string pl, .int .i64 ax, .int .i64 sc]) rfl BA rfl ⟨_, Try.underlying24, by kernel_rfl⟩ ?_) | (refine wpList_boxLoad rfl (ty := 59) (x := .tmp 6) (cs := #[.string nm, .string pt, .int .i64 kd, .int .i64 ln, .slice oA os.length oc, .slice dA ds.length dc]) rfl BD rfl ⟨_, Try.underlying59, by kernel_rfl⟩ ?_))
    refine bodyPost_ret (v := .tuple #[.agg #[.string ⟨#[]⟩, .int .i64 0, .int .i64 0, .string ⟨#[]⟩, .string ⟨#[]⟩, .int .i64 0, .int .i64 0, .int .i64 0, .string ⟨#[]⟩, .int .i64 0, .int .i64 0], .int .i64 1]) ?_ rfl ⟨by rw [R.out.1, R.out.2.1 (by decide)]; rfl, hby _ _ ne4.out bW⟩; exact results_box_tmp Try.results14 _ (.int .i64 1) rfl (by first | rfl | simp) SS ⟨_, Try.underlying29, by kernel_rfl⟩
  · clear H1
    by_cases q1 : seq < 0
    · have R := Lib.hid (HE.out 3 (H3.out (.inl q1)))
      clear HE H2 H3 H5 H0 CT CC CW
      go_wp2_with (first | (refine wpList_boxStore rfl (ty := 59) (x := .tmp 6) (y := .tmp 16) rfl BD0 rfl rfl (by kernel_rfl) rfl (by kernel_rfl) ?_; intro wz BD hoz hbz; have BA := BA.oth hoz ne1.out; have BS := BS.oth hoz ne2.out; have bW := hbz _ _ ne3.out bW; have hd1 := hbz _ _ (Nat.le_refl _) hd1; have k0 := BA.cell 0 (v := .string dev) rfl; have k3 := BA.cell 3 (v := .string tg) rfl; have k4 := BA.cell 4 (v := .string pl) rfl; have k5 := BA.cell 5 (v := .int .i64 ax) rfl; have k1 := BA.cell 1 (v := .int .i64 seq) rfl; have k2 := BA.cell 2 (v := .int .i64 tm) rfl; have k6 := BA.cell 6 (v := .int .i64 sc) rfl; have m1 := BD.cell 1 (v := .string pt) rfl; have m2 := BD.cell 2 (v := .int .i64 kd) rfl; have m3 := BD.cell 3 (v := .int .i64 ln) rfl) | (refine wpList_boxBuild rfl (t := 29) rfl (cells := #[.string ⟨#[]⟩, .int .i64 0, .int .i64 0, .string ⟨#[]⟩, .string ⟨#[]⟩, .int .i64 0, .int .i64 0, .int .i64 0, .string ⟨#[]⟩, .int .i64 0, .int .i64 0]) (by kernel_rfl) ?_) | (refine wpList_boxStore rfl (ty := 29) (x := .tmp 4) (y := .tmp 51) rfl BS rfl rfl (by kernel_rfl) rfl (by kernel_rfl) ?_; intro wy SS hoy hby) | (refine wpList_boxLoad rfl (ty := 24) (x := .tmp 3) (cs := #[.string dev, .int .i64 seq, .int .i64 tm, .string tg, .string pl, .int .i64 ax, .int .i64 sc]) rfl BA rfl ⟨_, Try.underlying24, by kernel_rfl⟩ ?_) | (refine wpList_boxLoad rfl (ty := 59) (x := .tmp 6) (cs := #[.string nm, .string pt, .int .i64 kd, .int .i64 ln, .slice oA os.length oc, .slice dA ds.length dc]) rfl BD rfl ⟨_, Try.underlying59, by kernel_rfl⟩ ?_))
      refine bodyPost_ret (v := .tuple #[.agg #[.string ⟨#[]⟩, .int .i64 0, .int .i64 0, .string ⟨#[]⟩, .string ⟨#[]⟩, .int .i64 0, .int .i64 0, .int .i64 0, .string ⟨#[]⟩, .int .i64 0, .int .i64 0], .int .i64 3]) ?_ rfl ⟨by rw [R.out.1, R.out.2.1 (by decide)]; rfl, hby _ _ ne4.out bW⟩; exact results_box_tmp Try.results14 _ (.int .i64 3) rfl (by first | rfl | simp) SS ⟨_, Try.underlying29, by kernel_rfl⟩
    · by_cases q2 : 2147483648 < seq
      · have R := Lib.hid (HE.out 3 (H3.out (.inr (.inl q2))))
        clear HE H2 H3 H5 H0 CT CC CW
        go_wp2_with (first | (refine wpList_boxStore rfl (ty := 59) (x := .tmp 6) (y := .tmp 16) rfl BD0 rfl rfl (by kernel_rfl) rfl (by kernel_rfl) ?_; intro wz BD hoz hbz; have BA := BA.oth hoz ne1.out; have BS := BS.oth hoz ne2.out; have bW := hbz _ _ ne3.out bW; have hd1 := hbz _ _ (Nat.le_refl _) hd1; have k0 := BA.cell 0 (v := .string dev) rfl; have k3 := BA.cell 3 (v := .string tg) rfl; have k4 := BA.cell 4 (v := .string pl) rfl; have k5 := BA.cell 5 (v := .int .i64 ax) rfl; have k1 := BA.cell 1 (v := .int .i64 seq) rfl; have k2 := BA.cell 2 (v := .int .i64 tm) rfl; have k6 := BA.cell 6 (v := .int .i64 sc) rfl; have m1 := BD.cell 1 (v := .string pt) rfl; have m2 := BD.cell 2 (v := .int .i64 kd) rfl; have m3 := BD.cell 3 (v := .int .i64 ln) rfl) | (refine wpList_boxBuild rfl (t := 29) rfl (cells := #[.string ⟨#[]⟩, .int .i64 0, .int .i64 0, .string ⟨#[]⟩, .string ⟨#[]⟩, .int .i64 0, .int .i64 0, .int .i64 0, .string ⟨#[]⟩, .int .i64 0, .int .i64 0]) (by kernel_rfl) ?_) | (refine wpList_boxStore rfl (ty := 29) (x := .tmp 4) (y := .tmp 51) rfl BS rfl rfl (by kernel_rfl) rfl (by kernel_rfl) ?_; intro wy SS hoy hby) | (refine wpList_boxLoad rfl (ty := 24) (x := .tmp 3) (cs := #[.string dev, .int .i64 seq, .int .i64 tm, .string tg, .string pl, .int .i64 ax, .int .i64 sc]) rfl BA rfl ⟨_, Try.underlying24, by kernel_rfl⟩ ?_) | (refine wpList_boxLoad rfl (ty := 59) (x := .tmp 6) (cs := #[.string nm, .string pt, .int .i64 kd, .int .i64 ln, .slice oA os.length oc, .slice dA ds.length dc]) rfl BD rfl ⟨_, Try.underlying59, by kernel_rfl⟩ ?_))
        refine bodyPost_ret (v := .tuple #[.agg #[.string ⟨#[]⟩, .int .i64 0, .int .i64 0, .string ⟨#[]⟩, .string ⟨#[]⟩, .int .i64 0, .int .i64 0, .int .i64 0, .string ⟨#[]⟩, .int .i64 0, .int .i64 0], .int .i64 3]) ?_ rfl ⟨by rw [R.out.1, R.out.2.1 (by decide)]; rfl, hby _ _ ne4.out bW⟩; exact results_box_tmp Try.results14 _ (.int .i64 3) rfl (by first | rfl | simp) SS ⟨_, Try.underlying29, by kernel_rfl⟩
      · by_cases q3 : sc < 0
        · have R := Lib.hid (HE.out 3 (H3.out (.inr (.inr (.inl q3)))))
          clear HE H2 H3 H5 H0 CT CC CW
          go_wp2_with (first | (refine wpList_boxStore rfl (ty := 59) (x := .tmp 6) (y := .tmp 16) rfl BD0 rfl rfl (by kernel_rfl) rfl (by kernel_rfl) ?_; intro wz BD hoz hbz; have BA := BA.oth hoz ne1.out; have BS := BS.oth hoz ne2.out; have bW := hbz _ _ ne3.out bW; have hd1 := hbz _ _ (Nat.le_refl _) hd1; have k0 := BA.cell 0 (v := .string dev) rfl; have k3 := BA.cell 3 (v := .string tg) rfl; have k4 := BA.cell 4 (v := .string pl) rfl; have k5 := BA.cell 5 (v := .int .i64 ax) rfl; have k1 := BA.cell 1 (v := .int .i64 seq) rfl; have k2 := BA.cell 2 (v := .int .i64 tm) rfl; have k6 := BA.cell 6 (v := .int .i64 sc) rfl; have m1 := BD.cell 1 (v := .string pt) rfl; have m2 := BD.cell 2 (v := .int .i64 kd) rfl; have m3 := BD.cell 3 (v := .int .i64 ln) rfl) | (refine wpList_boxBuild rfl (t := 29) rfl (cells := #[.string ⟨#[]⟩, .int .i64 0, .int .i64 0, .string ⟨#[]⟩, .string ⟨#[]⟩, .int .i64 0, .int .i64 0, .int .i64 0, .string ⟨#[]⟩, .int .i64 0, .int .i64 0]) (by kernel_rfl) ?_) | (refine wpList_boxStore rfl (ty := 29) (x := .tmp 4) (y := .tmp 51) rfl BS rfl rfl (by kernel_rfl) rfl (by kernel_rfl) ?_; intro wy SS hoy hby) | (refine wpList_boxLoad rfl (ty := 24) (x := .tmp 3) (cs := #[.string dev, .int .i64 seq, .int .i64 tm, .string tg, .string pl, .int .i64 ax, .int .i64 sc]) rfl BA rfl ⟨_, Try.underlying24, by kernel_rfl⟩ ?_) | (refine wpList_boxLoad rfl (ty := 59) (x := .tmp 6) (cs := #[.string nm, .string pt, .int .i64 kd, .int .i64 ln, .slice oA os.length oc, .slice dA ds.length dc]) rfl BD rfl ⟨_, Try.underlying59, by kernel_rfl⟩ ?_))
          refine bodyPost_ret (v := .tuple #[.agg #[.string ⟨#[]⟩, .int .i64 0, .int .i64 0, .string ⟨#[]⟩, .string ⟨#[]⟩, .int .i64 0, .int .i64 0, .int .i64 0, .string ⟨#[]⟩, .int .i64 0, .int .i64 0], .int .i64 3]) ?_ rfl ⟨by rw [R.out.1, R.out.2.1 (by decide)]; rfl, hby _ _ ne4.out bW⟩; exact results_box_tmp Try.results14 _ (.int .i64 3) rfl (by first | rfl | simp) SS ⟨_, Try.underlying29, by kernel_rfl⟩
        · by_cases q4 : 1000 < sc
          · have R := Lib.hid (HE.out 3 (H3.out (.inr (.inr (.inr (.inl q4))))))
            clear HE H2 H3 H5 H0 CT CC CW
            go_wp2_with (first | (refine wpList_boxStore rfl (ty := 59) (x := .tmp 6) (y := .tmp 16) rfl BD0 rfl rfl (by kernel_rfl) rfl (by kernel_rfl) ?_; intro wz BD hoz hbz; have BA := BA.oth hoz ne1.out; have BS := BS.oth hoz ne2.out; have bW := hbz _ _ ne3.out bW; have hd1 := hbz _ _ (Nat.le_refl _) hd1; have k0 := BA.cell 0 (v := .string dev) rfl; have k3 := BA.cell 3 (v := .string tg) rfl; have k4 := BA.cell 4 (v := .string pl) rfl; have k5 := BA.cell 5 (v := .int .i64 ax) rfl; have k1 := BA.cell 1 (v := .int .i64 seq) rfl; have k2 := BA.cell 2 (v := .int .i64 tm) rfl; have k6 := BA.cell 6 (v := .int .i64 sc) rfl; have m1 := BD.cell 1 (v := .string pt) rfl; have m2 := BD.cell 2 (v := .int .i64 kd) rfl; have m3 := BD.cell 3 (v := .int .i64 ln) rfl) | (refine wpList_boxBuild rfl (t := 29) rfl (cells := #[.string ⟨#[]⟩, .int .i64 0, .int .i64 0, .string ⟨#[]⟩, .string ⟨#[]⟩, .int .i64 0, .int .i64 0, .int .i64 0, .string ⟨#[]⟩, .int .i64 0, .int .i64 0]) (by kernel_rfl) ?_) | (refine wpList_boxStore rfl (ty := 29) (x := .tmp 4) (y := .tmp 51) rfl BS rfl rfl (by kernel_rfl) rfl (by kernel_rfl) ?_; intro wy SS hoy hby) | (refine wpList_boxLoad rfl (ty := 24) (x := .tmp 3) (cs := #[.string dev, .int .i64 seq, .int .i64 tm, .string tg, .string pl, .int .i64 ax, .int .i64 sc]) rfl BA rfl ⟨_, Try.underlying24, by kernel_rfl⟩ ?_) | (refine wpList_boxLoad rfl (ty := 59) (x := .tmp 6) (cs := #[.string nm, .string pt, .int .i64 kd, .int .i64 ln, .slice oA os.length oc, .slice dA ds.length dc]) rfl BD rfl ⟨_, Try.underlying59, by kernel_rfl⟩ ?_))
            refine bodyPost_ret (v := .tuple #[.agg #[.string ⟨#[]⟩, .int .i64 0, .int .i64 0, .string ⟨#[]⟩, .string ⟨#[]⟩, .int .i64 0, .int .i64 0, .int .i64 0, .string ⟨#[]⟩, .int .i64 0, .int .i64 0], .int .i64 3]) ?_ rfl ⟨by rw [R.out.1, R.out.2.1 (by decide)]; rfl, hby _ _ ne4.out bW⟩; exact results_box_tmp Try.results14 _ (.int .i64 3) rfl (by first | rfl | simp) SS ⟨_, Try.underlying29, by kernel_rfl⟩
          · cases ft
            · have R := Lib.hid (HE.out 3 (H3.out (.inr (.inr (.inr (.inr rfl))))))
              clear HE H2 H3 H5 H0 CC CW
              go_wp2_with (first | (refine wpList_boxStore rfl (ty := 59) (x := .tmp 6) (y := .tmp 16) rfl BD0 rfl rfl (by kernel_rfl) rfl (by kernel_rfl) ?_; intro wz BD hoz hbz; have BA := BA.oth hoz ne1.out; have BS := BS.oth hoz ne2.out; have bW := hbz _ _ ne3.out bW; have hd1 := hbz _ _ (Nat.le_refl _) hd1; have k0 := BA.cell 0 (v := .string dev) rfl; have k3 := BA.cell 3 (v := .string tg) rfl; have k4 := BA.cell 4 (v := .string pl) rfl; have k5 := BA.cell 5 (v := .int .i64 ax) rfl; have k1 := BA.cell 1 (v := .int .i64 seq) rfl; have k2 := BA.cell 2 (v := .int .i64 tm) rfl; have k6 := BA.cell 6 (v := .int .i64 sc) rfl; have m1 := BD.cell 1 (v := .string pt) rfl; have m2 := BD.cell 2 (v := .int .i64 kd) rfl; have m3 := BD.cell 3 (v := .int .i64 ln) rfl) | (refine wpList_boxBuild rfl (t := 29) rfl (cells := #[.string ⟨#[]⟩, .int .i64 0, .int .i64 0, .string ⟨#[]⟩, .string ⟨#[]⟩, .int .i64 0, .int .i64 0, .int .i64 0, .string ⟨#[]⟩, .int .i64 0, .int .i64 0]) (by kernel_rfl) ?_) | (refine wpList_boxStore rfl (ty := 29) (x := .tmp 4) (y := .tmp 51) rfl BS rfl rfl (by kernel_rfl) rfl (by kernel_rfl) ?_; intro wy SS hoy hby) | (refine wpList_boxLoad rfl (ty := 24) (x := .tmp 3) (cs := #[.string dev, .int .i64 seq, .int .i64 tm, .string tg, .string pl, .int .i64 ax, .int .i64 sc]) rfl BA rfl ⟨_, Try.underlying24, by kernel_rfl⟩ ?_) | (refine wpList_boxLoad rfl (ty := 59) (x := .tmp 6) (cs := #[.string nm, .string pt, .int .i64 kd, .int .i64 ln, .slice oA os.length oc, .slice dA ds.length dc]) rfl BD rfl ⟨_, Try.underlying59, by kernel_rfl⟩ ?_))
              refine (CT.out _).mono ?_
              rintro e w2 ⟨rfl, hbn⟩
              have bW := bW.st hbn; have BA := BA.below hbn BA.lt; have BS := BS.below hbn BS.lt; have BD := BD.below hbn BD.lt; have hd1 := hd1.st hbn; have k0 := BA.cell 0 (v := .string dev) rfl; have k3 := BA.cell 3 (v := .string tg) rfl; have k4 := BA.cell 4 (v := .string pl) rfl; have k5 := BA.cell 5 (v := .int .i64 ax) rfl; have k1 := BA.cell 1 (v := .int .i64 seq) rfl; have k2 := BA.cell 2 (v := .int .i64 tm) rfl; have k6 := BA.cell 6 (v := .int .i64 sc) rfl; have m1 := BD.cell 1 (v := .string pt) rfl; have m2 := BD.cell 2 (v := .int .i64 kd) rfl; have m3 := BD.cell 3 (v := .int .i64 ln) rfl
              clear hbn
              go_wp2_with (first | (refine wpList_boxBuild rfl (t := 29) rfl (cells := #[.string ⟨#[]⟩, .int .i64 0, .int .i64 0, .string ⟨#[]⟩, .string ⟨#[]⟩, .int .i64 0, .int .i64 0, .int .i64 0, .string ⟨#[]⟩, .int .i64 0, .int .i64 0]) (by kernel_rfl) ?_) | (refine wpList_boxStore rfl (ty := 29) (x := .tmp 4) (y := .tmp 51) rfl BS rfl rfl (by kernel_rfl) rfl (by kernel_rfl) ?_; intro wy SS hoy hby) | (refine wpList_boxLoad rfl (ty := 24) (x := .tmp 3) (cs := #[.string dev, .int .i64 seq, .int .i64 tm, .string tg, .string pl, .int .i64 ax, .int .i64 sc]) rfl BA rfl ⟨_, Try.underlying24, by kernel_rfl⟩ ?_) | (refine wpList_boxLoad rfl (ty := 59) (x := .tmp 6) (cs := #[.string nm, .string pt, .int .i64 kd, .int .i64 ln, .slice oA os.length oc, .slice dA ds.length dc]) rfl BD rfl ⟨_, Try.underlying59, by kernel_rfl⟩ ?_))
              refine bodyPost_ret (v := .tuple #[.agg #[.string ⟨#[]⟩, .int .i64 0, .int .i64 0, .string ⟨#[]⟩, .string ⟨#[]⟩, .int .i64 0, .int .i64 0, .int .i64 0, .string ⟨#[]⟩, .int .i64 0, .int .i64 0], .int .i64 3]) ?_ rfl ⟨by rw [R.out.1, R.out.2.1 (by decide)]; rfl, hby _ _ ne4.out bW⟩; exact results_box_tmp Try.results14 _ (.int .i64 3) rfl (by first | rfl | simp) SS ⟨_, Try.underlying29, by kernel_rfl⟩
            · have HN : ¬ (seq < 0 ∨ 2147483648 < seq ∨ sc < 0 ∨ 1000 < sc ∨ true = false) := by simp; omega
              have H2 := Lib.hid (H2.out HN)
              have H5 := Lib.hid (H5.out HN)
              have H0 := Lib.hid (H0.out HN)
              clear HN H3
              go_wp2_with (first | (refine wpList_boxStore rfl (ty := 59) (x := .tmp 6) (y := .tmp 16) rfl BD0 rfl rfl (by kernel_rfl) rfl (by kernel_rfl) ?_; intro wz BD hoz hbz; have BA := BA.oth hoz ne1.out; have BS := BS.oth hoz ne2.out; have bW := hbz _ _ ne3.out bW; have hd1 := hbz _ _ (Nat.le_refl _) hd1; have k0 := BA.cell 0 (v := .string dev) rfl; have k3 := BA.cell 3 (v := .string tg) rfl; have k4 := BA.cell 4 (v := .string pl) rfl; have k5 := BA.cell 5 (v := .int .i64 ax) rfl; have k1 := BA.cell 1 (v := .int .i64 seq) rfl; have k2 := BA.cell 2 (v := .int .i64 tm) rfl; have k6 := BA.cell 6 (v := .int .i64 sc) rfl; have m1 := BD.cell 1 (v := .string pt) rfl; have m2 := BD.cell 2 (v := .int .i64 kd) rfl; have m3 := BD.cell 3 (v := .int .i64 ln) rfl) | (refine wpList_boxBuild rfl (t := 29) rfl (cells := #[.string ⟨#[]⟩, .int .i64 0, .int .i64 0, .string ⟨#[]⟩, .string ⟨#[]⟩, .int .i64 0, .int .i64 0, .int .i64 0, .string ⟨#[]⟩, .int .i64 0, .int .i64 0]) (by kernel_rfl) ?_) | (refine wpList_boxStore rfl (ty := 29) (x := .tmp 4) (y := .tmp 51) rfl BS rfl rfl (by kernel_rfl) rfl (by kernel_rfl) ?_; intro wy SS hoy hby) | (refine wpList_boxLoad rfl (ty := 24) (x := .tmp 3) (cs := #[.string dev, .int .i64 seq, .int .i64 tm, .string tg, .string pl, .int .i64 ax, .int .i64 sc]) rfl BA rfl ⟨_, Try.underlying24, by kernel_rfl⟩ ?_) | (refine wpList_boxLoad rfl (ty := 59) (x := .tmp 6) (cs := #[.string nm, .string pt, .int .i64 kd, .int .i64 ln, .slice oA os.length oc, .slice dA ds.length dc]) rfl BD rfl ⟨_, Try.underlying59, by kernel_rfl⟩ ?_))
              refine (CT.out _).mono ?_
              rintro e w2 ⟨rfl, hbn⟩
              have bW := bW.st hbn; have BA := BA.below hbn BA.lt; have BS := BS.below hbn BS.lt; have BD := BD.below hbn BD.lt; have hd1 := hd1.st hbn; have k0 := BA.cell 0 (v := .string dev) rfl; have k3 := BA.cell 3 (v := .string tg) rfl; have k4 := BA.cell 4 (v := .string pl) rfl; have k5 := BA.cell 5 (v := .int .i64 ax) rfl; have k1 := BA.cell 1 (v := .int .i64 seq) rfl; have k2 := BA.cell 2 (v := .int .i64 tm) rfl; have k6 := BA.cell 6 (v := .int .i64 sc) rfl; have m1 := BD.cell 1 (v := .string pt) rfl; have m2 := BD.cell 2 (v := .int .i64 kd) rfl; have m3 := BD.cell 3 (v := .int .i64 ln) rfl
              clear hbn CT
              cases cb
              · have R := Lib.hid (HE.out 2 (H2.out rfl))
                clear HE H2 H5 H0 CW
                go_wp2_with (first | (refine wpList_boxBuild rfl (t := 29) rfl (cells := #[.string ⟨#[]⟩, .int .i64 0, .int .i64 0, .string ⟨#[]⟩, .string ⟨#[]⟩, .int .i64 0, .int .i64 0, .int .i64 0, .string ⟨#[]⟩, .int .i64 0, .int .i64 0]) (by kernel_rfl) ?_) | (refine wpList_boxStore rfl (ty := 29) (x := .tmp 4) (y := .tmp 61) rfl BS rfl rfl (by kernel_rfl) rfl (by kernel_rfl) ?_; intro wy SS hoy hby) | (refine wpList_boxLoad rfl (ty := 24) (x := .tmp 3) (cs := #[.string dev, .int .i64 seq, .int .i64 tm, .string tg, .string pl, .int .i64 ax, .int .i64 sc]) rfl BA rfl ⟨_, Try.underlying24, by kernel_rfl⟩ ?_) | (refine wpList_boxLoad rfl (ty := 59) (x := .tmp 6) (cs := #[.string nm, .string pt, .int .i64 kd, .int .i64 ln, .slice oA os.length oc, .slice dA ds.length dc]) rfl BD rfl ⟨_, Try.underlying59, by kernel_rfl⟩ ?_))
                refine (CC.out _ hd1).mono ?_
                rintro e w3 ⟨rfl, hbn⟩
                have bW := bW.st hbn; have BA := BA.below hbn BA.lt; have BS := BS.below hbn BS.lt; have BD := BD.below hbn BD.lt; have hd1 := hd1.st hbn; have k0 := BA.cell 0 (v := .string dev) rfl; have k3 := BA.cell 3 (v := .string tg) rfl; have k4 := BA.cell 4 (v := .string pl) rfl; have k5 := BA.cell 5 (v := .int .i64 ax) rfl; have k1 := BA.cell 1 (v := .int .i64 seq) rfl; have k2 := BA.cell 2 (v := .int .i64 tm) rfl; have k6 := BA.cell 6 (v := .int .i64 sc) rfl; have m1 := BD.cell 1 (v := .string pt) rfl; have m2 := BD.cell 2 (v := .int .i64 kd) rfl; have m3 := BD.cell 3 (v := .int .i64 ln) rfl
                clear hbn CC
                go_wp2_with (first | (refine wpList_boxBuild rfl (t := 29) rfl (cells := #[.string ⟨#[]⟩, .int .i64 0, .int .i64 0, .string ⟨#[]⟩, .string ⟨#[]⟩, .int .i64 0, .int .i64 0, .int .i64 0, .string ⟨#[]⟩, .int .i64 0, .int .i64 0]) (by kernel_rfl) ?_) | (refine wpList_boxStore rfl (ty := 29) (x := .tmp 4) (y := .tmp 61) rfl BS rfl rfl (by kernel_rfl) rfl (by kernel_rfl) ?_; intro wy SS hoy hby) | (refine wpList_boxLoad rfl (ty := 24) (x := .tmp 3) (cs := #[.string dev, .int .i64 seq, .int .i64 tm, .string tg, .string pl, .int .i64 ax, .int .i64 sc]) rfl BA rfl ⟨_, Try.underlying24, by kernel_rfl⟩ ?_) | (refine wpList_boxLoad rfl (ty := 59) (x := .tmp 6) (cs := #[.string nm, .string pt, .int .i64 kd, .int .i64 ln, .slice oA os.length oc, .slice dA ds.length dc]) rfl BD rfl ⟨_, Try.underlying59, by kernel_rfl⟩ ?_))
                refine bodyPost_ret (v := .tuple #[.agg #[.string ⟨#[]⟩, .int .i64 0, .int .i64 0, .string ⟨#[]⟩, .string ⟨#[]⟩, .int .i64 0, .int .i64 0, .int .i64 0, .string ⟨#[]⟩, .int .i64 0, .int .i64 0], .int .i64 2]) ?_ rfl ⟨by rw [R.out.1, R.out.2.1 (by decide)]; rfl, hby _ _ ne4.out bW⟩; exact results_box_tmp Try.results14 _ (.int .i64 2) rfl (by first | rfl | simp) SS ⟨_, Try.underlying29, by kernel_rfl⟩
              · have H5b := Lib.hid (H5.out rfl)
                have H0b := Lib.hid (H0.out rfl)
                clear H5 H0 H2
                go_wp2_with (first | (refine wpList_boxBuild rfl (t := 29) rfl (cells := #[.string ⟨#[]⟩, .int .i64 0, .int .i64 0, .string ⟨#[]⟩, .string ⟨#[]⟩, .int .i64 0, .int .i64 0, .int .i64 0, .string ⟨#[]⟩, .int .i64 0, .int .i64 0]) (by kernel_rfl) ?_) | (refine wpList_boxStore rfl (ty := 29) (x := .tmp 4) (y := .tmp 61) rfl BS rfl rfl (by kernel_rfl) rfl (by kernel_rfl) ?_; intro wy SS hoy hby) | (refine wpList_boxLoad rfl (ty := 24) (x := .tmp 3) (cs := #[.string dev, .int .i64 seq, .int .i64 tm, .string tg, .string pl, .int .i64 ax, .int .i64 sc]) rfl BA rfl ⟨_, Try.underlying24, by kernel_rfl⟩ ?_) | (refine wpList_boxLoad rfl (ty := 59) (x := .tmp 6) (cs := #[.string nm, .string pt, .int .i64 kd, .int .i64 ln, .slice oA os.length oc, .slice dA ds.length dc]) rfl BD rfl ⟨_, Try.underlying59, by kernel_rfl⟩ ?_))
                refine (CC.out _ hd1).mono ?_
                rintro e w3 ⟨rfl, hbn⟩
                have bW := bW.st hbn; have BA := BA.below hbn BA.lt; have BS := BS.below hbn BS.lt; have BD := BD.below hbn BD.lt; have hd1 := hd1.st hbn; have k0 := BA.cell 0 (v := .string dev) rfl; have k3 := BA.cell 3 (v := .string tg) rfl; have k4 := BA.cell 4 (v := .string pl) rfl; have k5 := BA.cell 5 (v := .int .i64 ax) rfl; have k1 := BA.cell 1 (v := .int .i64 seq) rfl; have k2 := BA.cell 2 (v := .int .i64 tm) rfl; have k6 := BA.cell 6 (v := .int .i64 sc) rfl; have m1 := BD.cell 1 (v := .string pt) rfl; have m2 := BD.cell 2 (v := .int .i64 kd) rfl; have m3 := BD.cell 3 (v := .int .i64 ln) rfl
                clear hbn CC
                cases wb
                · have R := Lib.hid (HE.out 5 (H5b.out rfl))
                  clear HE H5b H0b
                  go_wp2_with (first | (refine wpList_boxBuild rfl (t := 29) rfl (cells := #[.string ⟨#[]⟩, .int .i64 0, .int .i64 0, .string ⟨#[]⟩, .string ⟨#[]⟩, .int .i64 0, .int .i64 0, .int .i64 0, .string ⟨#[]⟩, .int .i64 0, .int .i64 0]) (by kernel_rfl) ?_) | (refine wpList_boxStore rfl (ty := 29) (x := .tmp 4) (y := .tmp 66) rfl BS rfl rfl (by kernel_rfl) rfl (by kernel_rfl) ?_; intro wy SS hoy hby) | (refine wpList_boxLoad rfl (ty := 24) (x := .tmp 3) (cs := #[.string dev, .int .i64 seq, .int .i64 tm, .string tg, .string pl, .int .i64 ax, .int .i64 sc]) rfl BA rfl ⟨_, Try.underlying24, by kernel_rfl⟩ ?_) | (refine wpList_boxLoad rfl (ty := 59) (x := .tmp 6) (cs := #[.string nm, .string pt, .int .i64 kd, .int .i64 ln, .slice oA os.length oc, .slice dA ds.length dc]) rfl BD rfl ⟨_, Try.underlying59, by kernel_rfl⟩ ?_))
                  refine (CW.out _ hd1).mono ?_
                  rintro e w4 ⟨rfl, hbn⟩
                  have bW := bW.st hbn; have BA := BA.below hbn BA.lt; have BS := BS.below hbn BS.lt; have BD := BD.below hbn BD.lt; have hd1 := hd1.st hbn; have k0 := BA.cell 0 (v := .string dev) rfl; have k3 := BA.cell 3 (v := .string tg) rfl; have k4 := BA.cell 4 (v := .string pl) rfl; have k5 := BA.cell 5 (v := .int .i64 ax) rfl; have k1 := BA.cell 1 (v := .int .i64 seq) rfl; have k2 := BA.cell 2 (v := .int .i64 tm) rfl; have k6 := BA.cell 6 (v := .int .i64 sc) rfl; have m1 := BD.cell 1 (v := .string pt) rfl; have m2 := BD.cell 2 (v := .int .i64 kd) rfl; have m3 := BD.cell 3 (v := .int .i64 ln) rfl
                  clear hbn CW
                  go_wp2_with (first | (refine wpList_boxBuild rfl (t := 29) rfl (cells := #[.string ⟨#[]⟩, .int .i64 0, .int .i64 0, .string ⟨#[]⟩, .string ⟨#[]⟩, .int .i64 0, .int .i64 0, .int .i64 0, .string ⟨#[]⟩, .int .i64 0, .int .i64 0]) (by kernel_rfl) ?_) | (refine wpList_boxStore rfl (ty := 29) (x := .tmp 4) (y := .tmp 66) rfl BS rfl rfl (by kernel_rfl) rfl (by kernel_rfl) ?_; intro wy SS hoy hby) | (refine wpList_boxLoad rfl (ty := 24) (x := .tmp 3) (cs := #[.string dev, .int .i64 seq, .int .i64 tm, .string tg, .string pl, .int .i64 ax, .int .i64 sc]) rfl BA rfl ⟨_, Try.underlying24, by kernel_rfl⟩ ?_) | (refine wpList_boxLoad rfl (ty := 59) (x := .tmp 6) (cs := #[.string nm, .string pt, .int .i64 kd, .int .i64 ln, .slice oA os.length oc, .slice dA ds.length dc]) rfl BD rfl ⟨_, Try.underlying59, by kernel_rfl⟩ ?_))
                  refine bodyPost_ret (v := .tuple #[.agg #[.string ⟨#[]⟩, .int .i64 0, .int .i64 0, .string ⟨#[]⟩, .string ⟨#[]⟩, .int .i64 0, .int .i64 0, .int .i64 0, .string ⟨#[]⟩, .int .i64 0, .int .i64 0], .int .i64 5]) ?_ rfl ⟨by rw [R.out.1, R.out.2.1 (by decide)]; rfl, hby _ _ ne4.out bW⟩; exact results_box_tmp Try.results14 _ (.int .i64 5) rfl (by first | rfl | simp) SS ⟨_, Try.underlying29, by kernel_rfl⟩
                · have R0 := HE.out 0 (H0b.out rfl)
                  have R := Lib.hid (And.intro R0.1 (R0.2.2 rfl))
                  clear R0
                  clear HE H5b H0b
                  go_wp2_with (first | (refine wpList_boxBuild rfl (t := 29) rfl (cells := #[.string ⟨#[]⟩, .int .i64 0, .int .i64 0, .string ⟨#[]⟩, .string ⟨#[]⟩, .int .i64 0, .int .i64 0, .int .i64 0, .string ⟨#[]⟩, .int .i64 0, .int .i64 0]) (by kernel_rfl) ?_) | (refine wpList_boxStore rfl (ty := 29) (x := .tmp 4) (y := .tmp 66) rfl BS rfl rfl (by kernel_rfl) rfl (by kernel_rfl) ?_; intro wy SS hoy hby) | (refine wpList_boxLoad rfl (ty := 24) (x := .tmp 3) (cs := #[.string dev, .int .i64 seq, .int .i64 tm, .string tg, .string pl, .int .i64 ax, .int .i64 sc]) rfl BA rfl ⟨_, Try.underlying24, by kernel_rfl⟩ ?_) | (refine wpList_boxLoad rfl (ty := 59) (x := .tmp 6) (cs := #[.string nm, .string pt, .int .i64 kd, .int .i64 ln, .slice oA os.length oc, .slice dA ds.length dc]) rfl BD rfl ⟨_, Try.underlying59, by kernel_rfl⟩ ?_))
                  refine (CW.out _ hd1).mono ?_
                  rintro e w4 ⟨rfl, hbn⟩
                  have bW := bW.st hbn; have BA := BA.below hbn BA.lt; have BS := BS.below hbn BS.lt; have BD := BD.below hbn BD.lt; have hd1 := hd1.st hbn; have k0 := BA.cell 0 (v := .string dev) rfl; have k3 := BA.cell 3 (v := .string tg) rfl; have k4 := BA.cell 4 (v := .string pl) rfl; have k5 := BA.cell 5 (v := .int .i64 ax) rfl; have k1 := BA.cell 1 (v := .int .i64 seq) rfl; have k2 := BA.cell 2 (v := .int .i64 tm) rfl; have k6 := BA.cell 6 (v := .int .i64 sc) rfl; have m1 := BD.cell 1 (v := .string pt) rfl; have m2 := BD.cell 2 (v := .int .i64 kd) rfl; have m3 := BD.cell 3 (v := .int .i64 ln) rfl
                  clear hbn CW
                  go_wp2_with (first | (refine wpList_boxLoad rfl (ty := 24) (x := .tmp 3) (cs := #[.string dev, .int .i64 seq, .int .i64 tm, .string tg, .string pl, .int .i64 ax, .int .i64 sc]) rfl BA rfl ⟨_, Try.underlying24, by kernel_rfl⟩ ?_) | (refine wpList_boxLoad rfl (ty := 59) (x := .tmp 6) (cs := #[.string nm, .string pt, .int .i64 kd, .int .i64 ln, .slice oA os.length oc, .slice dA ds.length dc]) rfl BD rfl ⟨_, Try.underlying59, by kernel_rfl⟩ ?_) | (refine wpList_boxBuild rfl (t := 29) rfl (cells := #[.string dev, .int .i64 seq, .int .i64 tm, .string tg, .string pl, .int .i64 ax, .int .i64 sc, .int .i64 ct, .string pt, .int .i64 ln, .int .i64 kd]) (by kernel_rfl) ?_) | (refine wpList_boxStore rfl (ty := 29) (x := .tmp 4) (y := .tmp 76) rfl BS rfl rfl (by kernel_rfl) rfl (by kernel_rfl) ?_; intro wy SS hoy hby))
                  refine bodyPost_ret (v := .tuple #[.agg #[.string dev, .int .i64 seq, .int .i64 tm, .string tg, .string pl, .int .i64 ax, .int .i64 sc, .int .i64 ct, .string pt, .int .i64 ln, .int .i64 kd], .int .i64 0]) ?_ rfl ⟨by rw [R.out.1, R.out.2]; rfl, hby _ _ ne4.out bW⟩
                  exact results_box_tmp Try.results14 _ (.int .i64 0) rfl (by first | rfl | simp) SS ⟨_, Try.underlying29, by kernel_rfl⟩
end Go.Proofs.Ytgkppjkmakomnaa
