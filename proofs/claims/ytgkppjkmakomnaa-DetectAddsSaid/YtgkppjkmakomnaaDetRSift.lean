/- The reference's Sift, walked. -/
import Derived.Test.YtgkppjkmakomnaaDetRCon
import Derived.Test.YtgkppjkmakomnaaDetInsR
import Derived.Test.YtgkppjkmakomnaaDetInsS
import Derived.Test.YtgkppjkmakomnaaDetRCor
namespace Go.Proofs.Ytgkppjkmakomnaa
open Go.RowKit Go.Lib

/-- the post of both Sifts -/
def SiftR (l : List Dv) (ds : List Dt) (w : World) (e : Ending) (w' : World) : Prop :=
  ∃ (S : List Sn) (R : List Rj) (As Ar : Option Addr) (cs cr : Nat), SiftOf l ds S R ∧ S.length ≤ ds.length ∧ R.length ≤ ds.length ∧ e = .returned (.tuple #[.slice As S.length cs, .slice Ar R.length cr]) ∧ Rd encSn 11 w' w'.heap.size As S ∧ Rd encRj 8 w' w'.heap.size Ar R ∧ Below w.heap.size w w'
theorem corS_sz {l : List Dv} {d : Dt} (hp : ∀ y ∈ l, y.pt.size ≤ 100) (hd : SzD d) : SzS (corS l d) := by
  unfold corS
  split
  · refine ⟨hd, ?_⟩
    show (corX l d).pt.size ≤ 100
    unfold corX
    cases hq : findD l d.dev with
    | none => show (⟨#[]⟩ : ByteArray).size ≤ 100; decide
    | some z => exact hp z (List.mem_of_find?_eq_some hq)
  · have z : (⟨#[]⟩ : ByteArray).size ≤ 100 := by decide
    exact ⟨⟨z, z, z⟩, z⟩

set_option maxRecDepth 100000 in
set_option maxHeartbeats 16000000 in
theorem rsift_any {A B : Option Addr} (c cb : Nat) {l : List Dv} {ds : List Dt} {w : World} (h : Rd encD 6 w w.heap.size A l) (hz : DsOk w l) (hsm : ∀ y ∈ l, y.os.length ≤ 100 ∧ y.ds.length ≤ 100) (hl : l.length ≤ 1000) (hp : ∀ y ∈ l, y.pt.size ≤ 100)
    (hd : Rd encDt 7 w w.heap.size B ds) (hdl : ds.length ≤ 1000) (hsz : ∀ x ∈ ds, SzD x) :
    Calls Try.prog 24 #[.slice A l.length c, .slice B ds.length cb] w fun e w' => SiftR l ds w e w' := by
  have H1 := Lib.hid hd
  have HZ := Lib.hid hsz
  have CC := Lib.hid (fun (d : Dt) (X : World) (hX : Below w.heap.size w X) => conflict_any cb d (hd.st hX) (by omega) hsz)
  have CR := Lib.hid (fun (d : Dt) (q : SzD d) (X : World) (hX : Below w.heap.size w X) => rcorrect_any c d (h.st hX) (hz.st hX) hsm hl q)
  have HP := Lib.hid (fun (d : Dt) (q : SzD d) => corS_sz (l := l) (d := d) hp q)
  have HLN := Lib.hid (fun k => siftN_len l ds k)
  have HSN := Lib.hid (fun (k : Nat) (d : Dt) (q : ds[k]? = some d) => siftN_snoc l q)
  have CIR := Lib.hid (fun (k : Nat) (hk : k ≤ ds.length) (Ar : Option Addr) (cr : Nat) (x : Rj) (q : SzD x.d) (X : World) (rr : Rd encRj 8 X X.heap.size Ar (siftN l ds k).2) => insInsertReject_any cr x rr (by have := (siftN_len l ds k).2; omega) q)
  have CIS := Lib.hid (fun (k : Nat) (hk : k ≤ ds.length) (Ar : Option Addr) (cr : Nat) (x : Sn) (q : SzS x) (X : World) (rr : Rd encSn 11 X X.heap.size Ar (siftN l ds k).1) => insInsertSeen_any cr x rr (by have := (siftN_len l ds k).1; omega) q)
  clear h hz hsm hl hp hd hsz
  simp only [CorR] at CR
  go_enter Try.func24, Try.ntmps24
  go_wp2_with fail
  go_loopw [6, 7, 8] (fun v6 v7 i wr => ∃ (k : Nat) (As Ar : Option Addr) (cs cr : Nat), k ≤ ds.length ∧ i = .int .i64 k ∧ v6 = .slice As (siftN l ds k).1.length cs ∧ v7 = .slice Ar (siftN l ds k).2.length cr ∧ Rd encSn 11 wr wr.heap.size As (siftN l ds k).1 ∧ Rd encRj 8 wr wr.heap.size Ar (siftN l ds k).2 ∧ Below w.heap.size w wr) (fun _ _ i _ => ds.length - (intOf i).toNat)
  case atStart => exact ⟨0, none, none, 0, 0, Nat.zero_le _, rfl, rfl, rfl, Rd.nil, Rd.nil, Below.refl _ _⟩
  case round =>
    obtain ⟨k, As, Ar, cs, cr, hk, rfl, rfl, rfl, rs, rr, bW⟩ := hrel
    by_cases hi : k < ds.length
    · obtain ⟨b, off, d, hA, hb, hx, d0, d1, d2, d3, d4, d5, d6⟩ := H1.out.dt hi
      have hzd := HZ.out d (List.mem_of_getElem? hx)
      have CC1 := Lib.hid (CC.out d)
      have CR1 := Lib.hid (CR.out d hzd)
      have CIR1 := Lib.hid (fun (y : Int) => CIR.out k hk Ar cr ⟨d, y⟩ hzd)
      have CIS1 := Lib.hid (CIS.out k hk As cs (corS l d) (HP.out d hzd))
      have HS1 := Lib.hid (HSN.out k d hx)
      have HC := Lib.hid (And.intro hb (And.intro d0 (And.intro d1 (And.intro d2 (And.intro d3 (And.intro d4 (And.intro d5 d6)))))))
      have hi1 : (0 : Int) ≤ (k : Int) := by omega
      have hi2 : (k : Int) < (ds.length : Int) := by omega
      have HL := Lib.hid hi
      have HW : Hid (whyF l ds d = if conB ds d = true then 4 else corW l d) := Lib.hid rfl
      generalize hq1 : conB ds d = cn at *
      generalize hq2 : corW l d = cw at *
      generalize hq3 : corS l d = s at *
      generalize hq4 : whyF l ds d = wy at *
      have H3 := Lib.hid hq3
      have H4 := Lib.hid hq4
      obtain ⟨y1, y2, y3, y4, y5, y6, y7⟩ := d
      simp only [DtV, RjV, SnV] at CC1 CR1 CIR1 CIS1 HC
      clear hq1 hq2 hq3 hq4 hx hi hb d0 d1 d2 d3 d4 d5 d6 hzd hk
      subst hA
      have e0 := (bW.cell (p := ⟨b, off + k * 7, none⟩) HC.out.1).trans HC.out.2.1; have e1 := (bW.cell (p := ⟨b, off + k * 7 + 1, none⟩) HC.out.1).trans HC.out.2.2.1; have e2 := (bW.cell (p := ⟨b, off + k * 7 + 2, none⟩) HC.out.1).trans HC.out.2.2.2.1; have e3 := (bW.cell (p := ⟨b, off + k * 7 + 3, none⟩) HC.out.1).trans HC.out.2.2.2.2.1; have e4 := (bW.cell (p := ⟨b, off + k * 7 + 4, none⟩) HC.out.1).trans HC.out.2.2.2.2.2.1; have e5 := (bW.cell (p := ⟨b, off + k * 7 + 5, none⟩) HC.out.1).trans HC.out.2.2.2.2.2.2.1; have e6 := (bW.cell (p := ⟨b, off + k * 7 + 6, none⟩) HC.out.1).trans HC.out.2.2.2.2.2.2.2
      cases cn
      · have HWv := Lib.hid (HW.out.trans (if_neg (by simp)))
        clear HW
        go_wp2_with fail
        refine (CC1.out _ bW).mono ?_
        rintro e w2 ⟨rfl, hbn⟩
        clear e0 e1 e2 e3 e4 e5 e6
        have bW := bW.st hbn; have rs := rs.st hbn; have rr := rr.st hbn
        have e0 := (bW.cell (p := ⟨b, off + k * 7, none⟩) HC.out.1).trans HC.out.2.1; have e1 := (bW.cell (p := ⟨b, off + k * 7 + 1, none⟩) HC.out.1).trans HC.out.2.2.1; have e2 := (bW.cell (p := ⟨b, off + k * 7 + 2, none⟩) HC.out.1).trans HC.out.2.2.2.1; have e3 := (bW.cell (p := ⟨b, off + k * 7 + 3, none⟩) HC.out.1).trans HC.out.2.2.2.2.1; have e4 := (bW.cell (p := ⟨b, off + k * 7 + 4, none⟩) HC.out.1).trans HC.out.2.2.2.2.2.1; have e5 := (bW.cell (p := ⟨b, off + k * 7 + 5, none⟩) HC.out.1).trans HC.out.2.2.2.2.2.2.1; have e6 := (bW.cell (p := ⟨b, off + k * 7 + 6, none⟩) HC.out.1).trans HC.out.2.2.2.2.2.2.2
        clear hbn CC1
        go_wp2_with fail
        refine (CR1.out _ bW).mono ?_
        rintro e w3 ⟨rfl, hbn⟩
        clear e0 e1 e2 e3 e4 e5 e6
        have bW := bW.st hbn; have rs := rs.st hbn; have rr := rr.st hbn
        have e0 := (bW.cell (p := ⟨b, off + k * 7, none⟩) HC.out.1).trans HC.out.2.1; have e1 := (bW.cell (p := ⟨b, off + k * 7 + 1, none⟩) HC.out.1).trans HC.out.2.2.1; have e2 := (bW.cell (p := ⟨b, off + k * 7 + 2, none⟩) HC.out.1).trans HC.out.2.2.2.1; have e3 := (bW.cell (p := ⟨b, off + k * 7 + 3, none⟩) HC.out.1).trans HC.out.2.2.2.2.1; have e4 := (bW.cell (p := ⟨b, off + k * 7 + 4, none⟩) HC.out.1).trans HC.out.2.2.2.2.2.1; have e5 := (bW.cell (p := ⟨b, off + k * 7 + 5, none⟩) HC.out.1).trans HC.out.2.2.2.2.2.2.1; have e6 := (bW.cell (p := ⟨b, off + k * 7 + 6, none⟩) HC.out.1).trans HC.out.2.2.2.2.2.2.2
        clear hbn CR1
        obtain ⟨Y3, hY3⟩ : ∃ Y, w3.alloc (.cells #[.string ⟨#[]⟩, .int .i64 0, .int .i64 0, .string ⟨#[]⟩, .string ⟨#[]⟩, .int .i64 0, .int .i64 0, .int .i64 0, .string ⟨#[]⟩, .int .i64 0, .int .i64 0] 29) = Y := ⟨_, rfl⟩
        have b3 : Below w3.heap.size w3 Y3 := by rw [← hY3]; exact (Below.refl _ w3).al _
        have BD0 : Blk Y3 w3.heap.size #[.string ⟨#[]⟩, .int .i64 0, .int .i64 0, .string ⟨#[]⟩, .string ⟨#[]⟩, .int .i64 0, .int .i64 0, .int .i64 0, .string ⟨#[]⟩, .int .i64 0, .int .i64 0] 29 := by rw [← hY3]; exact Blk.new w3 _ _
        have HR3 := Lib.hid rs
        have HR4 := Lib.hid rr
        have hle := Lib.hid bW.size
        clear rs rr
        clear e0 e1 e2 e3 e4 e5 e6
        by_cases h0 : cw = 0
        · have HST := Lib.hid (HS1.out.trans (show siftStep l ds (siftN l ds k) ⟨y1, y2, y3, y4, y5, y6, y7⟩ = (insF cmpSn s (siftN l ds k).1, (siftN l ds k).2) by unfold siftStep; rw [H4.out, HWv.out, if_neg (by simp [h0]), H3.out]))
          have t0 : (cw != 0) = false := by simp [h0]
          clear h0 HWv H3 H4 HS1 CIR1
          go_wp2_with (first | (refine wpList_boxStore rfl (ty := 29) (x := .tmp 9) (y := .tmp 37) rfl BD0 rfl rfl (by kernel_rfl) rfl (by kernel_rfl) ?_; intro wz BD hoz hbz; have b4 := hbz _ _ (Nat.le_refl _) b3; have bW := bW.st b4; have rs := HR3.out.st b4; have rr := HR4.out.st b4) | (refine wpList_boxLoad rfl (ty := 29) (x := .tmp 9) (cs := #[.string s.d.dev, .int .i64 s.d.seq, .int .i64 s.d.time, .string s.d.tag, .string s.d.pl, .int .i64 s.d.ax, .int .i64 s.d.sc, .int .i64 s.t, .string s.pt, .int .i64 s.lane, .int .i64 s.kind]) rfl BD rfl ⟨_, Try.underlying29, by kernel_rfl⟩ ?_))
          refine (CIS1.out _ rs).mono ?_
          rintro e w5 ⟨A5, c5, rfl, rs5, hbn⟩
          have bW := bW.st hbn
          have rr := rr.st hbn
          have rs := rs5
          clear hbn
          go_wp2_with fail
          go_roundw; (case rel => exact ⟨k + 1, _, _, _, _, HL.out, by go_num, by rw [HST.out], by rw [HST.out], by rw [HST.out]; exact rs, by rw [HST.out]; exact rr, bW⟩); (case measure => have := HL.out; simp [intOf]; omega)
        · have HST := Lib.hid (HS1.out.trans (show siftStep l ds (siftN l ds k) ⟨y1, y2, y3, y4, y5, y6, y7⟩ = ((siftN l ds k).1, insF cmpRj ⟨⟨y1, y2, y3, y4, y5, y6, y7⟩, cw⟩ (siftN l ds k).2) by unfold siftStep; rw [H4.out, HWv.out, if_pos h0]))
          have t0 : (cw != 0) = true := by simp [h0]
          clear h0 HWv H3 H4 HS1 CIS1
          go_wp2_with (first | (refine wpList_boxStore rfl (ty := 29) (x := .tmp 9) (y := .tmp 37) rfl BD0 rfl rfl (by kernel_rfl) rfl (by kernel_rfl) ?_; intro wz BD hoz hbz; have b4 := hbz _ _ (Nat.le_refl _) b3; have bW := bW.st b4; have rs := HR3.out.st b4; have rr := HR4.out.st b4; have e0 := (bW.cell (p := ⟨b, off + k * 7, none⟩) HC.out.1).trans HC.out.2.1; have e1 := (bW.cell (p := ⟨b, off + k * 7 + 1, none⟩) HC.out.1).trans HC.out.2.2.1; have e2 := (bW.cell (p := ⟨b, off + k * 7 + 2, none⟩) HC.out.1).trans HC.out.2.2.2.1; have e3 := (bW.cell (p := ⟨b, off + k * 7 + 3, none⟩) HC.out.1).trans HC.out.2.2.2.2.1; have e4 := (bW.cell (p := ⟨b, off + k * 7 + 4, none⟩) HC.out.1).trans HC.out.2.2.2.2.2.1; have e5 := (bW.cell (p := ⟨b, off + k * 7 + 5, none⟩) HC.out.1).trans HC.out.2.2.2.2.2.2.1; have e6 := (bW.cell (p := ⟨b, off + k * 7 + 6, none⟩) HC.out.1).trans HC.out.2.2.2.2.2.2.2))
          refine (CIR1.out cw _ rr).mono ?_
          rintro e w5 ⟨A5, c5, rfl, rr5, hbn⟩
          have bW := bW.st hbn
          have rs := rs.st hbn
          have rr := rr5
          clear hbn
          go_wp2_with fail
          go_roundw; (case rel => exact ⟨k + 1, _, _, _, _, HL.out, by go_num, by rw [HST.out], by rw [HST.out], by rw [HST.out]; exact rs, by rw [HST.out]; exact rr, bW⟩); (case measure => have := HL.out; simp [intOf]; omega)
      · have HWv := Lib.hid (HW.out.trans (if_pos rfl))
        have HST := Lib.hid (HS1.out.trans (show siftStep l ds (siftN l ds k) ⟨y1, y2, y3, y4, y5, y6, y7⟩ = ((siftN l ds k).1, insF cmpRj ⟨⟨y1, y2, y3, y4, y5, y6, y7⟩, 4⟩ (siftN l ds k).2) by unfold siftStep; rw [H4.out, HWv.out, if_pos (by decide)]))
        clear HW HWv H3 H4 HS1 CIS1 CR1
        go_wp2_with fail
        refine (CC1.out _ bW).mono ?_
        rintro e w2 ⟨rfl, hbn⟩
        clear e0 e1 e2 e3 e4 e5 e6
        have bW := bW.st hbn; have rs := rs.st hbn; have rr := rr.st hbn
        have e0 := (bW.cell (p := ⟨b, off + k * 7, none⟩) HC.out.1).trans HC.out.2.1; have e1 := (bW.cell (p := ⟨b, off + k * 7 + 1, none⟩) HC.out.1).trans HC.out.2.2.1; have e2 := (bW.cell (p := ⟨b, off + k * 7 + 2, none⟩) HC.out.1).trans HC.out.2.2.2.1; have e3 := (bW.cell (p := ⟨b, off + k * 7 + 3, none⟩) HC.out.1).trans HC.out.2.2.2.2.1; have e4 := (bW.cell (p := ⟨b, off + k * 7 + 4, none⟩) HC.out.1).trans HC.out.2.2.2.2.2.1; have e5 := (bW.cell (p := ⟨b, off + k * 7 + 5, none⟩) HC.out.1).trans HC.out.2.2.2.2.2.2.1; have e6 := (bW.cell (p := ⟨b, off + k * 7 + 6, none⟩) HC.out.1).trans HC.out.2.2.2.2.2.2.2
        clear hbn CC1
        go_wp2_with fail
        refine (CIR1.out 4 _ rr).mono ?_
        rintro e w5 ⟨A5, c5, rfl, rr5, hbn⟩
        have bW := bW.st hbn
        have rs := rs.st hbn
        have rr := rr5
        clear hbn
        go_wp2_with fail
        go_roundw; (case rel => exact ⟨k + 1, _, _, _, _, HL.out, by go_num, by rw [HST.out], by rw [HST.out], by rw [HST.out]; exact rs, by rw [HST.out]; exact rr, bW⟩); (case measure => have := HL.out; simp [intOf]; omega)
    · obtain rfl : k = ds.length := by omega
      have HN := Lib.hid (siftN_all l ds)
      have HN2 := Lib.hid (siftN_len l ds ds.length)
      go_wp2_with fail
      go_ret2
      exact ⟨_, _, As, Ar, cs, cr, HN.out, HN2.out.1, HN2.out.2, rfl, rs, rr, bW⟩
end Go.Proofs.Ytgkppjkmakomnaa
