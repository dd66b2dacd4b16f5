/- The generic find, at devices; device.Find, walked. -/
import Derived.Test.YtgkppjkmakomnaaJDetSiftC
import Derived.Test.YtgkppjkmakomnaaJStabList
import Derived.Test.YtgkppjkmakomnaaBlk
import Derived.Test.YtgkppjkmakomnaaDevCopy
import Derived.Test.YtgkppjkmakomnaaDevRFind
namespace Go.Proofs.Ytgkppjkmakomnaa
open Go.RowKit Go.Lib

set_option maxRecDepth 100000 in
set_option maxHeartbeats 4000000 in
theorem findF_D (p : Dv → Bool) (g : Nat) (lb : Array Value) (eg : ∀ args w, (callFunc g args).run Try.prog w = .ok (.enter g args) w) {A : Option Addr} (c : Nat) {l : List Dv} {w : World}
    (hp : ∀ (W : World) (x : Dv), Below w.heap.size w W → Calls Try.prog g (#[.agg (encD x).toArray] ++ lb) W fun e w' => e = .returned (.bool (p x)) ∧ Below W.heap.size W w')
    (h : Rd encD 6 w w.heap.size A l) (hl : l.length ≤ 100000000000) :
    Calls Try.prog 55 #[.slice A l.length c, .func (.func g) #[] lb] w fun e w' => ∃ d, e = .returned (.tuple #[DV d, .bool (l.any p)]) ∧ (l.find? p).getD zeroD = d ∧ Below w.heap.size w w' := by
  obtain ⟨Y, hY⟩ : ∃ Y, w.alloc (.cells #[.string ⟨#[]⟩, .string ⟨#[]⟩, .int .i64 0, .int .i64 0, .slice none 0 0, .slice none 0 0] 59) = Y := ⟨_, rfl⟩
  have hb0 : Below w.heap.size w Y := by rw [← hY]; exact (Below.refl _ w).al _
  have bZ : Blk Y w.heap.size #[.string ⟨#[]⟩, .string ⟨#[]⟩, .int .i64 0, .int .i64 0, .slice none 0 0, .slice none 0 0] 59 := by rw [← hY]; exact Blk.new w _ _
  have C := Lib.hid (index_D p g lb eg c (w := Y) (fun W x hW => hp W x (hb0.st hW)) (h.st hb0) hl)
  have H := Lib.hid (h.st hb0)
  clear h hp eg
  go_enter Try.func55, Try.ntmps55
  go_wp2_with fail
  refine C.out.mono ?_
  rintro e w1 ⟨⟨i, rfl, hi⟩, hbn⟩
  have bZ := bZ.below hbn bZ.lt
  have hb1 := hb0.st hbn
  have hr := H.out.st hbn
  have hlt := bZ.lt
  clear C H
  rcases hi with ⟨rfl, hno⟩ | ⟨k, d, hx, rfl, hpd, hno⟩
  · obtain ⟨e1, e2⟩ := IdxR.any_no hno
    have R1 := Lib.hid e1
    have R2 := Lib.hid e2
    clear hno e1 e2 hr
    obtain ⟨Y3, hY3⟩ : ∃ Y, w1.alloc (.cells #[.string ⟨#[]⟩, .string ⟨#[]⟩, .int .i64 0, .int .i64 0, .slice none 0 0, .slice none 0 0] 59) = Y := ⟨_, rfl⟩
    have b3 : Blk Y3 w.heap.size #[.string ⟨#[]⟩, .string ⟨#[]⟩, .int .i64 0, .int .i64 0, .slice none 0 0, .slice none 0 0] 59 := by rw [← hY3]; exact bZ.alloc _
    have n3 : Blk Y3 w1.heap.size #[.string ⟨#[]⟩, .string ⟨#[]⟩, .int .i64 0, .int .i64 0, .slice none 0 0, .slice none 0 0] 59 := by rw [← hY3]; exact Blk.new w1 _ _
    have hb3 : Below w.heap.size w Y3 := by rw [← hY3]; exact hb1.al _
    have m0 : World.cell? Y3 ⟨w1.heap.size, 0, none⟩ = some (.string ⟨#[]⟩) := n3.cell 0 rfl
    have m1 : World.cell? Y3 ⟨w1.heap.size, 1, none⟩ = some (.string ⟨#[]⟩) := n3.cell 1 rfl
    have m2 : World.cell? Y3 ⟨w1.heap.size, 2, none⟩ = some (.int .i64 0) := n3.cell 2 rfl
    have m3 : World.cell? Y3 ⟨w1.heap.size, 3, none⟩ = some (.int .i64 0) := n3.cell 3 rfl
    have m4 : World.cell? Y3 ⟨w1.heap.size, 4, none⟩ = some (.slice none 0 0) := n3.cell 4 rfl
    have m5 : World.cell? Y3 ⟨w1.heap.size, 5, none⟩ = some (.slice none 0 0) := n3.cell 5 rfl
    have q0 : World.cell? Y3 ⟨w.heap.size, 0, none⟩ = some (.string ⟨#[]⟩) := b3.cell 0 rfl; have q1 : World.cell? Y3 ⟨w.heap.size, 1, none⟩ = some (.string ⟨#[]⟩) := b3.cell 1 rfl; have q2 : World.cell? Y3 ⟨w.heap.size, 2, none⟩ = some (.int .i64 0) := b3.cell 2 rfl; have q3 : World.cell? Y3 ⟨w.heap.size, 3, none⟩ = some (.int .i64 0) := b3.cell 3 rfl; have q4 : World.cell? Y3 ⟨w.heap.size, 4, none⟩ = some (.slice none 0 0) := b3.cell 4 rfl; have q5 : World.cell? Y3 ⟨w.heap.size, 5, none⟩ = some (.slice none 0 0) := b3.cell 5 rfl; have f0 := b3.frozen 0; have f1 := b3.frozen 1; have f2 := b3.frozen 2; have f3 := b3.frozen 3; have f4 := b3.frozen 4; have f5 := b3.frozen 5
    go_wp2_with fail
    refine bodyPost_ret (v := .tuple #[DV zeroD, .bool false]) (by simp [DV, zeroD, results, Try.results55, go_sem, q0, q1, q2, q3, q4, q5]) rfl ?_
    refine ⟨zeroD, by rw [R1.out], by rw [R2.out]; rfl, ?_⟩
    repeat refine Below.setCell ?_ (by simp) _
    exact hb3
  · obtain ⟨e1, e2⟩ := IdxR.any_at hx hpd hno
    have R1 := Lib.hid e1
    have R2 := Lib.hid e2
    have hkl := (List.getElem?_eq_some_iff.1 hx).1
    obtain ⟨b, off, d', hA, hg, hx', d0, d1, d2, d3, d4, d5⟩ := hr.d hkl
    subst hA
    rw [hx] at hx'
    obtain rfl := Option.some.inj hx'
    have hk0 : (0 : Int) ≤ (k : Int) := by omega
    have hk1 : (k : Int) < (l.length : Int) := by omega
    clear hno e1 e2 hr hx hx' hpd
    have q0 : World.cell? w1 ⟨w.heap.size, 0, none⟩ = some (.string ⟨#[]⟩) := bZ.cell 0 rfl; have q1 : World.cell? w1 ⟨w.heap.size, 1, none⟩ = some (.string ⟨#[]⟩) := bZ.cell 1 rfl; have q2 : World.cell? w1 ⟨w.heap.size, 2, none⟩ = some (.int .i64 0) := bZ.cell 2 rfl; have q3 : World.cell? w1 ⟨w.heap.size, 3, none⟩ = some (.int .i64 0) := bZ.cell 3 rfl; have q4 : World.cell? w1 ⟨w.heap.size, 4, none⟩ = some (.slice none 0 0) := bZ.cell 4 rfl; have q5 : World.cell? w1 ⟨w.heap.size, 5, none⟩ = some (.slice none 0 0) := bZ.cell 5 rfl; have f0 := bZ.frozen 0; have f1 := bZ.frozen 1; have f2 := bZ.frozen 2; have f3 := bZ.frozen 3; have f4 := bZ.frozen 4; have f5 := bZ.frozen 5
    go_wp2_with fail
    refine bodyPost_ret (v := .tuple #[DV d, .bool true]) (by simp [DV, results, Try.results55, go_sem, q0, q1, q2, q3, q4, q5]) rfl ?_
    refine ⟨d, by rw [R1.out], by rw [R2.out]; rfl, ?_⟩
    repeat refine Below.setCell ?_ (by simp) _
    exact hb1

theorem findC_any (x : Dv) (nm : ByteArray) (b : Nat) (W : World) (hb : b < W.heap.size) (hc : W.cell? ⟨b, 0, none⟩ = some (.string nm)) :
    Calls Try.prog 56 #[DV x, .pointer (some ⟨b, 0, none⟩)] W fun e w' => e = .returned (.bool (eqS x.name nm)) ∧ Below W.heap.size W w' := by
  obtain ⟨nm1, pt, kd, ln, oA, oc, os, dA, dc, ds⟩ := x
  simp only [DV]
  have hbel := (Below.refl W.heap.size W).al (.cells #[.string nm1, .string pt, .int .i64 kd, .int .i64 ln, .slice oA os.length oc, .slice dA ds.length dc] 59)
  have hb2 : b ≠ W.heap.size := by omega
  go_enter Try.func56, Try.ntmps56
  go_wp2
  go_ret
  exact ⟨ret_bool rfl, hbel⟩
set_option maxRecDepth 100000 in
set_option maxHeartbeats 8000000 in
theorem dfind_any {A : Option Addr} (c : Nat) {l : List Dv} {nm : ByteArray} {w : World} (h : Rd encD 6 w w.heap.size A l) (hz : DsOk w l) (hsm : ∀ d ∈ l, smallD d) (hl : l.length ≤ 100000000000) :
    Calls Try.prog 30 #[.slice A l.length c, .string nm] w fun e w' => FindDR l nm w w' e := by
  have eg : ∀ args w, (callFunc 56 args).run Try.prog w = .ok (.enter 56 args) w := enters_of Try.func56 (by kernel_rfl) rfl
  obtain ⟨Y1, hY1⟩ : ∃ Y, w.alloc (.cells #[.string nm] 9) = Y := ⟨_, rfl⟩
  obtain ⟨Y2, hY2⟩ : ∃ Y, Y1.alloc (.cells #[.string ⟨#[]⟩, .string ⟨#[]⟩, .int .i64 0, .int .i64 0, .slice none 0 0, .slice none 0 0] 59) = Y := ⟨_, rfl⟩
  have bW : Below w.heap.size w Y2 := by rw [← hY2, ← hY1]; exact ((Below.refl _ w).al _).al _
  have sY1 : Y1.heap.size = w.heap.size + 1 := by rw [← hY1]; simp
  have bN : Blk Y2 w.heap.size #[.string nm] 9 := by rw [← hY2, ← hY1]; exact (Blk.new w _ _).alloc _
  have bR : Blk Y2 (w.heap.size + 1) #[.string ⟨#[]⟩, .string ⟨#[]⟩, .int .i64 0, .int .i64 0, .slice none 0 0, .slice none 0 0] 59 := by rw [← hY2, ← sY1]; exact Blk.new Y1 _ _
  have hne : w.heap.size < Y2.heap.size := bN.lt
  have C1 := Lib.hid (findF_D (fun d => eqS d.name nm) 56 #[.pointer (some ⟨w.heap.size, 0, none⟩)] eg c (w := Y2)
    (fun W x hW => findC_any x nm w.heap.size W (Nat.lt_of_lt_of_le hne hW.size) ((hW.cell (p := ⟨w.heap.size, 0, none⟩) hne).trans (bN.cell 0 rfl))) (h.st bW) hl)
  have HF : Hid (∀ (w1 : World) (d : Dv), Below w.heap.size w w1 → (l.find? fun d => eqS d.name nm).getD zeroD = d → DOk w1 d ∧ smallD d) := by
    intro w1 d hb1 hd
    cases hq : l.find? (fun d => eqS d.name nm) with
    | none =>
      rw [hq] at hd
      subst hd
      exact ⟨⟨Rd.nil, Rd.nil⟩, by simp [smallD, zeroD]⟩
    | some y =>
      rw [hq] at hd
      obtain rfl : y = d := hd
      have hm := List.mem_of_find?_eq_some hq
      exact ⟨(hz y hm).st hb1, hsm y hm⟩
  have HR : Hid (∀ (w1 : World) (d d' : Dv), (l.find? fun d => eqS d.name nm).getD zeroD = d → Cpy d d' → DOk w1 d' → Below w.heap.size w w1 → FindDR l nm w w1 (.returned (.tuple #[DV d', .bool (l.any fun d => eqS d.name nm)]))) := by
    intro w1 d d' hd hc hok hb
    refine ⟨d', ?_, ?_, hok, hb⟩
    · rw [show (findD l nm).isSome = l.any fun d => eqS d.name nm from by unfold findD; rw [Bool.eq_iff_iff, List.find?_isSome, List.any_eq_true]]
    · rw [hc.val, ← hd]; rfl
  generalize (l.any fun d => eqS d.name nm) = fb at *
  clear h hz hsm eg
  have ltR := bR.lt
  go_enter Try.func30, Try.ntmps30
  go_wp2_with fail
  refine C1.out.mono ?_
  rintro e w1 ⟨d, rfl, hd, hbn⟩
  have HD := Lib.hid hd
  have bR1 := bR.below hbn bR.lt
  have bW1 := bW.st hbn
  obtain ⟨hdo, hds⟩ := HF.out w1 d bW1 hd
  clear hd HF C1
  have HX := Lib.hid (fun (w2 : World) (d' : Dv) => HR.out w2 d d' HD.out)
  have lt1 := bR1.lt
  clear HR HD bN bR bW
  obtain ⟨nm1, pt, kd, ln, oA, oc, os, dA, dc, ds⟩ := d
  have C2 := Lib.hid (fun (X : World) (hX : Below w1.heap.size w1 X) => copied_any (⟨nm1, pt, kd, ln, oA, oc, os, dA, dc, ds⟩ : Dv) (hdo.st hX) hds.1 hds.2)
  clear hdo hds
  simp only [DV] at *
  obtain ⟨Y3, hY3⟩ : ∃ Y, w1.alloc (.cells #[.string ⟨#[]⟩, .string ⟨#[]⟩, .int .i64 0, .int .i64 0, .slice none 0 0, .slice none 0 0] 59) = Y := ⟨_, rfl⟩
  have b3 : Blk Y3 (w.heap.size + 1) #[.string ⟨#[]⟩, .string ⟨#[]⟩, .int .i64 0, .int .i64 0, .slice none 0 0, .slice none 0 0] 59 := by rw [← hY3]; exact bR1.alloc _
  have n3 : Blk Y3 w1.heap.size #[.string ⟨#[]⟩, .string ⟨#[]⟩, .int .i64 0, .int .i64 0, .slice none 0 0, .slice none 0 0] 59 := by rw [← hY3]; exact Blk.new w1 _ _
  have g3 : Below w1.heap.size w1 Y3 := by rw [← hY3]; exact (Below.refl _ w1).al _
  have lt3 : w1.heap.size < Y3.heap.size := n3.lt
  have q0 : World.cell? Y3 ⟨w1.heap.size, 0, none⟩ = some (.string ⟨#[]⟩) := n3.cell 0 rfl; have q1 : World.cell? Y3 ⟨w1.heap.size, 1, none⟩ = some (.string ⟨#[]⟩) := n3.cell 1 rfl; have q2 : World.cell? Y3 ⟨w1.heap.size, 2, none⟩ = some (.int .i64 0) := n3.cell 2 rfl; have q3 : World.cell? Y3 ⟨w1.heap.size, 3, none⟩ = some (.int .i64 0) := n3.cell 3 rfl; have q4 : World.cell? Y3 ⟨w1.heap.size, 4, none⟩ = some (.slice none 0 0) := n3.cell 4 rfl; have q5 : World.cell? Y3 ⟨w1.heap.size, 5, none⟩ = some (.slice none 0 0) := n3.cell 5 rfl; have f0 := n3.frozen 0; have f1 := n3.frozen 1; have f2 := n3.frozen 2; have f3 := n3.frozen 3; have f4 := n3.frozen 4; have f5 := n3.frozen 5
  obtain ⟨X, hX⟩ : ∃ X, (((((Y3.setCell ⟨w1.heap.size, 0, none⟩ (.string nm1)).setCell ⟨w1.heap.size, 1, none⟩ (.string pt)).setCell ⟨w1.heap.size, 2, none⟩ (.int .i64 kd)).setCell ⟨w1.heap.size, 3, none⟩ (.int .i64 ln)).setCell ⟨w1.heap.size, 4, none⟩ (.slice oA os.length oc)).setCell ⟨w1.heap.size, 5, none⟩ (.slice dA ds.length dc) = X := ⟨_, rfl⟩
  have gX : Below w1.heap.size w1 X := by rw [← hX]; exact (((((g3.setCell (Nat.le_refl _) _).setCell (Nat.le_refl _) _).setCell (Nat.le_refl _) _).setCell (Nat.le_refl _) _).setCell (Nat.le_refl _) _).setCell (Nat.le_refl _) _
  have hne1 : w.heap.size + 1 ≠ w1.heap.size := by omega
  have bX : Blk X (w.heap.size + 1) #[.string ⟨#[]⟩, .string ⟨#[]⟩, .int .i64 0, .int .i64 0, .slice none 0 0, .slice none 0 0] 59 := by rw [← hX]; exact (((((b3.other hne1 _).other hne1 _).other hne1 _).other hne1 _).other hne1 _).other hne1 _
  have nX : Blk X w1.heap.size #[.string nm1, .string pt, .int .i64 kd, .int .i64 ln, .slice oA os.length oc, .slice dA ds.length dc] 59 := by rw [← hX]; exact (((((n3.set 0 (.string nm1)).set 1 (.string pt)).set 2 (.int .i64 kd)).set 3 (.int .i64 ln)).set 4 (.slice oA os.length oc)).set 5 (.slice dA ds.length dc)
  have r0 : World.cell? X ⟨w1.heap.size, 0, none⟩ = some (.string nm1) := nX.cell 0 rfl
  have r1 : World.cell? X ⟨w1.heap.size, 1, none⟩ = some (.string pt) := nX.cell 1 rfl
  have r2 : World.cell? X ⟨w1.heap.size, 2, none⟩ = some (.int .i64 kd) := nX.cell 2 rfl
  have r3 : World.cell? X ⟨w1.heap.size, 3, none⟩ = some (.int .i64 ln) := nX.cell 3 rfl
  have r4 : World.cell? X ⟨w1.heap.size, 4, none⟩ = some (.slice oA os.length oc) := nX.cell 4 rfl
  have r5 : World.cell? X ⟨w1.heap.size, 5, none⟩ = some (.slice dA ds.length dc) := nX.cell 5 rfl
  have ltX := bX.lt
  go_wp2_with fail
  refine (C2.out _ gX).mono ?_
  rintro e w2 ⟨d', rfl, hcp, hdo, hb2⟩
  have b4 := bX.below hb2 bX.lt
  have bW2 := bW1.st (gX.st hb2)
  have HY := Lib.hid (fun w3 => HX.out w3 d' hcp)
  have lt4 := b4.lt
  have HO := Lib.hid (show DOwn w2 (w.heap.size + 2) d' from hdo.mono (by omega))
  clear HX hcp hdo C2 nX bX b3 n3 r0 r1 r2 r3 r4 r5 q0 q1 q2 q3 q4 q5 f0 f1 f2 f3 f4 f5 hX hY3
  obtain ⟨nm2, pt2, kd2, ln2, oA2, oc2, os2, dA2, dc2, ds2⟩ := d'
  simp only at *
  have q0 : World.cell? w2 ⟨w.heap.size + 1, 0, none⟩ = some (.string ⟨#[]⟩) := b4.cell 0 rfl; have q1 : World.cell? w2 ⟨w.heap.size + 1, 1, none⟩ = some (.string ⟨#[]⟩) := b4.cell 1 rfl; have q2 : World.cell? w2 ⟨w.heap.size + 1, 2, none⟩ = some (.int .i64 0) := b4.cell 2 rfl; have q3 : World.cell? w2 ⟨w.heap.size + 1, 3, none⟩ = some (.int .i64 0) := b4.cell 3 rfl; have q4 : World.cell? w2 ⟨w.heap.size + 1, 4, none⟩ = some (.slice none 0 0) := b4.cell 4 rfl; have q5 : World.cell? w2 ⟨w.heap.size + 1, 5, none⟩ = some (.slice none 0 0) := b4.cell 5 rfl; have f0 := b4.frozen 0; have f1 := b4.frozen 1; have f2 := b4.frozen 2; have f3 := b4.frozen 3; have f4 := b4.frozen 4; have f5 := b4.frozen 5
  go_wp2_with fail
  refine bodyPost_ret (v := .tuple #[.agg #[.string nm2, .string pt2, .int .i64 kd2, .int .i64 ln2, .slice oA2 os2.length oc2, .slice dA2 ds2.length dc2], .bool fb]) (by simp [results, Try.results30, go_sem, q0, q1, q2, q3, q4, q5]) rfl ?_
  refine HY.out _ ?_ ?_
  · refine DOwn.ok (base := w.heap.size + 2) ⟨?_, ?_⟩
    · repeat refine Own.other ?_ (by simp) _
      exact HO.out.1
    · repeat refine Own.other ?_ (by simp) _
      exact HO.out.2
  · repeat refine Below.setCell ?_ (by simp) _
    exact bW2
end Go.Proofs.Ytgkppjkmakomnaa
