/- The statement's example, walked. -/
import Derived.Test.YtelchfijalkibaaGreatDoorTrpP
import Derived.Test.YtelchfijalkibaaGreatDoorCapApply
import Derived.Deep.DeepCutAuto
set_option linter.unusedSimpArgs false
set_option linter.unusedSimpArgs false
namespace Go.Proofs.YtelchfijalkibaaGreatDoor
open Go.RowKit Go.Lib

def awR0 : Rt := ⟨⟨#[111]⟩, ⟨#[]⟩, 1, ⟨#[]⟩, 400⟩
def awT (b : Nat) : Ta := ⟨0, 1000, none, 0, [], some ⟨b, 0, none⟩, 1, [awR0]⟩
def awS0 : Stp := ⟨⟨#[111]⟩, 100, ⟨#[99, 49, 46, 53]⟩⟩
def awI : ByteArray := ⟨#[99, 49, 46, 53]⟩
def awVh : ByteArray := ⟨#[65, 66, 49, 50]⟩
def awSy : ByteArray := ⟨#[109]⟩
def awV : CV := ⟨⟨#[116, 58, 99, 49, 46, 53]⟩, awVh, awSy, 1, 100, [(baseS, 400)], 400⟩
def awCp : Cp := ⟨⟨#[100, 97, 121]⟩, ⟨#[]⟩, 1, 300⟩
theorem best_nil (p : Int) : BestR [] p [] := by
  refine ⟨Cand.nil [], fun c hc => ?_⟩
  cases c with
  | nil => exact betB_irr [] p []
  | cons i c => have := hc.lt i (by simp); simp at this
theorem aw_trip (b : Nat) {v : CV} {e : Int} (h : TripR [awT b] [1000] [] awI awVh awSy 1 [awS0] 0 0 v e) : v = awV ∧ e = 0 := by
  have h1 : (baseM [awT b] 1 [awS0]) = (400, 0) := by kernel_rfl
  have h2 : nearP 400 (partM [1000] 0) = (400, 0) := by kernel_rfl
  have k := TripR.ok (ts := [awT b]) (qs := [1000]) (dcs := []) (xi := awI) (xv := awVh) (xy := awSy) (cl := 1) (ss := [awS0]) (lv := 0) (er := 0) awS0 [] rfl (by rw [h1]) (by rw [h1, h2]) (best_nil _)
  obtain ⟨e1, e2⟩ := h.unique k
  refine ⟨e1.trans ?_, e2⟩
  rw [h1, h2]
  kernel_rfl
theorem aw_apply : applyE [awCp] [awV] = 0 ∧ paidL [awCp] [awV] = [300] := ⟨by kernel_rfl, by kernel_rfl⟩
set_option maxRecDepth 100000 in
set_option maxHeartbeats 16000000 in
theorem awake16_any {w : World} (hm : Mon w) : Calls Tryz.prog 5 #[] w fun e w' => e = .returned (.bool true) ∧ Below w.heap.size w w' := by
  obtain ⟨Y1, hY1⟩ : ∃ Y, w.alloc (.cells #[.string ⟨#[111]⟩, .string ⟨#[]⟩, .int .i64 1, .string ⟨#[]⟩, .int .i64 400] 80) = Y := ⟨_, rfl⟩
  obtain ⟨Y2, hY2⟩ : ∃ Y, Y1.alloc (.cells #[.int .i64 0, .int .i64 1000, .slice none 0 0, .slice (some ⟨w.heap.size, 0, none⟩) 1 1] 77) = Y := ⟨_, rfl⟩
  obtain ⟨Y3, hY3⟩ : ∃ Y, Y2.alloc (.cells #[.int .i64 1000] 3) = Y := ⟨_, rfl⟩
  obtain ⟨Y4, hY4⟩ : ∃ Y, Y3.alloc (.cells #[.slice none 0 0, .slice none 0 0, .slice none 0 0, .slice none 0 0, .slice none 0 0, .slice none 0 0, .int .i64 0, .int .i64 0, .slice none 0 0, .int .i64 0, .slice none 0 0, .slice none 0 0, .slice none 0 0, .slice none 0 0, .slice none 0 0, .slice none 0 0, .slice none 0 0, .slice none 0 0, .slice none 0 0, .slice none 0 0, .slice none 0 0, .slice none 0 0, .int .i64 0, .slice none 0 0, .string ⟨#[]⟩] 46) = Y := ⟨_, rfl⟩
  have s1 : Y1.heap.size = (w.heap.size + 1) := by rw [← hY1]; simp
  have s2 : Y2.heap.size = (w.heap.size + 1 + 1) := by rw [← hY2, ← s1]; simp
  have s3 : Y3.heap.size = (w.heap.size + 1 + 1 + 1) := by rw [← hY3, ← s2]; simp
  have n1 : Below Y1.heap.size Y1 Y2 := by rw [← hY2]; exact (Below.refl _ _).al _
  have n2 : Below Y2.heap.size Y2 Y3 := by rw [← hY3]; exact (Below.refl _ _).al _
  have n3 : Below Y3.heap.size Y3 Y4 := by rw [← hY4]; exact (Below.refl _ _).al _
  have n0 : Below w.heap.size w Y1 := by rw [← hY1]; exact (Below.refl _ _).al _
  have BZ : Blk Y4 (w.heap.size + 1 + 1 + 1) #[.slice none 0 0, .slice none 0 0, .slice none 0 0, .slice none 0 0, .slice none 0 0, .slice none 0 0, .int .i64 0, .int .i64 0, .slice none 0 0, .int .i64 0, .slice none 0 0, .slice none 0 0, .slice none 0 0, .slice none 0 0, .slice none 0 0, .slice none 0 0, .slice none 0 0, .slice none 0 0, .slice none 0 0, .slice none 0 0, .slice none 0 0, .slice none 0 0, .int .i64 0, .slice none 0 0, .string ⟨#[]⟩] 46 := by rw [← hY4, ← s3]; exact Blk.new Y3 _ _
  have HALL : Hid (∀ V4, (∀ B w0, B ≤ (w.heap.size + 1 + 1 + 1) → Below B w0 Y4 → Below B w0 V4) → Below w.heap.size w V4 ∧ Rd encTa 4 V4 V4.heap.size (some ⟨(w.heap.size + 1), 0, none⟩) [awT w.heap.size] ∧ Rd encRt 5 V4 V4.heap.size (some ⟨w.heap.size, 0, none⟩) [awR0] ∧ Rd encI 1 V4 V4.heap.size (some ⟨(w.heap.size + 1 + 1), 0, none⟩) [1000]) := Lib.hid (by
    intro V4 hbz
    have n34 := hbz _ _ (by omega) n3
    have n24 := n2.st n34
    have n14 := n1.st n24
    refine ⟨n0.st n14, (show Rd encTa 4 Y2 Y2.heap.size (some ⟨(w.heap.size + 1), 0, none⟩) [awT w.heap.size] by rw [← hY2, ← s1]; exact Rd.lit Y1 _ encTa_ok rfl (by simp)).st n24, (show Rd encRt 5 Y1 Y1.heap.size (some ⟨w.heap.size, 0, none⟩) [awR0] by rw [← hY1]; exact Rd.lit w _ encRt_ok rfl (by simp)).st n14, (show Rd encI 1 Y3 Y3.heap.size (some ⟨(w.heap.size + 1 + 1), 0, none⟩) [1000] by rw [← hY3, ← s2]; exact Rd.lit Y2 _ encI_ok rfl (by simp)).st n34⟩)
  have HM := Lib.hid hm
  clear n0 n1 n2 n3 hm
  go_enter Tryz.func5, Tryz.ntmps5
  go_wp2_with (first | (refine wpList_boxStore rfl (ty := 46) (x := .tmp 1) (y := .tmp 14) (cells := #[.slice none 0 0, .slice none 0 0, .slice none 0 0, .slice none 0 0, .slice none 0 0, .slice none 0 0, .int .i64 0, .int .i64 0, .slice (some ⟨w.heap.size + 1, 0, none⟩) 1 1, .int .i64 60, .slice none 0 0, .slice none 0 0, .slice (some ⟨w.heap.size + 1 + 1, 0, none⟩) 1 1, .slice none 0 0, .slice none 0 0, .slice none 0 0, .slice none 0 0, .slice none 0 0, .slice none 0 0, .slice none 0 0, .slice none 0 0, .slice none 0 0, .int .i64 0, .slice none 0 0, .string ⟨#[]⟩]) rfl BZ rfl rfl (by kernel_rfl) rfl (by kernel_rfl) ?_; intro V4 BC hoz hbz; have BCx := BC.alloc (.cells #[.string ⟨#[111]⟩, .int .i64 100, .string ⟨#[99, 49, 46, 53]⟩] 82); have BCy := BCx.alloc (.cells #[.string ⟨#[99, 49, 46, 53]⟩, .string ⟨#[65, 66, 49, 50]⟩, .string ⟨#[109]⟩, .int .i64 1, .slice (some ⟨V4.heap.size, 0, none⟩) 1 1] 53)) | (refine wpList_boxLoad rfl (ty := 46) (x := .tmp 1) (cs := #[.slice none 0 0, .slice none 0 0, .slice none 0 0, .slice none 0 0, .slice none 0 0, .slice none 0 0, .int .i64 0, .int .i64 0, .slice (some ⟨w.heap.size + 1, 0, none⟩) 1 1, .int .i64 60, .slice none 0 0, .slice none 0 0, .slice (some ⟨w.heap.size + 1 + 1, 0, none⟩) 1 1, .slice none 0 0, .slice none 0 0, .slice none 0 0, .slice none 0 0, .slice none 0 0, .slice none 0 0, .slice none 0 0, .slice none 0 0, .slice none 0 0, .int .i64 0, .slice none 0 0, .string ⟨#[]⟩]) rfl BCy rfl ⟨_, Tryz.underlying46, by kernel_rfl⟩ ?_))
  obtain ⟨bW, rT, rR, rQ⟩ := HALL.out V4 hbz
  clear hoz hbz HALL BZ hY1 hY2 hY3 hY4 BCx BCy s1 s2 s3
  obtain ⟨Y5, hY5⟩ : ∃ Y, V4.alloc (.cells #[.string ⟨#[111]⟩, .int .i64 100, .string ⟨#[99, 49, 46, 53]⟩] 82) = Y := ⟨_, rfl⟩
  obtain ⟨Y6, hY6⟩ : ∃ Y, Y5.alloc (.cells #[.string ⟨#[99, 49, 46, 53]⟩, .string ⟨#[65, 66, 49, 50]⟩, .string ⟨#[109]⟩, .int .i64 1, .slice (some ⟨V4.heap.size, 0, none⟩) 1 1] 53) = Y := ⟨_, rfl⟩
  have s5 : Y5.heap.size = V4.heap.size + 1 := by rw [← hY5]; simp
  rw [hY5, hY6]
  have n4 : Below V4.heap.size V4 Y5 := by rw [← hY5]; exact (Below.refl _ _).al _
  have n5 : Below Y5.heap.size Y5 Y6 := by rw [← hY6]; exact (Below.refl _ _).al _
  have n46 := n4.st n5
  have bW := bW.st n46
  have rS : Rd encSp 3 Y6 Y6.heap.size (some ⟨V4.heap.size, 0, none⟩) [awS0] := (show Rd encSp 3 Y5 Y5.heap.size (some ⟨V4.heap.size, 0, none⟩) [awS0] by rw [← hY5]; exact Rd.lit V4 _ encSp_ok rfl (by simp)).st n5
  have rT := rT.st n46
  have rR := rR.st n46
  have rQ := rQ.st n46
  have CT := ptrip_any (tA := some ⟨(w.heap.size + 1), 0, none⟩) (uA := none) (dA := none) (qA := some ⟨(w.heap.size + 1 + 1), 0, none⟩) (kA := none) (xA := some ⟨V4.heap.size, 0, none⟩) 1 0 0 1 0 1 60 (.slice none 0 0) (.slice none 0 0) (.slice none 0 0) (.slice none 0 0) (.slice none 0 0) (.slice none 0 0) (.int .i64 0) (.int .i64 0) (.slice none 0 0) (.slice none 0 0) (.slice none 0 0) (.slice none 0 0) (.slice none 0 0) (.slice none 0 0) (.slice none 0 0) (.slice none 0 0) (.int .i64 0) (.slice none 0 0) (.string ⟨#[]⟩) awI awVh awSy 1 0 0 (ts := [awT w.heap.size]) (us := []) (ds := []) (qs := [1000]) (dcs := []) (ss := [awS0]) (w := Y6)
    rT (fun y hy => by rw [List.mem_singleton] at hy; subst hy; exact ⟨⟨Rd.nil, rR, by simp [awT], by simp [awT]⟩, by simp [awT, TaSm]⟩) (by simp) (fun x hx y hy => by rw [List.mem_singleton] at hx; subst hx; simp [awT] at hy; subst hy; simp [RtC, awR0]) ⟨by simp, by omega, by omega, rfl, rfl, fun k u d h => by simp at h, fun k v u v2 d h => by simp at h, fun x hx => by simp at hx; subst hx; omega⟩ Rd.nil Rd.nil rQ Rd.nil ⟨by simp, LOkTo.zero []⟩ rS (by simp) (by simp) (by show (4 : Nat) ≤ _; omega)
  have CT := Lib.hid CT
  have HBW := Lib.hid bW
  clear rT rR rQ rS n4 n5 n46 bW hY5 hY6 s5
  refine CT.out.mono ?_
  rintro e W1 ⟨v, er, A, c, hR, rfl, hrd, hbn⟩
  obtain ⟨rfl, rfl⟩ := aw_trip _ hR
  have HB1 := Lib.hid (HBW.out.st hbn)
  simp only [CHV]
  clear hR hrd hbn CT
  obtain ⟨W2, hW2⟩ : ∃ Y, W1.alloc (.cells #[.string awV.key, .string awV.veh, .string awV.sys, .int .i64 awV.cls, .int .i64 awV.tm, .slice A awV.lns.length c, .int .i64 awV.ct] 57) = Y := ⟨_, rfl⟩
  obtain ⟨W3, hW3⟩ : ∃ Y, W2.alloc (.cells #[.string ⟨#[100, 97, 121]⟩, .string ⟨#[]⟩, .int .i64 1, .int .i64 300] 65) = Y := ⟨_, rfl⟩
  obtain ⟨W4, hW4⟩ : ∃ Y, W3.alloc (.cells #[.string awV.key, .string awV.veh, .string awV.sys, .int .i64 awV.cls, .int .i64 awV.tm, .slice A awV.lns.length c, .int .i64 awV.ct] 57) = Y := ⟨_, rfl⟩
  have s2 : W2.heap.size = W1.heap.size + 1 := by rw [← hW2]; simp
  have s3 : W3.heap.size = W1.heap.size + 1 + 1 := by rw [← hW3]; simp [s2]
  have b4 : Below W1.heap.size W1 W4 := by rw [← hW4, ← hW3, ← hW2]; exact (((Below.refl _ _).al _).al _).al _
  have BV3 : Blk W3 W1.heap.size #[.string awV.key, .string awV.veh, .string awV.sys, .int .i64 awV.cls, .int .i64 awV.tm, .slice A awV.lns.length c, .int .i64 awV.ct] 57 := by rw [← hW3, ← hW2]; exact (Blk.new W1 _ _).alloc _
  have BV4 : Blk W4 W1.heap.size #[.string awV.key, .string awV.veh, .string awV.sys, .int .i64 awV.cls, .int .i64 awV.tm, .slice A awV.lns.length c, .int .i64 awV.ct] 57 := by rw [← hW4]; exact BV3.alloc _
  have hC : Rd encCp 4 W4 W4.heap.size (some ⟨W2.heap.size, 0, none⟩) [awCp] := (show Rd encCp 4 W3 W3.heap.size (some ⟨W2.heap.size, 0, none⟩) [awCp] by rw [← hW3]; exact Rd.lit W2 _ encCp_ok rfl (by simp)).st (by rw [← hW4]; exact (Below.refl _ _).al _)
  have hG : Rd encCg 7 W4 W4.heap.size (some ⟨W3.heap.size, 0, none⟩) [⟨awV, A, c⟩] := by rw [← hW4]; exact Rd.lit W3 _ encCg_ok rfl (by simp)
  rw [s2] at hC
  rw [s3] at hG
  have CA := Lib.hid (apply_any (Ac := some ⟨W1.heap.size + 1, 0, none⟩) (A := some ⟨W1.heap.size + 1 + 1, 0, none⟩) 1 1 (caps := [awCp]) (l := [⟨awV, A, c⟩]) (w := W4) hC hG (HM.out.st (HB1.out.st b4) HM.out.1) (by simp) (by simp))
  have HB4 := Lib.hid (HB1.out.st b4)
  have HBV := Lib.hid BV4
  clear hC hG b4 BV4
  go_wp2_with (refine wpList_boxLoad rfl (ty := 57) (x := .tmp 3) (cs := #[.string awV.key, .string awV.veh, .string awV.sys, .int .i64 awV.cls, .int .i64 awV.tm, .slice A awV.lns.length c, .int .i64 awV.ct]) rfl BV3 rfl ⟨_, Tryz.underlying57, by kernel_rfl⟩ ?_)
  refine CA.out.mono ?_
  rintro e W5 ⟨A2, c2, r, rfl, h0, -, hown, hbn⟩
  have hr := h0 aw_apply.1
  have hr2 : r = [300] := hr.trans aw_apply.2
  subst hr2
  have ha : applyE [awCp] (cvs [⟨awV, A, c⟩]) = 0 := aw_apply.1
  rw [ha]
  have v6 : W5.cell? ⟨W1.heap.size, 6, none⟩ = some (.int .i64 400) := (HBV.out.below hbn HBV.out.lt).cell 6 rfl
  obtain ⟨pb, po, x, hpA, _, hpx, hpc⟩ := (hown.rd encI_ok).at_ (i := 0) (by simp)
  subst hpA
  have p0 := hpc 0 (.int .i64 300) (by simp at hpx; subst hpx; rfl)
  simp only [Nat.zero_mul, Nat.add_zero] at p0
  have bE := HB4.out.st hbn
  have l1 : (([300] : List Int).length : Int) = 1 := rfl
  clear hown hbn h0 hr hpc hpx CA BV3 hW2 hW3 hW4 s2 s3
  simp only [List.length_cons, List.length_nil]
  go_wp2_with fail
  go_ret
  exact ⟨rfl, bE⟩
end Go.Proofs.YtelchfijalkibaaGreatDoor
