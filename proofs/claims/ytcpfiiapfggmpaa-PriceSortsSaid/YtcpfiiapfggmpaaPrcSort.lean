/- price.Sort, walked. -/
import Derived.Test.YtcpfiiapfggmpaaPrcOrd
import Derived.Test.YtcpfiiapfggmpaaStabOwn
set_option linter.unusedSimpArgs false
namespace Go.Proofs.Ytcpfiiapfggmpaa
open Go.RowKit Go.Lib Go.Sort Go.Shelf

set_option maxRecDepth 100000 in
set_option maxHeartbeats 8000000 in
theorem psort_any {A : Option Addr} (c : Nat) {l : List Cg} {w : World} (h : Rd encCg 7 w w.heap.size A l) (hr : CgRs w l) (hl : l.length ≤ 1000) :
    Calls Try.prog 11 #[.slice A l.length c] w fun e w' => ∃ A' c' r, e = .returned (.slice A' l.length c') ∧ Hid (r.length = l.length) ∧ Own 24 encCg 7 w' w.heap.size A' c' r ∧ SortC (cvs l) (cvs r) ∧ LList w' w.heap.size r ∧ Below w.heap.size w w' := by
  have HR := Lib.hid h
  have HL := Lib.hid hr
  clear h hr
  have eg : ∀ args w, (callFunc 24 args).run Try.prog w = .ok (.enter 24 args) w := enters_of Try.func24 (by kernel_rfl) rfl
  have CSort := Lib.hid (fun (X : World) (base : Nat) (A' : Option Addr) (c' : Nat) (o : List Cg) (ho : Own 24 encCg 7 X base A' c' o) (hX : base ≤ X.heap.size) (hlo : o.length ≤ 100000000) => stab_own (w := X) encCg_ok cmpCg cmpCg_pre.swo 24 #[] eg (fun W x y => cgCmp_any W x y) ho hX (by omega))
  clear eg
  go_enter Try.func11, Try.ntmps11
  go_wp2_with fail
  go_loopw [3, 8] (fun v i wr => ∃ (k : Nat) (A' : Option Addr) (c' : Nat) (o : List Cg), k ≤ l.length ∧ i = .int .i64 k ∧ v = .slice A' o.length c' ∧ Hid (o.length = k) ∧ Hid (cvs o = (cvs l).take k) ∧ Own 24 encCg 7 wr w.heap.size A' c' o ∧ Hid (LList wr w.heap.size o) ∧ Below w.heap.size w wr) (fun _ i _ => l.length - (RowKit.intOf i).toNat)
  case atStart => exact ⟨0, none, 0, [], Nat.zero_le _, rfl, rfl, rfl, rfl, Own.nil _ _, LList.nil _ _, Below.refl _ _⟩
  case round =>
    obtain ⟨k, A', c', o, hk, rfl, rfl, HOL, HV, hown, HLL, hwr⟩ := hrel
    by_cases hi : k < l.length
    · obtain ⟨b, off, x, rfl, hb, hx, d0, d1, d2, d3, d4, d5, d6⟩ := (HR.out.st hwr).cg hi
      have hlx := (HL.out x (List.mem_of_getElem? hx)).st hwr
      have HK := Lib.hid hi
      have HX := Lib.hid (cvs_at hx)
      have hol : o.length ≤ 1000 := by have := HOL.out; omega
      have hsz : w.heap.size ≤ wr.heap.size := hwr.size
      obtain ⟨⟨key, veh, sys, cls, tm, lns, cn⟩, lA, lc⟩ := x
      simp only at *
      obtain ⟨Y5, hY5⟩ : ∃ Y, wr.alloc (.cells #[.string key, .string veh, .string sys, .int .i64 cls, .int .i64 tm, .slice lA lns.length lc, .int .i64 cn] 24) = Y := ⟨_, rfl⟩
      have BX : Blk Y5 wr.heap.size #[.string key, .string veh, .string sys, .int .i64 cls, .int .i64 tm, .slice lA lns.length lc, .int .i64 cn] 24 := by rw [← hY5]; exact Blk.new wr _ _
      have b5 : Below wr.heap.size wr Y5 := by rw [← hY5]; exact (Below.refl _ wr).al _
      have s5 : Y5.heap.size = wr.heap.size + 1 := by rw [← hY5]; simp
      have x5 := BX.cell 5 (v := .slice lA lns.length lc) rfl
      have CL := Lib.hid (cloneL_any lc (hlx.1.st b5) (Nat.le_trans hlx.2 (by omega)))
      have S5 := Lib.hid s5
      clear hx hi hb hlx s5
      go_wp2_with fail
      refine CL.out.mono ?_
      rintro e W6 ⟨A9, c9, rfl, hown9, hbn⟩
      have b6 := b5.st hbn
      have BX := BX.below hbn BX.lt
      have x5 := BX.cell 5 (v := .slice lA lns.length lc) rfl
      have f5 := BX.frozen 5
      have BV : Blk (W6.setCell ⟨wr.heap.size, 5, none⟩ (.slice A9 lns.length c9)) wr.heap.size #[.string key, .string veh, .string sys, .int .i64 cls, .int .i64 tm, .slice A9 lns.length c9, .int .i64 cn] 24 := BX.set 5 (.slice A9 lns.length c9)
      have bV := b6.setCell (p := ⟨wr.heap.size, 5, none⟩) (Nat.le_refl _) (.slice A9 lns.length c9)
      have hV9 := hown9.other (p := ⟨wr.heap.size, 5, none⟩) (by have := S5.out; show wr.heap.size < Y5.heap.size; omega) (.slice A9 lns.length c9)
      obtain ⟨V1, hV1⟩ : ∃ V, W6.setCell ⟨wr.heap.size, 5, none⟩ (.slice A9 lns.length c9) = V := ⟨_, rfl⟩
      rw [hV1] at BV bV hV9
      have hownV := hown.st bV
      have hwV := hwr.st bV
      have HLV := Lib.hid (HLL.out.snoc (x := ⟨(⟨key, veh, sys, cls, tm, lns, cn⟩ : CV), A9, c9⟩) bV (hV9.mono (by have := S5.out; omega)) hsz)
      have HVn : Hid (cvs (o ++ [⟨(⟨key, veh, sys, cls, tm, lns, cn⟩ : CV), A9, c9⟩]) = (cvs l).take (k + 1)) := Lib.hid (by rw [cvs_app, HV.out, take_snoc HX.out]; rfl)
      have HVW := Lib.hid hV9
      clear hown9 hbn b6 BX hV9 hown HLL HV HX CL hY5 b5 bV
      go_wp2_with (first | (refine wpList_boxLoad rfl (ty := 24) (x := .tmp 5) (cs := #[.string key, .string veh, .string sys, .int .i64 cls, .int .i64 tm, .slice A9 lns.length c9, .int .i64 cn]) rfl BV rfl ⟨_, Try.underlying24, by kernel_rfl⟩ ?_) | (at_builtin; refine wpList_app1b rfl (.tmp 16) (.tmp 18) tyCg encCg_ok rfl (⟨(⟨key, veh, sys, cls, tm, lns, cn⟩ : CV), A9, c9⟩ : Cg) rfl _ rfl (by simp) hownV rfl (by first | rfl | simp) (by first | omega | (simp; omega)) (by first | omega | (simp; omega)) (by first | exact hwV.size | (have := hwV.size; omega)) ?_; intro A8 c8 w8 hown8 hb8 hs8 hf8; have hbel8 := hwV.trans hb8))
      have HLL8 := Lib.hid (HLV.out.keepA hownV (by decide) hf8)
      clear hownV hb8 hf8 HLV HVW
      go_wp2_with fail
      go_roundw
      case rel => exact ⟨k + 1, A8, c8, _, HK.out, by go_num, by simp, Lib.hid (by have := HOL.out; simp; omega), HVn, hown8, HLL8, hbel8⟩
      case measure => have := HK.out; simp [RowKit.intOf]; omega
    · obtain rfl : k = l.length := by omega
      have CS2 := Lib.hid (CSort.out wr w.heap.size A' c' o hown hwr.size (by have := HOL.out; omega))
      have hol : o.length = l.length := HOL.out
      have HCV : Hid (cvs o = cvs l) := Lib.hid (by have := HV.out; rwa [← cvs_len, List.take_length] at this)
      have HX : Hid (∀ (w2 : World) (r : List Cg), StabOf (ltOf cmpCg) o r → (∀ b, b < wr.heap.size → (∀ g, A' = some ⟨g, 0, none⟩ → b ≠ g) → w2.heap[b]? = wr.heap[b]?) → LList w2 w.heap.size r ∧ SortC (cvs l) (cvs r) ∧ r.length = o.length) := by
        intro w2 r hst hk
        refine ⟨(HLL.out.keepA hown (by decide) hk).perm fun x hx => hst.perm.subset hx, ?_, hst.perm.length_eq⟩
        rw [← HCV.out]
        exact hst.sortC
      rw [hol] at CS2 ⊢
      have HOL2 := Lib.hid hol
      clear HV HLL hown HCV hol
      go_wp2_with fail
      refine CS2.out.mono ?_
      rintro e w2 ⟨rfl, r, hst, hown2, hbel, hsz, hk2⟩
      obtain ⟨x1, x2, x3⟩ := HX.out w2 r hst hk2
      have X1 := Lib.hid x1
      have X2 := Lib.hid x2
      have X3 := Lib.hid (x3.trans HOL2.out)
      have hb9 := hwr.trans hbel
      clear x1 x2 x3 hst hk2 HX
      go_wp2_with fail
      go_ret
      exact ⟨A', c', r, rfl, X3, hown2, X2.out, X1.out, hb9⟩
end Go.Proofs.Ytcpfiiapfggmpaa
