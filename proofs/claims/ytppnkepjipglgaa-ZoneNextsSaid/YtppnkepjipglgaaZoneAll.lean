/- zone.CheckAll, walked. -/
import Derived.Test.YtppnkepjipglgaaZoneAllMath
import Derived.Test.YtppnkepjipglgaaZoneZCheck
import Derived.Deep.RegionHeld3
import Derived.Deep.DrawnRows
import Derived.BigRegion
namespace Go.Proofs.Ytppnkepjipglgaa
open Go.RowKit Go.Lib

theorem _root_.Go.RowKit.Below.al' {B : Nat} {a w : World} (h : Below B a w) (hB : B ≤ w.heap.size) (o : Obj) : Below B a (w.alloc o) := h.alloc hB o

set_option maxRecDepth 100000 in
set_option maxHeartbeats 2000000 in
theorem zall_any {A : Option Addr} {c : Nat} {l : List Zn} {w : World} (h : Rd encZ 7 w w.heap.size A l) (hz : ZsOk w l) (hsm : ∀ z ∈ l, small z) (hlen : l.length ≤ 9223372036854775807) (hcap : l.length ≤ c) (hcm : c ≤ 9223372036854775807) :
    Calls Try.prog 16 #[.slice A l.length c] w fun e w' => e = .returned (.int .i64 (checkAllE l)) ∧ Below w.heap.size w w' := by
  have Hbig := Lib.hid (@checkAllE_big l)
  have Hat := Lib.hid (show ∀ k, ¬ 1024 < l.length → (∀ j, j < k → allE l j = 0) → k < l.length → allE l k ≠ 0 → checkAllE l = allE l k from fun k => checkAllE_at)
  have Hno := Lib.hid (@checkAllE_none l)
  generalize checkAllE l = r at *
  by_cases hbig : 1024 < l.length
  · have R := Lib.hid (Hbig.out hbig)
    clear Hbig Hat Hno h hz hsm
    go_enter Try.func16, Try.ntmps16
    go_wp2
    all_goals (go_ret; rw [R.out]; exact ⟨rfl, Below.refl _ _⟩)
  · go_enter Try.func16, Try.ntmps16
    go_wp2
    go_loopw [13] (fun i wr => ∃ k : Nat, k ≤ l.length ∧ i = .int .i64 k ∧ Hid (∀ j, j < k → allE l j = 0) ∧ Below w.heap.size w wr) (fun i _ => l.length - (intOf i).toNat)
    case atStart => exact ⟨0, Nat.zero_le _, rfl, fun j hj => absurd hj (Nat.not_lt_zero _), Below.refl _ _⟩
    case round =>
      obtain ⟨k, hk, rfl, HZ, hbr⟩ := hrel
      by_cases hi : k < l.length
      · obtain ⟨b, off, z, hA, hb, hx, d0, d1, d2, d3, d4, d5, d6⟩ := (h.keep hbr).z hi
        subst hA
        have hzk := hz z (List.mem_of_getElem? hx)
        have hb2 := hbr.al (.cells #[.string z.name, .slice z.hA z.hs.length z.hc, .slice z.sA z.ss.length z.sc, .int .i64 z.grace, .int .i64 z.free, .int .i64 z.dayMax, .int .i64 z.maxStay] 25)
        have C := Lib.hid (zcheck_any z (hzk.st hb2))
        by_cases he : checkE z = 0
        · have HE := Lib.hid he
          have hrd := h.take k
          have hzs : ZsOk w (l.take k) := fun y hy => hz y (List.mem_of_mem_take hy)
          have hsm2 : ∀ y ∈ l.take k, small y := fun y hy => hsm y (List.mem_of_mem_take hy)
          have hlk : (l.take k).length = k := by rw [List.length_take]; omega
          have hsz : wr.heap.size < (wr.alloc (.cells #[.string z.name, .slice z.hA z.hs.length z.hc, .slice z.sA z.ss.length z.sc, .int .i64 z.grace, .int .i64 z.free, .int .i64 z.dayMax, .int .i64 z.maxStay] 25)).heap.size := by simp
          clear h hz hsm
          go_wp2_with fail
          refine C.out.mono ?_
          rw [HE.out]
          rintro e w2 ⟨rfl, hbz⟩
          have hb3 := hb2.st hbz
          have c0 : w2.cell? ⟨wr.heap.size, 0, none⟩ = some (.string z.name) := box_cell hbz hsz 0 _ rfl
          have hs2 : wr.heap.size < w2.heap.size := Nat.lt_of_lt_of_le hsz hbz.size
          have C2 := fun (W : World) (hW : Below w2.heap.size w2 W) => zfind_any c (nm := z.name) ((hrd.st hb3).st hW) ((hzs.st hb3).st hW) hsm2 (by omega)
          rw [hlk] at C2
          have k1 : (0 : Int) ≤ (k : Int) := by omega
          have k2 : (k : Int) ≤ (c : Int) := by omega
          have k3 : k ≤ c := by omega
          cases hf : (findZ (l.take k) z.name).isSome
          · have R := Lib.hid (firstE_up HZ.out (allE_ok hx HE.out hf))
            have HF := Lib.hid hf
            clear hx hf he hlk hrd hzs hsm2 hb2 hbz C
            go_wp2_with fail
            have bz := Below.refl w2.heap.size w2
            go_region_held3 (fun w' => w'.cell? ⟨wr.heap.size, 0, none⟩ = some (.string z.name)) (first | go_keep | ((repeat (refine (World.cell?_setCell_far _ _ _ _ (by simp; omega)).trans ?_)); exact q0)) ((go_at_call 14; (refine (C2 _ (by first | exact bz | exact bz.drew | exact (bz.al _).drew | exact bz.al _)).mono ?_); unfold FindR; rw [HF.out]; rintro e w3 ⟨z', rfl, -, -, hb4⟩; (first | have b3 : Below w.heap.size w w3 := hb3.drew.st hb4 | have b3 : Below w.heap.size w w3 := (hb3.al _).drew.st hb4); have q0 : w3.cell? ⟨wr.heap.size, 0, none⟩ = some (.string z.name) := (hb4.cell (p := ⟨wr.heap.size, 0, none⟩) (by first | exact hs2 | (simp; omega))).trans (by first | exact c0 | exact (World.cell?_alloc_lt w2 _ ⟨wr.heap.size, 0, none⟩ hs2).trans c0 | (simp; exact c0)); (first | (have hb5 : Below (w2.alloc (.cells #[.string ⟨#[]⟩, .slice none 0 0, .slice none 0 0, .int .i64 0, .int .i64 0, .int .i64 0, .int .i64 0] 25)).drew.heap.size (w2.alloc (.cells #[.string ⟨#[]⟩, .slice none 0 0, .slice none 0 0, .int .i64 0, .int .i64 0, .int .i64 0, .int .i64 0] 25)).drew w3 := hb4; have e0 : w3.cell? ⟨w2.heap.size, 0, none⟩ = some (.string ⟨#[]⟩) := (hb5.cell (p := ⟨w2.heap.size, 0, none⟩) (by simp)).trans (by simp); have g0 : w3.frozen? ⟨w2.heap.size, 0, none⟩ = false := (hb5.frozen (p := ⟨w2.heap.size, 0, none⟩) (by simp)).trans (by simp); have e1 : w3.cell? ⟨w2.heap.size, 1, none⟩ = some (.slice none 0 0) := (hb5.cell (p := ⟨w2.heap.size, 1, none⟩) (by simp)).trans (by simp); have g1 : w3.frozen? ⟨w2.heap.size, 1, none⟩ = false := (hb5.frozen (p := ⟨w2.heap.size, 1, none⟩) (by simp)).trans (by simp); have e2 : w3.cell? ⟨w2.heap.size, 2, none⟩ = some (.slice none 0 0) := (hb5.cell (p := ⟨w2.heap.size, 2, none⟩) (by simp)).trans (by simp); have g2 : w3.frozen? ⟨w2.heap.size, 2, none⟩ = false := (hb5.frozen (p := ⟨w2.heap.size, 2, none⟩) (by simp)).trans (by simp); have e3 : w3.cell? ⟨w2.heap.size, 3, none⟩ = some (.int .i64 0) := (hb5.cell (p := ⟨w2.heap.size, 3, none⟩) (by simp)).trans (by simp); have g3 : w3.frozen? ⟨w2.heap.size, 3, none⟩ = false := (hb5.frozen (p := ⟨w2.heap.size, 3, none⟩) (by simp)).trans (by simp); have e4 : w3.cell? ⟨w2.heap.size, 4, none⟩ = some (.int .i64 0) := (hb5.cell (p := ⟨w2.heap.size, 4, none⟩) (by simp)).trans (by simp); have g4 : w3.frozen? ⟨w2.heap.size, 4, none⟩ = false := (hb5.frozen (p := ⟨w2.heap.size, 4, none⟩) (by simp)).trans (by simp); have e5 : w3.cell? ⟨w2.heap.size, 5, none⟩ = some (.int .i64 0) := (hb5.cell (p := ⟨w2.heap.size, 5, none⟩) (by simp)).trans (by simp); have g5 : w3.frozen? ⟨w2.heap.size, 5, none⟩ = false := (hb5.frozen (p := ⟨w2.heap.size, 5, none⟩) (by simp)).trans (by simp); have e6 : w3.cell? ⟨w2.heap.size, 6, none⟩ = some (.int .i64 0) := (hb5.cell (p := ⟨w2.heap.size, 6, none⟩) (by simp)).trans (by simp); have g6 : w3.frozen? ⟨w2.heap.size, 6, none⟩ = false := (hb5.frozen (p := ⟨w2.heap.size, 6, none⟩) (by simp)).trans (by simp)) | skip)))
            all_goals
              go_wp2
              go_roundw
              case rel => exact ⟨k + 1, by omega, by go_num, R, by first | with_reducible exact b3.al' b3.size _ | with_reducible exact (b3.al' b3.size _).drew | with_reducible exact (((((((b3.setCell (p := ⟨w2.heap.size, 0, none⟩) hb3.size _).setCell (p := ⟨w2.heap.size, 1, none⟩) hb3.size _).setCell (p := ⟨w2.heap.size, 2, none⟩) hb3.size _).setCell (p := ⟨w2.heap.size, 3, none⟩) hb3.size _).setCell (p := ⟨w2.heap.size, 4, none⟩) hb3.size _).setCell (p := ⟨w2.heap.size, 5, none⟩) hb3.size _).setCell (p := ⟨w2.heap.size, 6, none⟩) hb3.size _) | with_reducible exact (((((((b3.setCell (p := ⟨w2.heap.size, 0, none⟩) hb3.size _).setCell (p := ⟨w2.heap.size, 1, none⟩) hb3.size _).setCell (p := ⟨w2.heap.size, 2, none⟩) hb3.size _).setCell (p := ⟨w2.heap.size, 3, none⟩) hb3.size _).setCell (p := ⟨w2.heap.size, 4, none⟩) hb3.size _).setCell (p := ⟨w2.heap.size, 5, none⟩) hb3.size _).setCell (p := ⟨w2.heap.size, 6, none⟩) hb3.size _).drew⟩
              case measure => simp [intOf]; omega
          · have R := Lib.hid (show r = 9 by rw [Hat.out k hbig HZ.out hi (by rw [allE_two hx HE.out hf]; decide), allE_two hx HE.out hf])
            have HF := Lib.hid hf
            clear hx hf he hlk hrd hzs hsm2 hb2 hbz C
            go_wp2_with fail
            have bz := Below.refl w2.heap.size w2
            go_region_held3 (fun w' => w'.cell? ⟨wr.heap.size, 0, none⟩ = some (.string z.name)) (first | go_keep | ((repeat (refine (World.cell?_setCell_far _ _ _ _ (by simp; omega)).trans ?_)); exact q0)) ((go_at_call 14; (refine (C2 _ (by first | exact bz | exact bz.drew | exact (bz.al _).drew | exact bz.al _)).mono ?_); unfold FindR; rw [HF.out]; rintro e w3 ⟨z', rfl, -, -, hb4⟩; (first | have b3 : Below w.heap.size w w3 := hb3.drew.st hb4 | have b3 : Below w.heap.size w w3 := (hb3.al _).drew.st hb4); have q0 : w3.cell? ⟨wr.heap.size, 0, none⟩ = some (.string z.name) := (hb4.cell (p := ⟨wr.heap.size, 0, none⟩) (by first | exact hs2 | (simp; omega))).trans (by first | exact c0 | exact (World.cell?_alloc_lt w2 _ ⟨wr.heap.size, 0, none⟩ hs2).trans c0 | (simp; exact c0)); (first | (have hb5 : Below (w2.alloc (.cells #[.string ⟨#[]⟩, .slice none 0 0, .slice none 0 0, .int .i64 0, .int .i64 0, .int .i64 0, .int .i64 0] 25)).drew.heap.size (w2.alloc (.cells #[.string ⟨#[]⟩, .slice none 0 0, .slice none 0 0, .int .i64 0, .int .i64 0, .int .i64 0, .int .i64 0] 25)).drew w3 := hb4; have e0 : w3.cell? ⟨w2.heap.size, 0, none⟩ = some (.string ⟨#[]⟩) := (hb5.cell (p := ⟨w2.heap.size, 0, none⟩) (by simp)).trans (by simp); have g0 : w3.frozen? ⟨w2.heap.size, 0, none⟩ = false := (hb5.frozen (p := ⟨w2.heap.size, 0, none⟩) (by simp)).trans (by simp); have e1 : w3.cell? ⟨w2.heap.size, 1, none⟩ = some (.slice none 0 0) := (hb5.cell (p := ⟨w2.heap.size, 1, none⟩) (by simp)).trans (by simp); have g1 : w3.frozen? ⟨w2.heap.size, 1, none⟩ = false := (hb5.frozen (p := ⟨w2.heap.size, 1, none⟩) (by simp)).trans (by simp); have e2 : w3.cell? ⟨w2.heap.size, 2, none⟩ = some (.slice none 0 0) := (hb5.cell (p := ⟨w2.heap.size, 2, none⟩) (by simp)).trans (by simp); have g2 : w3.frozen? ⟨w2.heap.size, 2, none⟩ = false := (hb5.frozen (p := ⟨w2.heap.size, 2, none⟩) (by simp)).trans (by simp); have e3 : w3.cell? ⟨w2.heap.size, 3, none⟩ = some (.int .i64 0) := (hb5.cell (p := ⟨w2.heap.size, 3, none⟩) (by simp)).trans (by simp); have g3 : w3.frozen? ⟨w2.heap.size, 3, none⟩ = false := (hb5.frozen (p := ⟨w2.heap.size, 3, none⟩) (by simp)).trans (by simp); have e4 : w3.cell? ⟨w2.heap.size, 4, none⟩ = some (.int .i64 0) := (hb5.cell (p := ⟨w2.heap.size, 4, none⟩) (by simp)).trans (by simp); have g4 : w3.frozen? ⟨w2.heap.size, 4, none⟩ = false := (hb5.frozen (p := ⟨w2.heap.size, 4, none⟩) (by simp)).trans (by simp); have e5 : w3.cell? ⟨w2.heap.size, 5, none⟩ = some (.int .i64 0) := (hb5.cell (p := ⟨w2.heap.size, 5, none⟩) (by simp)).trans (by simp); have g5 : w3.frozen? ⟨w2.heap.size, 5, none⟩ = false := (hb5.frozen (p := ⟨w2.heap.size, 5, none⟩) (by simp)).trans (by simp); have e6 : w3.cell? ⟨w2.heap.size, 6, none⟩ = some (.int .i64 0) := (hb5.cell (p := ⟨w2.heap.size, 6, none⟩) (by simp)).trans (by simp); have g6 : w3.frozen? ⟨w2.heap.size, 6, none⟩ = false := (hb5.frozen (p := ⟨w2.heap.size, 6, none⟩) (by simp)).trans (by simp)) | skip)))
            all_goals
              go_wp2
              go_ret
              rw [R.out]
              refine ⟨rfl, ?_⟩
              first | with_reducible exact b3.al' b3.size _ | with_reducible exact (b3.al' b3.size _).drew | with_reducible exact (((((((b3.setCell (p := ⟨w2.heap.size, 0, none⟩) hb3.size _).setCell (p := ⟨w2.heap.size, 1, none⟩) hb3.size _).setCell (p := ⟨w2.heap.size, 2, none⟩) hb3.size _).setCell (p := ⟨w2.heap.size, 3, none⟩) hb3.size _).setCell (p := ⟨w2.heap.size, 4, none⟩) hb3.size _).setCell (p := ⟨w2.heap.size, 5, none⟩) hb3.size _).setCell (p := ⟨w2.heap.size, 6, none⟩) hb3.size _) | with_reducible exact (((((((b3.setCell (p := ⟨w2.heap.size, 0, none⟩) hb3.size _).setCell (p := ⟨w2.heap.size, 1, none⟩) hb3.size _).setCell (p := ⟨w2.heap.size, 2, none⟩) hb3.size _).setCell (p := ⟨w2.heap.size, 3, none⟩) hb3.size _).setCell (p := ⟨w2.heap.size, 4, none⟩) hb3.size _).setCell (p := ⟨w2.heap.size, 5, none⟩) hb3.size _).setCell (p := ⟨w2.heap.size, 6, none⟩) hb3.size _).drew
        · have R := Lib.hid (show r = checkE z by rw [Hat.out k hbig HZ.out hi (by rw [allE_bad hx he]; exact he), allE_bad hx he])
          generalize checkE z = v at *
          have hv : (v != 0) = true := by simp [he]
          clear he h hz hsm hx
          go_wp2_with fail
          refine C.out.mono ?_
          rintro e w2 ⟨rfl, hbz⟩
          go_wp2_with fail
          all_goals (go_ret; rw [R.out]; exact ⟨rfl, hb2.st hbz⟩)
      · obtain rfl : k = l.length := by omega
        have R := Lib.hid (Hno.out hbig HZ.out)
        go_wp2
        go_ret
        rw [R.out]
        exact ⟨rfl, hbr⟩
end Go.Proofs.Ytppnkepjipglgaa
