/- The reference's One and Same at equal values, walked. -/
import Derived.Test.YtcpfiiapfggmpaaPrcEnc
import Derived.BigQuiet
import Derived.IntWalk
import Derived.Laws.StructEq
set_option linter.unusedSimpArgs false
set_option linter.unusedSimpArgs false
namespace Go.Proofs.Ytcpfiiapfggmpaa
open Go.RowKit Go.Lib

set_option maxRecDepth 100000 in
set_option maxHeartbeats 4000000 in
theorem rone_true (c : CV) {A A2 : Option Addr} (cap cap2 : Nat) {w : World} (h1 : Rd encLn 2 w w.heap.size A c.lns) (h2 : Rd encLn 2 w w.heap.size A2 c.lns) (hl : c.lns.length ≤ 9223372036854775807) :
    Calls Try.prog 21 #[CHV c A cap, CHV c A2 cap2] w fun e w' => e = .returned (.bool true) ∧ Below w.heap.size w w' := by
  have H1 := Lib.hid h1
  have H2 := Lib.hid h2
  clear h1 h2
  obtain ⟨key, veh, sys, cls, tm, lns, ct⟩ := c
  simp only [CHV] at *
  obtain ⟨Y1, hY1⟩ : ∃ Y, w.alloc (.cells #[.string key, .string veh, .string sys, .int .i64 cls, .int .i64 tm, .slice A lns.length cap, .int .i64 ct] 24) = Y := ⟨_, rfl⟩
  have b1 : Below w.heap.size w Y1 := by rw [← hY1]; exact (Below.refl _ w).al _
  have S1 : Blk Y1 w.heap.size #[.string key, .string veh, .string sys, .int .i64 cls, .int .i64 tm, .slice A lns.length cap, .int .i64 ct] 24 := by rw [← hY1]; exact Blk.new w _ _
  obtain ⟨Y2, hY2⟩ : ∃ Y, Y1.alloc (.cells #[.string key, .string veh, .string sys, .int .i64 cls, .int .i64 tm, .slice A2 lns.length cap2, .int .i64 ct] 24) = Y := ⟨_, rfl⟩
  have b2 : Below w.heap.size w Y2 := by rw [← hY2]; exact b1.st ((Below.refl _ Y1).al _)
  have S1 : Blk Y2 w.heap.size #[.string key, .string veh, .string sys, .int .i64 cls, .int .i64 tm, .slice A lns.length cap, .int .i64 ct] 24 := by rw [← hY2]; exact S1.below ((Below.refl _ Y1).al _) S1.lt
  have S2 : Blk Y2 Y1.heap.size #[.string key, .string veh, .string sys, .int .i64 cls, .int .i64 tm, .slice A2 lns.length cap2, .int .i64 ct] 24 := by rw [← hY2]; exact Blk.new Y1 _ _
  have q0 : Y2.cell? ⟨w.heap.size, 0, none⟩ = some (.string key) := S1.cell 0 rfl
  have q1 : Y2.cell? ⟨w.heap.size, 1, none⟩ = some (.string veh) := S1.cell 1 rfl
  have q2 : Y2.cell? ⟨w.heap.size, 2, none⟩ = some (.string sys) := S1.cell 2 rfl
  have q3 : Y2.cell? ⟨w.heap.size, 3, none⟩ = some (.int .i64 cls) := S1.cell 3 rfl
  have q4 : Y2.cell? ⟨w.heap.size, 4, none⟩ = some (.int .i64 tm) := S1.cell 4 rfl
  have q5 : Y2.cell? ⟨w.heap.size, 5, none⟩ = some (.slice A lns.length cap) := S1.cell 5 rfl
  have q6 : Y2.cell? ⟨w.heap.size, 6, none⟩ = some (.int .i64 ct) := S1.cell 6 rfl
  have p0 : Y2.cell? ⟨Y1.heap.size, 0, none⟩ = some (.string key) := S2.cell 0 rfl
  have p1 : Y2.cell? ⟨Y1.heap.size, 1, none⟩ = some (.string veh) := S2.cell 1 rfl
  have p2 : Y2.cell? ⟨Y1.heap.size, 2, none⟩ = some (.string sys) := S2.cell 2 rfl
  have p3 : Y2.cell? ⟨Y1.heap.size, 3, none⟩ = some (.int .i64 cls) := S2.cell 3 rfl
  have p4 : Y2.cell? ⟨Y1.heap.size, 4, none⟩ = some (.int .i64 tm) := S2.cell 4 rfl
  have p5 : Y2.cell? ⟨Y1.heap.size, 5, none⟩ = some (.slice A2 lns.length cap2) := S2.cell 5 rfl
  have p6 : Y2.cell? ⟨Y1.heap.size, 6, none⟩ = some (.int .i64 ct) := S2.cell 6 rfl
  have k1 : (key.toList == key.toList) = true := by simp
  have k2 : (veh.toList == veh.toList) = true := by simp
  have k3 : (sys.toList == sys.toList) = true := by simp
  go_enter Try.func21, Try.ntmps21
  go_wp2_with fail
  go_loopw [5] (fun i wr => ∃ k : Nat, k ≤ lns.length ∧ i = .int .i64 k ∧ ∃ n, wr = Y2.drewN n) (fun i _ => lns.length - (RowKit.intOf i).toNat)
  case atStart => exact ⟨0, Nat.zero_le _, rfl, 0, rfl⟩
  case round =>
    obtain ⟨k, hk, rfl, n, rfl⟩ := hrel
    by_cases hi : k < lns.length
    · obtain ⟨b, off, s, m, rfl, hb, hx, d0, d1⟩ := (H1.out.st b2).ln hi
      obtain ⟨b', off', s', m', rfl, hb', hx', e0, e1⟩ := (H2.out.st b2).ln hi
      rw [hx] at hx'
      simp only [Option.some.injEq, Prod.mk.injEq] at hx'
      obtain ⟨rfl, rfl⟩ := hx'
      have hi1 : (0 : Int) ≤ (k : Int) := by omega
      have hi2 : (k : Int) < (lns.length : Int) := by omega
      have hn : (s.toList == s.toList) = true := by simp
      have HL := Lib.hid hi
      clear hx hk hi
      go_wp2_with fail
      go_quiet (fail)
      go_wp2_with fail
      go_roundw
      case rel => exact ⟨k + 1, HL.out, by go_num, _, rfl⟩
      case measure => have := HL.out; simp [RowKit.intOf]; omega
    · obtain rfl : k = lns.length := by omega
      go_wp2_with fail
      go_ret
      exact ⟨rfl, below_drewN b2 _⟩

set_option maxRecDepth 100000 in
set_option maxHeartbeats 2000000 in
theorem rsame_true {A A2 : Option Addr} (c c2 : Nat) {l m : List Cg} {w : World} (h1 : Rd encCg 7 w w.heap.size A l) (h2 : Rd encCg 7 w w.heap.size A2 m) (r1 : CgRs w l) (r2 : CgRs w m) (he : cvs l = cvs m) (hl : l.length ≤ 1000000) :
    Calls Try.prog 10 #[.slice A l.length c, .slice A2 m.length c2] w fun e w' => e = .returned (.bool true) ∧ Below w.heap.size w w' := by
  have hml : m.length = l.length := by rw [← cvs_len m, ← he, cvs_len]
  have H1 := Lib.hid h1
  have H2 := Lib.hid h2
  have R1 := Lib.hid r1
  have R2 := Lib.hid r2
  have HE := Lib.hid he
  have HML := Lib.hid hml
  rw [hml]
  clear h1 h2 r1 r2 he hml
  go_enter Try.func10, Try.ntmps10
  go_wp2_with fail
  go_loopw [5] (fun i wr => ∃ k : Nat, k ≤ l.length ∧ i = .int .i64 k ∧ Below w.heap.size w wr) (fun i _ => l.length - (RowKit.intOf i).toNat)
  case atStart => exact ⟨0, Nat.zero_le _, rfl, Below.refl _ _⟩
  case round =>
    obtain ⟨k, hk, rfl, bW⟩ := hrel
    by_cases hi : k < l.length
    · obtain ⟨b1, o1, x, rfl, hb1, hx, d0, d1, d2, d3, d4, d5, d6⟩ := (H1.out.st bW).cg hi
      obtain ⟨b2, o2, y, rfl, hb2, hy, e0, e1, e2, e3, e4, e5, e6⟩ := (H2.out.st bW).cg (i := k) (by rw [HML.out]; exact hi)
      have hxy : y.c = x.c := by
        have q1 := cvs_at hx
        have q2 := cvs_at hy
        rw [← HE.out, q1] at q2
        exact (Option.some.inj q2).symm
      have HX := Lib.hid (R1.out.st bW x (List.mem_of_getElem? hx))
      have HY := Lib.hid (R2.out.st bW y (List.mem_of_getElem? hy))
      have CC := Lib.hid (fun (X : World) (hX : Below wr.heap.size wr X) => rone_true x.c x.lc y.lc (HX.out.1.st hX) (by rw [← hxy]; exact HY.out.1.st hX) (by have := HX.out.2; omega))
      have HK := Lib.hid hi
      have k1 : (0 : Int) ≤ (k : Int) := by omega
      have k2 : (k : Int) < (l.length : Int) := by omega
      have HBW := Lib.hid bW
      obtain ⟨⟨key, veh, sys, cls, tm, lns, cn⟩, lA, lc⟩ := x
      obtain ⟨yc, mA, mc⟩ := y
      simp only at hxy
      subst hxy
      simp only [CHV] at *
      have HSS : Hid ((fun w' : World => w'.cell? ⟨b1, o1 + k * 7, none⟩ = some (.string key) ∧ w'.cell? ⟨b1, o1 + k * 7 + 1, none⟩ = some (.string veh) ∧ w'.cell? ⟨b1, o1 + k * 7 + 2, none⟩ = some (.string sys) ∧ w'.cell? ⟨b1, o1 + k * 7 + 3, none⟩ = some (.int .i64 cls) ∧ w'.cell? ⟨b1, o1 + k * 7 + 4, none⟩ = some (.int .i64 tm) ∧ w'.cell? ⟨b1, o1 + k * 7 + 5, none⟩ = some (.slice lA lns.length lc) ∧ w'.cell? ⟨b1, o1 + k * 7 + 6, none⟩ = some (.int .i64 cn) ∧ w'.cell? ⟨b2, o2 + k * 7, none⟩ = some (.string key) ∧ w'.cell? ⟨b2, o2 + k * 7 + 1, none⟩ = some (.string veh) ∧ w'.cell? ⟨b2, o2 + k * 7 + 2, none⟩ = some (.string sys) ∧ w'.cell? ⟨b2, o2 + k * 7 + 3, none⟩ = some (.int .i64 cls) ∧ w'.cell? ⟨b2, o2 + k * 7 + 4, none⟩ = some (.int .i64 tm) ∧ w'.cell? ⟨b2, o2 + k * 7 + 5, none⟩ = some (.slice mA lns.length mc) ∧ w'.cell? ⟨b2, o2 + k * 7 + 6, none⟩ = some (.int .i64 cn)) wr) := Lib.hid ⟨d0, d1, d2, d3, d4, d5, d6, e0, e1, e2, e3, e4, e5, e6⟩
      have HKP := Lib.hid (fun (X : World) (hX : Below wr.heap.size wr X) => show (fun w' : World => w'.cell? ⟨b1, o1 + k * 7, none⟩ = some (.string key) ∧ w'.cell? ⟨b1, o1 + k * 7 + 1, none⟩ = some (.string veh) ∧ w'.cell? ⟨b1, o1 + k * 7 + 2, none⟩ = some (.string sys) ∧ w'.cell? ⟨b1, o1 + k * 7 + 3, none⟩ = some (.int .i64 cls) ∧ w'.cell? ⟨b1, o1 + k * 7 + 4, none⟩ = some (.int .i64 tm) ∧ w'.cell? ⟨b1, o1 + k * 7 + 5, none⟩ = some (.slice lA lns.length lc) ∧ w'.cell? ⟨b1, o1 + k * 7 + 6, none⟩ = some (.int .i64 cn) ∧ w'.cell? ⟨b2, o2 + k * 7, none⟩ = some (.string key) ∧ w'.cell? ⟨b2, o2 + k * 7 + 1, none⟩ = some (.string veh) ∧ w'.cell? ⟨b2, o2 + k * 7 + 2, none⟩ = some (.string sys) ∧ w'.cell? ⟨b2, o2 + k * 7 + 3, none⟩ = some (.int .i64 cls) ∧ w'.cell? ⟨b2, o2 + k * 7 + 4, none⟩ = some (.int .i64 tm) ∧ w'.cell? ⟨b2, o2 + k * 7 + 5, none⟩ = some (.slice mA lns.length mc) ∧ w'.cell? ⟨b2, o2 + k * 7 + 6, none⟩ = some (.int .i64 cn)) X from ⟨(hX.cell (p := ⟨b1, o1 + k * 7, none⟩) hb1).trans d0, (hX.cell (p := ⟨b1, o1 + k * 7 + 1, none⟩) hb1).trans d1, (hX.cell (p := ⟨b1, o1 + k * 7 + 2, none⟩) hb1).trans d2, (hX.cell (p := ⟨b1, o1 + k * 7 + 3, none⟩) hb1).trans d3, (hX.cell (p := ⟨b1, o1 + k * 7 + 4, none⟩) hb1).trans d4, (hX.cell (p := ⟨b1, o1 + k * 7 + 5, none⟩) hb1).trans d5, (hX.cell (p := ⟨b1, o1 + k * 7 + 6, none⟩) hb1).trans d6, (hX.cell (p := ⟨b2, o2 + k * 7, none⟩) hb2).trans e0, (hX.cell (p := ⟨b2, o2 + k * 7 + 1, none⟩) hb2).trans e1, (hX.cell (p := ⟨b2, o2 + k * 7 + 2, none⟩) hb2).trans e2, (hX.cell (p := ⟨b2, o2 + k * 7 + 3, none⟩) hb2).trans e3, (hX.cell (p := ⟨b2, o2 + k * 7 + 4, none⟩) hb2).trans e4, (hX.cell (p := ⟨b2, o2 + k * 7 + 5, none⟩) hb2).trans e5, (hX.cell (p := ⟨b2, o2 + k * 7 + 6, none⟩) hb2).trans e6⟩)
      clear hx hy hi d0 d1 d2 d3 d4 d5 d6 e0 e1 e2 e3 e4 e5 e6 bW hb1 hb2
      go_wp2_with fail
      refine wp_region_held_drew (S := (fun w' : World => w'.cell? ⟨b1, o1 + k * 7, none⟩ = some (.string key) ∧ w'.cell? ⟨b1, o1 + k * 7 + 1, none⟩ = some (.string veh) ∧ w'.cell? ⟨b1, o1 + k * 7 + 2, none⟩ = some (.string sys) ∧ w'.cell? ⟨b1, o1 + k * 7 + 3, none⟩ = some (.int .i64 cls) ∧ w'.cell? ⟨b1, o1 + k * 7 + 4, none⟩ = some (.int .i64 tm) ∧ w'.cell? ⟨b1, o1 + k * 7 + 5, none⟩ = some (.slice lA lns.length lc) ∧ w'.cell? ⟨b1, o1 + k * 7 + 6, none⟩ = some (.int .i64 cn) ∧ w'.cell? ⟨b2, o2 + k * 7, none⟩ = some (.string key) ∧ w'.cell? ⟨b2, o2 + k * 7 + 1, none⟩ = some (.string veh) ∧ w'.cell? ⟨b2, o2 + k * 7 + 2, none⟩ = some (.string sys) ∧ w'.cell? ⟨b2, o2 + k * 7 + 3, none⟩ = some (.int .i64 cls) ∧ w'.cell? ⟨b2, o2 + k * 7 + 4, none⟩ = some (.int .i64 tm) ∧ w'.cell? ⟨b2, o2 + k * 7 + 5, none⟩ = some (.slice mA lns.length mc) ∧ w'.cell? ⟨b2, o2 + k * 7 + 6, none⟩ = some (.int .i64 cn))) (by kernel_rfl) ?_ (fun hHeld => ?_)
      · exact HSS.out
      have hSS : (fun w' : World => w'.cell? ⟨b1, o1 + k * 7, none⟩ = some (.string key) ∧ w'.cell? ⟨b1, o1 + k * 7 + 1, none⟩ = some (.string veh) ∧ w'.cell? ⟨b1, o1 + k * 7 + 2, none⟩ = some (.string sys) ∧ w'.cell? ⟨b1, o1 + k * 7 + 3, none⟩ = some (.int .i64 cls) ∧ w'.cell? ⟨b1, o1 + k * 7 + 4, none⟩ = some (.int .i64 tm) ∧ w'.cell? ⟨b1, o1 + k * 7 + 5, none⟩ = some (.slice lA lns.length lc) ∧ w'.cell? ⟨b1, o1 + k * 7 + 6, none⟩ = some (.int .i64 cn) ∧ w'.cell? ⟨b2, o2 + k * 7, none⟩ = some (.string key) ∧ w'.cell? ⟨b2, o2 + k * 7 + 1, none⟩ = some (.string veh) ∧ w'.cell? ⟨b2, o2 + k * 7 + 2, none⟩ = some (.string sys) ∧ w'.cell? ⟨b2, o2 + k * 7 + 3, none⟩ = some (.int .i64 cls) ∧ w'.cell? ⟨b2, o2 + k * 7 + 4, none⟩ = some (.int .i64 tm) ∧ w'.cell? ⟨b2, o2 + k * 7 + 5, none⟩ = some (.slice mA lns.length mc) ∧ w'.cell? ⟨b2, o2 + k * 7 + 6, none⟩ = some (.int .i64 cn)) wr.drew := HSS.out
      have HBr : Hid (Below wr.heap.size wr wr.drew) := Lib.hid (below_drewN (Below.refl _ wr) 1)
      generalize wr.drew = W0 at hSS hHeld HBr ⊢
      change wpAnyH _ _ _ _ _ 10 _ _ _
      refine wpAnyH_take (i := 0) (v := ?_) (by simp only [List.getElem?_toArray, List.getElem?_cons_zero, List.getElem?_cons_succ]; rfl) (by kernel_rfl) (by kernel_rfl) (by kernel_rfl) (by intro _ _ _ h; exact h) (Or.inl ⟨by rfl, ?_⟩) (by assumption) ?_; rotate_left; (focus (intro w1 hSw; (try dsimp only at hSw); go_simp; (try with_reducible rfl))); (try simp only [Act.put, List.setIfInBounds_toArray, List.set_cons_zero, List.set_cons_succ, List.getElem_toArray, List.getElem_cons_zero, List.getElem_cons_succ])
      refine wpAnyH_take (i := 1) (v := ?_) (by simp only [List.getElem?_toArray, List.getElem?_cons_zero, List.getElem?_cons_succ]; rfl) (by kernel_rfl) (by kernel_rfl) (by kernel_rfl) (by intro _ _ _ h; exact h) (Or.inl ⟨by rfl, ?_⟩) (by assumption) ?_; rotate_left; (focus (intro w1 hSw; (try dsimp only at hSw); go_simp; (try with_reducible rfl))); (try simp only [Act.put, List.setIfInBounds_toArray, List.set_cons_zero, List.set_cons_succ, List.getElem_toArray, List.getElem_cons_zero, List.getElem_cons_succ])
      refine wpAnyH_take (i := 2) (v := ?_) (by simp only [List.getElem?_toArray, List.getElem?_cons_zero, List.getElem?_cons_succ]; rfl) (by kernel_rfl) (by kernel_rfl) (by kernel_rfl) (by intro _ _ _ h; exact h) (Or.inl ⟨by rfl, ?_⟩) (by assumption) ?_; rotate_left; (focus (intro w1 hSw; (try dsimp only at hSw); go_simp; (try with_reducible rfl))); (try simp only [Act.put, List.setIfInBounds_toArray, List.set_cons_zero, List.set_cons_succ, List.getElem_toArray, List.getElem_cons_zero, List.getElem_cons_succ])
      refine wpAnyH_take (i := 3) (v := ?_) (by simp only [List.getElem?_toArray, List.getElem?_cons_zero, List.getElem?_cons_succ]; rfl) (by kernel_rfl) (by kernel_rfl) (by kernel_rfl) (by intro _ _ _ h; exact h) (Or.inl ⟨by rfl, ?_⟩) (by assumption) ?_; rotate_left; (focus (intro w1 hSw; (try dsimp only at hSw); go_simp; (try with_reducible rfl))); (try simp only [Act.put, List.setIfInBounds_toArray, List.set_cons_zero, List.set_cons_succ, List.getElem_toArray, List.getElem_cons_zero, List.getElem_cons_succ])
      refine wpAnyH_take (i := 4) (v := ?_) (by simp only [List.getElem?_toArray, List.getElem?_cons_zero, List.getElem?_cons_succ]; rfl) (by kernel_rfl) (by kernel_rfl) (by kernel_rfl) (by intro _ _ _ h; exact h) (Or.inl ⟨by rfl, ?_⟩) (by assumption) ?_; rotate_left; (focus (intro w1 hSw; (try dsimp only at hSw); go_simp; (try with_reducible rfl))); (try simp only [Act.put, List.setIfInBounds_toArray, List.set_cons_zero, List.set_cons_succ, List.getElem_toArray, List.getElem_cons_zero, List.getElem_cons_succ])
      refine wpAnyH_take (i := 5) (v := ?_) (by simp only [List.getElem?_toArray, List.getElem?_cons_zero, List.getElem?_cons_succ]; rfl) (by kernel_rfl) (by kernel_rfl) (by kernel_rfl) (by intro _ _ _ h; exact h) (Or.inl ⟨by rfl, ?_⟩) (by assumption) ?_; rotate_left; (focus (intro w1 hSw; (try dsimp only at hSw); go_simp; (try with_reducible rfl))); (try simp only [Act.put, List.setIfInBounds_toArray, List.set_cons_zero, List.set_cons_succ, List.getElem_toArray, List.getElem_cons_zero, List.getElem_cons_succ])
      refine wpAnyH_take (i := 6) (v := ?_) (by simp only [List.getElem?_toArray, List.getElem?_cons_zero, List.getElem?_cons_succ]; rfl) (by kernel_rfl) (by kernel_rfl) (by kernel_rfl) (by intro _ _ _ h; exact h) (Or.inl ⟨by rfl, ?_⟩) (by assumption) ?_; rotate_left; (focus (intro w1 hSw; (try dsimp only at hSw); go_simp; (try with_reducible rfl))); (try simp only [Act.put, List.setIfInBounds_toArray, List.set_cons_zero, List.set_cons_succ, List.getElem_toArray, List.getElem_cons_zero, List.getElem_cons_succ])
      refine wpAnyH_take (i := 7) (v := ?_) (by simp only [List.getElem?_toArray, List.getElem?_cons_zero, List.getElem?_cons_succ]; rfl) (by kernel_rfl) (by kernel_rfl) (by kernel_rfl) (by intro _ _ _ h; exact h) (Or.inl ⟨by rfl, ?_⟩) (by assumption) ?_; rotate_left; (focus (intro w1 hSw; (try dsimp only at hSw); go_simp; (try with_reducible rfl))); (try simp only [Act.put, List.setIfInBounds_toArray, List.set_cons_zero, List.set_cons_succ, List.getElem_toArray, List.getElem_cons_zero, List.getElem_cons_succ])
      refine wpAnyH_ready (rs := [8]) (by kernel_rfl) (by simp) ?_; refine AllReadyH.cons (by simp only [List.getElem?_toArray, List.getElem?_cons_zero, List.getElem?_cons_succ]; rfl) (fun K hK => ?_) AllReadyH.nil
      rw [if_pos (by rfl)]; go_wp2_with fail
      refine (CC.out _ HBr.out).mono ?_
      rintro e wn ⟨rfl, hbn⟩
      have HBn := Lib.hid (HBr.out.st hbn)
      have hSS : (fun w' : World => w'.cell? ⟨b1, o1 + k * 7, none⟩ = some (.string key) ∧ w'.cell? ⟨b1, o1 + k * 7 + 1, none⟩ = some (.string veh) ∧ w'.cell? ⟨b1, o1 + k * 7 + 2, none⟩ = some (.string sys) ∧ w'.cell? ⟨b1, o1 + k * 7 + 3, none⟩ = some (.int .i64 cls) ∧ w'.cell? ⟨b1, o1 + k * 7 + 4, none⟩ = some (.int .i64 tm) ∧ w'.cell? ⟨b1, o1 + k * 7 + 5, none⟩ = some (.slice lA lns.length lc) ∧ w'.cell? ⟨b1, o1 + k * 7 + 6, none⟩ = some (.int .i64 cn) ∧ w'.cell? ⟨b2, o2 + k * 7, none⟩ = some (.string key) ∧ w'.cell? ⟨b2, o2 + k * 7 + 1, none⟩ = some (.string veh) ∧ w'.cell? ⟨b2, o2 + k * 7 + 2, none⟩ = some (.string sys) ∧ w'.cell? ⟨b2, o2 + k * 7 + 3, none⟩ = some (.int .i64 cls) ∧ w'.cell? ⟨b2, o2 + k * 7 + 4, none⟩ = some (.int .i64 tm) ∧ w'.cell? ⟨b2, o2 + k * 7 + 5, none⟩ = some (.slice mA lns.length mc) ∧ w'.cell? ⟨b2, o2 + k * 7 + 6, none⟩ = some (.int .i64 cn)) wn := HKP.out wn HBn.out
      clear hbn
      go_wp2_with fail
      refine hK.out _ _ ?_ (fun hHeld => ?_)
      · exact hSS
      clear hK K
      (try simp only [Act.put, List.setIfInBounds_toArray, List.set_cons_zero, List.set_cons_succ, List.getElem_toArray, List.getElem_cons_zero, List.getElem_cons_succ])
      refine wpAnyH_take (i := 9) (v := ?_) (by simp only [List.getElem?_toArray, List.getElem?_cons_zero, List.getElem?_cons_succ]; rfl) (by kernel_rfl) (by kernel_rfl) (by kernel_rfl) (by intro _ _ _ h; exact h) (Or.inl ⟨by rfl, ?_⟩) (by assumption) ?_; rotate_left; (focus (intro w1 hSw; (try dsimp only at hSw); go_simp; (try with_reducible rfl))); (try simp only [Act.put, List.setIfInBounds_toArray, List.set_cons_zero, List.set_cons_succ, List.getElem_toArray, List.getElem_cons_zero, List.getElem_cons_succ])
      refine wpAnyH_done (by kernel_rfl) ?_ _
      clear hSS hHeld HSS HKP CC HBr
      have bW := HBW.out.st HBn.out
      go_wp2_with fail
      go_roundw
      case rel => exact ⟨k + 1, HK.out, by go_num, bW⟩
      case measure => have := HK.out; simp [RowKit.intOf]; omega
    · obtain rfl : k = l.length := by omega
      go_wp2_with fail
      go_ret
      exact ⟨rfl, bW⟩
end Go.Proofs.Ytcpfiiapfggmpaa
