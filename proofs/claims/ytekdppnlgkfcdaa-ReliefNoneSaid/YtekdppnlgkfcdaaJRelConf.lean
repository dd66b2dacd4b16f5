/- Joined texts: RelConf, RelWaive. -/
import Derived.Test.YtekdppnlgkfcdaaJRelEnc
import Derived.Test.YtekdppnlgkfcdaaBox
import Derived.Test.YtekdppnlgkfcdaaShelf
import Derived.BigQuiet
import Derived.IntWalk
/- conf: a configuration with devices and rules. -/
namespace Go.Proofs.Ytekdppnlgkfcdaa
open Go.RowKit Go.Lib

set_option maxRecDepth 100000 in
set_option maxHeartbeats 4000000 in
theorem conf_any {dvA rlA : Option Addr} (dvc rlc : Nat) {dvs : List Dv} {rls : List Iv} (w : World) :
    Calls Try.prog 17 #[(.agg #[.slice dvA dvs.length dvc, .slice rlA rls.length rlc])] w fun e w' => e = .returned (.agg #[.slice none 0 0, .slice none 0 0, .slice none 0 0, .slice dvA dvs.length dvc, .slice none 0 0, .slice none 0 0, .int .i64 0, .int .i64 0, .slice none 0 0, .int .i64 0, .slice none 0 0, .slice none 0 0, .slice none 0 0, .slice none 0 0, .slice none 0 0, .slice none 0 0, .slice none 0 0, .slice none 0 0, .slice rlA rls.length rlc, .slice none 0 0, .slice none 0 0, .slice none 0 0, .int .i64 0, .slice none 0 0, .string ⟨#[]⟩]) ∧ Below w.heap.size w w' := by
  obtain ⟨Y1, hY1⟩ : ∃ Y, w.alloc (.cells #[.slice dvA dvs.length dvc, .slice rlA rls.length rlc] 32) = Y := ⟨_, rfl⟩
  have b1 : Below w.heap.size w Y1 := by rw [← hY1]; exact (Below.refl _ w).al _
  have S1 : Blk Y1 w.heap.size #[.slice dvA dvs.length dvc, .slice rlA rls.length rlc] 32 := by rw [← hY1]; exact Blk.new w _ _
  have hlt : w.heap.size < Y1.heap.size := S1.lt
  have p0 : Y1.cell? ⟨w.heap.size, 0, none⟩ = some (.slice dvA dvs.length dvc) := S1.cell 0 rfl
  have p1 : Y1.cell? ⟨w.heap.size, 1, none⟩ = some (.slice rlA rls.length rlc) := S1.cell 1 rfl
  obtain ⟨Y2, hY2⟩ : ∃ Y, Y1.alloc (.cells #[.slice none 0 0, .slice none 0 0, .slice none 0 0, .slice none 0 0, .slice none 0 0, .slice none 0 0, .int .i64 0, .int .i64 0, .slice none 0 0, .int .i64 0, .slice none 0 0, .slice none 0 0, .slice none 0 0, .slice none 0 0, .slice none 0 0, .slice none 0 0, .slice none 0 0, .slice none 0 0, .slice none 0 0, .slice none 0 0, .slice none 0 0, .slice none 0 0, .int .i64 0, .slice none 0 0, .string ⟨#[]⟩] 60) = Y := ⟨_, rfl⟩
  have d2 : Below Y1.heap.size Y1 Y2 := by rw [← hY2]; exact (Below.refl _ Y1).al _
  have S2 : Blk Y2 Y1.heap.size #[.slice none 0 0, .slice none 0 0, .slice none 0 0, .slice none 0 0, .slice none 0 0, .slice none 0 0, .int .i64 0, .int .i64 0, .slice none 0 0, .int .i64 0, .slice none 0 0, .slice none 0 0, .slice none 0 0, .slice none 0 0, .slice none 0 0, .slice none 0 0, .slice none 0 0, .slice none 0 0, .slice none 0 0, .slice none 0 0, .slice none 0 0, .slice none 0 0, .int .i64 0, .slice none 0 0, .string ⟨#[]⟩] 60 := by rw [← hY2]; exact Blk.new Y1 _ _
  have S1 := S1.below d2 hlt
  have b2 := b1.st d2
  have p0 : Y2.cell? ⟨w.heap.size, 0, none⟩ = some (.slice dvA dvs.length dvc) := S1.cell 0 rfl
  have p1 : Y2.cell? ⟨w.heap.size, 1, none⟩ = some (.slice rlA rls.length rlc) := S1.cell 1 rfl
  clear d2
  go_enter Try.func17, Try.ntmps17
  go_wp2_with (first | (refine wpList_boxBuild rfl (t := 60) rfl (cells := #[.slice none 0 0, .slice none 0 0, .slice none 0 0, .slice dvA dvs.length dvc, .slice none 0 0, .slice none 0 0, .int .i64 0, .int .i64 0, .slice none 0 0, .int .i64 0, .slice none 0 0, .slice none 0 0, .slice none 0 0, .slice none 0 0, .slice none 0 0, .slice none 0 0, .slice none 0 0, .slice none 0 0, .slice rlA rls.length rlc, .slice none 0 0, .slice none 0 0, .slice none 0 0, .int .i64 0, .slice none 0 0, .string ⟨#[]⟩]) (by kernel_rfl) ?_) | (refine wpList_boxStore rfl (ty := 60) (x := .tmp 2) (y := .tmp 7) rfl S2 rfl rfl (by kernel_rfl) rfl (by kernel_rfl) ?_; intro wz Sz hoz hbz))
  refine bodyPost_ret (v := .agg #[.slice none 0 0, .slice none 0 0, .slice none 0 0, .slice dvA dvs.length dvc, .slice none 0 0, .slice none 0 0, .int .i64 0, .int .i64 0, .slice none 0 0, .int .i64 0, .slice none 0 0, .slice none 0 0, .slice none 0 0, .slice none 0 0, .slice none 0 0, .slice none 0 0, .slice none 0 0, .slice none 0 0, .slice rlA rls.length rlc, .slice none 0 0, .slice none 0 0, .slice none 0 0, .int .i64 0, .slice none 0 0, .string ⟨#[]⟩]) ?_ rfl ⟨rfl, hbz _ _ b1.size b2⟩
  exact results_box Try.results17 _ rfl Sz ⟨_, Try.underlying60, by kernel_rfl⟩
end Go.Proofs.Ytekdppnlgkfcdaa
/- relief.Waived and the reference's Waived, walked. -/
namespace Go.Proofs.Ytekdppnlgkfcdaa
open Go.RowKit Go.Lib Go.Shelf

theorem outS_list : outS.toList = [111, 117, 116, 97, 103, 101] := by rw [ByteArray.toList_eq]
theorem eqS_out {s : ByteArray} {b : Bool} (h : eqS s outS = b) : (s.toList == [111, 117, 116, 97, 103, 101]) = b := by rw [← outS_list]; exact h
theorem anyS_snoc {l : List Ln} {k : Nat} {s : ByteArray} {n : Int} (h : l[k]? = some (s, n)) (hq : (l.take k).any (fun l => eqS l.1 outS) = false) (hs : eqS s outS = false) : (l.take (k + 1)).any (fun l => eqS l.1 outS) = false := by
  rw [List.take_add_one, h, List.any_append, hq]; simp [hs]
theorem anyS_yes {l : List Ln} {k : Nat} {s : ByteArray} {n : Int} (h : l[k]? = some (s, n)) (hs : eqS s outS = true) : l.any (fun l => eqS l.1 outS) = true :=
  List.any_eq_true.2 ⟨_, List.mem_of_getElem? h, hs⟩

set_option maxRecDepth 100000 in
set_option maxHeartbeats 4000000 in
theorem rwaive_any (c : CV) {lA : Option Addr} (lc : Nat) {w : World} (h : Rd encLn 2 w w.heap.size lA c.lns) (hl : c.lns.length ≤ 1000000) :
    Calls Try.prog 24 #[CHV c lA lc] w fun e w' => e = .returned (.bool (wvB c)) ∧ Below w.heap.size w w' := by
  obtain ⟨key, veh, sys, cls, tm, lns, ct⟩ := c
  have HY := Lib.hid (show lns.any (fun l => eqS l.1 outS) = true → wvB ⟨key, veh, sys, cls, tm, lns, ct⟩ = (ct == 0) from fun q => by unfold wvB; simp only; rw [q, Bool.and_true])
  have HN := Lib.hid (show lns.any (fun l => eqS l.1 outS) = false → wvB ⟨key, veh, sys, cls, tm, lns, ct⟩ = false from fun q => by unfold wvB; simp only; rw [q, Bool.and_false])
  generalize wvB ⟨key, veh, sys, cls, tm, lns, ct⟩ = r at *
  simp only [CHV] at *
  have H := Lib.hid h
  obtain ⟨Y, hY⟩ : ∃ Y, w.alloc (.cells #[.string key, .string veh, .string sys, .int .i64 cls, .int .i64 tm, .slice lA lns.length lc, .int .i64 ct] 64) = Y := ⟨_, rfl⟩
  have bW : Below w.heap.size w Y := by rw [← hY]; exact (Below.refl _ w).al _
  have bC : Blk Y w.heap.size #[.string key, .string veh, .string sys, .int .i64 cls, .int .i64 tm, .slice lA lns.length lc, .int .i64 ct] 64 := by rw [← hY]; exact Blk.new w _ _
  have H := Lib.hid (h.keep bW)
  have q5 : Y.cell? ⟨w.heap.size, 5, none⟩ = some (.slice lA lns.length lc) := bC.cell 5 rfl
  have q6 : Y.cell? ⟨w.heap.size, 6, none⟩ = some (.int .i64 ct) := bC.cell 6 rfl
  have hl' : (lns.length : Int) ≤ 1000000 := by omega
  clear h
  go_enter Try.func24, Try.ntmps24
  go_wp2
  clear hY
  go_loopw [3] (fun i wr => ∃ k : Nat, k ≤ lns.length ∧ i = .int .i64 k ∧ Hid ((lns.take k).any (fun l => eqS l.1 outS) = false) ∧ wr = Y) (fun i _ => lns.length - (intOf i).toNat)
  case atStart => exact ⟨0, Nat.zero_le _, rfl, by unfold Hid; simp, rfl⟩
  case round =>
    obtain ⟨k, hk, rfl, HQ, rfl⟩ := hrel
    by_cases hi : k < lns.length
    · obtain ⟨b, off, s, x, rfl, hb, hx, d0, d1⟩ := H.out.ln hi
      have hi1 : (0 : Int) ≤ (k : Int) := by omega
      have hi2 : (k : Int) < (lns.length : Int) := by omega
      have HL := Lib.hid hi
      cases hs : eqS s outS
      · have HQ2 := Lib.hid (anyS_snoc hx HQ.out hs)
        clear HQ hx hk hi
        have hs2 := eqS_out hs
        clear hs
        go_wp2
        go_roundw
        case rel => exact ⟨k + 1, HL.out, by go_num, HQ2, trivial⟩
        case measure => have := HL.out; simp [intOf]; omega
      · have R := Lib.hid (HY.out (anyS_yes hx hs))
        clear HQ hx hk hi HY HN
        have hs2 := eqS_out hs
        clear hs
        go_wp2
        go_ret
        exact ⟨by rw [R.out]; rfl, bW⟩
    · obtain rfl : k = lns.length := by omega
      have R := Lib.hid (HN.out (by have := HQ.out; rwa [List.take_length] at this))
      clear HQ HY HN
      go_wp2
      go_ret
      exact ⟨by rw [R.out]; rfl, bW⟩
theorem waiveClosure_any (x : Ln) (W : World) :
    Calls Try.prog 36 #[.agg #[.string x.1, .int .i64 x.2]] W fun e w' => e = .returned (.bool (eqS x.1 outS)) ∧ Below W.heap.size W w' := by
  obtain ⟨s, n⟩ := x
  have hbel := (Below.refl W.heap.size W).al (.cells #[.string s, .int .i64 n] 86)
  simp only
  cases hs : eqS s outS
  all_goals
    have hs2 := eqS_out hs
    clear hs
    go_enter Try.func36, Try.ntmps36
    go_wp2
    go_ret
    exact ⟨rfl, hbel⟩
theorem containsL_any (p : Ln → Bool) (g : Nat) (lb : Array Value) (eg : ∀ args w, (callFunc g args).run Try.prog w = .ok (.enter g args) w) {A : Option Addr} (c : Nat) {l : List Ln} {w : World}
    (hp : ∀ (W : World) (x : Ln), Below w.heap.size w W → Calls Try.prog g (#[.agg #[.string x.1, .int .i64 x.2]] ++ lb) W fun e w' => e = .returned (.bool (p x)) ∧ Below w.heap.size w w')
    (h : Rd encLn 2 w w.heap.size A l) (hl : l.length ≤ 100000000000) :
    Calls Try.prog 35 #[.slice A l.length c, .func (.func g) #[] lb] w fun e w' => e = .returned (.bool (l.any p)) ∧ Below w.heap.size w w' := by
  by_cases hne : l = []
  · subst hne
    clear h hp eg
    go_enter Try.func35, Try.ntmps35
    go_wp2_with go_in
    refine wp_loop_rounds 1 ?_
    rw [rounds_succ]
    go_wp2
    go_ret
    exact ⟨rfl, Below.refl _ _⟩
  · obtain ⟨b, off, rfl, hb, hc⟩ := h hne
    have hcon := AnyQ.slices_ContainsFunc Try.lay_containsf_f35 2 Try.isAgg86 Try.sizeOf86 encLn encLn_ok.1 p g lb eg b off l.length c l w (fun W x hW => hp W x hW) (Nat.le_refl _) (by omega) hb
      (fun j hj i v hi => hc j l[j]! (by rw [getElem!_pos l j hj]; exact List.getElem?_eq_getElem hj) i v hi)
    rw [List.take_length] at hcon
    exact hcon
set_option maxRecDepth 100000 in
set_option maxHeartbeats 4000000 in
theorem qwaive_any (c : CV) {lA : Option Addr} (lc : Nat) {w : World} (h : Rd encLn 2 w w.heap.size lA c.lns) (hl : c.lns.length ≤ 1000000) :
    Calls Try.prog 23 #[CHV c lA lc] w fun e w' => e = .returned (.bool (wvB c)) ∧ Below w.heap.size w w' := by
  have eg : ∀ args w, (callFunc 36 args).run Try.prog w = .ok (.enter 36 args) w := enters_of Try.func36 (by kernel_rfl) rfl
  obtain ⟨key, veh, sys, cls, tm, lns, ct⟩ := c
  have HC := Lib.hid (show wvB ⟨key, veh, sys, cls, tm, lns, ct⟩ = ((ct == 0) && lns.any (fun l => eqS l.1 outS)) from rfl)
  generalize wvB ⟨key, veh, sys, cls, tm, lns, ct⟩ = r at *
  simp only [CHV] at *
  obtain ⟨Y, hY⟩ : ∃ Y, w.alloc (.cells #[.string key, .string veh, .string sys, .int .i64 cls, .int .i64 tm, .slice lA lns.length lc, .int .i64 ct] 64) = Y := ⟨_, rfl⟩
  have bW : Below w.heap.size w Y := by rw [← hY]; exact (Below.refl _ w).al _
  have bC : Blk Y w.heap.size #[.string key, .string veh, .string sys, .int .i64 cls, .int .i64 tm, .slice lA lns.length lc, .int .i64 ct] 64 := by rw [← hY]; exact Blk.new w _ _
  have q5 : Y.cell? ⟨w.heap.size, 5, none⟩ = some (.slice lA lns.length lc) := bC.cell 5 rfl
  have q6 : Y.cell? ⟨w.heap.size, 6, none⟩ = some (.int .i64 ct) := bC.cell 6 rfl
  have C := Lib.hid (containsL_any (fun l => eqS l.1 outS) 36 #[] eg lc (w := Y) (fun W x hW => (waiveClosure_any x W).mono fun e w' ⟨he, hw'⟩ => ⟨he, hW.st hw'⟩) (h.st bW) (Nat.le_trans hl (by omega)))
  generalize lns.any (fun l => eqS l.1 outS) = a at *
  clear h eg
  cases hz : ct == 0
  · have R := Lib.hid (show r = false by rw [HC.out, hz]; rfl)
    clear HC C
    go_enter Try.func23, Try.ntmps23
    go_wp2
    go_ret
    exact ⟨by rw [R.out]; rfl, bW⟩
  · have R := Lib.hid (show r = a by rw [HC.out, hz]; rfl)
    clear HC
    go_enter Try.func23, Try.ntmps23
    go_wp2_with (go_at_call 35; with_reducible refine (C.out).mono ?_; rintro e w5 ⟨rfl, hb5⟩)
    go_ret
    exact ⟨by rw [R.out]; rfl, bW.st hb5⟩
end Go.Proofs.Ytekdppnlgkfcdaa
