/- Joined texts: MSortSm, MSortOwn, BillDays1, RelSame. -/
import Derived.Test.YtlnnbkpcnhlfcaaDoorJBillDayIx
import Derived.Test.YtlnnbkpcnhlfcaaDoorJOStabOwn
import Derived.Test.YtlnnbkpcnhlfcaaDoorJAppAt
import Derived.Test.YtlnnbkpcnhlfcaaDoorJBillCopy
import Derived.Test.YtlnnbkpcnhlfcaaDoorJInts
import Derived.BigQuiet
import Derived.IntWalk
/- slices.SortFunc of at most twelve ints where the comparison is a method value, walked. -/

namespace Go.Proofs.YtlnnbkpcnhlfcaaDoor
open Go.RowKit Go.Lib Go.Sort Go.Shelf

section
variable {β : Type} [Inhabited β] {enc : β → Value} {w0 W : World} {blk off : Nat} {d0 d : Array β}
set_option maxHeartbeats 2000000 in
set_option maxRecDepth 1000000 in
theorem pdqMsm_any (R : Row1 enc w0 blk off d0) (cf : β → β → Int) (g : Nat) (rv : Value) (eg : ∀ args w, (callFunc g args).run Tryd.prog w = .ok (.enter g args) w) (hC : CmpM Tryd.prog g rv enc cf blk off d0.size w0)
    (hs : d.size = d0.size) (hsz : d0.size ≤ 12) (cap : Nat) (lim : Int) (hW : SW enc w0 blk off d W) :
    Calls Tryd.prog 82 #[.slice (some ⟨blk, off, none⟩) d0.size cap, .int .i64 0, .int .i64 d0.size, .int .i64 lim, (.func (.func g) #[rv] #[])] W fun e w' =>
      e = .returned (.tuple #[]) ∧ SW enc w0 blk off (Sort.insertionSort (ltOf cf) d 0 d0.size) w' := by
  have e20 : ∀ args w, (callFunc 95 args).run Tryd.prog w = .ok (.enter 95 args) w := enters_of Tryd.func95 (by kernel_rfl) rfl
  have CI := Lib.hid (insM_any R cf g rv eg hC hs (by omega) cap 0 d0.size (Nat.zero_le _) (Nat.le_refl _) hW)
  have hle : (d0.size : Int) ≤ 12 := by omega
  clear hW R hC hs
  go_enter Tryd.func82, Tryd.ntmps82
  go_wp2
  refine wp_loop_rounds 1 ?_
  rw [rounds_succ]
  go_wp2_with fail
  refine CI.out.mono ?_
  rintro e w' ⟨rfl, hK⟩
  go_wp2_with fail
  (try simp only [Exit.inBlock, Exit.then])
  refine bodyPost_ret (results_none rfl _ _ _) rfl ?_
  exact ⟨rfl, hK⟩
set_option maxHeartbeats 2000000 in
set_option maxRecDepth 1000000 in
theorem msortsm_any (h1 : OneCell enc) (cf : β → β → Int) (g : Nat) (rv : Value) (eg : ∀ args w, (callFunc g args).run Tryd.prog w = .ok (.enter g args) w) (hC : CmpM Tryd.prog g rv enc cf blk off d.size W)
    (hH : Holds enc W blk off d) (hblk : blk < W.heap.size) (hsz : d.size ≤ 12) (cap : Nat) :
    Calls Tryd.prog 50 #[.slice (some ⟨blk, off, none⟩) d.size cap, (.func (.func g) #[rv] #[])] W fun e w' =>
      e = .returned (.tuple #[]) ∧ SW enc W blk off (Sort.insertionSort (ltOf cf) d 0 d.size) w' := by
  have e14 : ∀ args w, (callFunc 82 args).run Tryd.prog w = .ok (.enter 82 args) w := enters_of Tryd.func82 (by kernel_rfl) rfl
  have L := Tryd.lay_sort_f50
  have e15 : ∀ args w, (callFunc 83 args).run Tryd.prog w = .ok (.enter 83 args) w := enters_of Tryd.func83 (by kernel_rfl) rfl
  have CL := Lib.hid (fun (X : World) => show Calls Tryd.prog 83 #[.int .u64 (d.size : Int)] X fun e w' => e = .returned (.int .i64 (Lib.bitLen d.size : Nat)) ∧ w' = X from Any.bits_Len (SlLaysF0.n15.bits (P := Tryd.prog) (ρ := Tryd.lay_sort_f50_ren) { L with }) d.size X (by omega) (by omega))
  have R : Row1 enc W blk off d := ⟨h1, hH, hblk⟩
  have HI := Lib.hid (fun (lim : Int) => pdqMsm_any R cf g rv eg hC rfl hsz cap lim (SW.start hH))
  generalize Lib.bitLen d.size = bl at *
  have hle : (d.size : Int) ≤ 12 := by omega
  clear hC R hH hblk L
  go_enter Tryd.func50, Tryd.ntmps50
  go_wp2_with fail
  refine (CL.out _).mono ?_
  rintro e w' ⟨rfl, rfl⟩
  go_wp2_with fail
  refine (HI.out _).mono ?_
  rintro e w' ⟨rfl, hK⟩
  go_wp2_with fail
  go_end0
  exact ⟨rfl, hK⟩
end
end Go.Proofs.YtlnnbkpcnhlfcaaDoor
/- slices.SortFunc on ints of the call's own where the comparison is a method value. -/

namespace Go.Proofs.YtlnnbkpcnhlfcaaDoor
open Go.RowKit Go.Lib Go.Sort Go.Shelf

theorem osortM_none (A : Option Addr) (cap : Nat) (fv : Value) (w : World) : Calls Tryd.prog 50 #[.slice A 0 cap, fv] w fun e w' => e = .returned (.tuple #[]) ∧ w' = w := osort_none A cap fv w
theorem osortM_own {β : Type} [Inhabited β] {enc : β → Value} {w : World} {base : Nat} {A : Option Addr} {c : Nat} {l : List β} (h1 : OneCell enc) (hE : Enc (fun x : β => [enc x]) 1) (cf : β → β → Int) (hO : SWO (ltOf cf)) (g : Nat) (rv : Value)
    (eg : ∀ args w, (callFunc g args).run Tryd.prog w = .ok (.enter g args) w) (hcmp : ∀ (W : World) (_ : Elsewhere w A W) (x y : β), Calls Tryd.prog g #[rv, enc x, enc y] W fun e w' => e = .returned (.int .i64 (cf x y)) ∧ Gr W w')
    (h : Own 3 (fun x => [enc x]) 1 w base A c l) (hb : base ≤ w.heap.size) (hsz : l.length ≤ 12) :
    Calls Tryd.prog 50 #[.slice A l.length c, (.func (.func g) #[rv] #[])] w fun en w' => en = .returned (.tuple #[]) ∧ ∃ l' : List β, l'.Perm l ∧ l'.Pairwise (fun x y => ltOf cf y x = false) ∧ Own 3 (fun x => [enc x]) 1 w' base A c l' ∧ Below base w w' ∧ Elsewhere w A w' := by
  rcases h.form with ⟨rfl, rfl, rfl⟩ | ⟨g0, hA, hg1, hg2⟩
  · refine (osortM_none none 0 _ w).mono ?_
    rintro en w' ⟨rfl, rfl⟩
    exact ⟨rfl, [], List.Perm.refl _, List.Pairwise.nil, h, Below.refl _ _, Nat.le_refl _, fun _ _ _ => rfl⟩
  · have hcon := msortsm_any (d := l.toArray) (cap := c) (W := w) (blk := g0) (off := 0) h1 cf g rv eg (fun m os dk _ x y => hcmp _ (by rw [sortWorld1, hA]; exact sortWorldK_else _ _ _ _ _ _ _) x y) (holds1 (h.holds hE hA)) hg2 (by simpa using hsz)
    subst hA
    rw [List.size_toArray] at hcon
    refine hcon.mono ?_
    rintro en w' ⟨rfl, n, os, rfl⟩
    obtain ⟨hp, hs⟩ := insertionSort_holds (lt := ltOf cf) hO l.toArray 0 l.length (Nat.zero_le _) (by simp)
    generalize Sort.insertionSort (ltOf cf) l.toArray 0 l.length = d' at *
    have hd : d'.size = l.length := by simpa using hp.1
    obtain ⟨h1, h2⟩ := h.sorted hE (g := g0) (n := n) (os := os) rfl hd
    rw [sortWorld1]
    refine ⟨rfl, d'.toList, ?_, ?_, h1, h2, sortWorldK_else _ _ _ _ _ _ _⟩
    · have := hp.2.2
      have e1 : d'.extract 0 l.length = d' := by rw [← hd, Array.extract_size]
      have e2 : l.toArray.extract 0 l.length = l.toArray := by rw [← List.size_toArray, Array.extract_size]
      rw [e1, e2] at this
      exact this
    · rw [List.pairwise_iff_getElem]
      intro i j hi hj hij
      rw [Array.length_toList] at hi hj
      have := hs i j (Nat.zero_le _) hij (by omega)
      rw [getElem!_pos d' j hj, getElem!_pos d' i hi] at this
      simpa using this
end Go.Proofs.YtlnnbkpcnhlfcaaDoor
/- bill.Days, walked: the order. -/
set_option linter.unusedSimpArgs false
namespace Go.Proofs.YtlnnbkpcnhlfcaaDoor
open Go.RowKit Go.Lib Go.Sort Go.Shelf

/-- the sort of the places, by their days -/
theorem dsort_any {A : Option Addr} (c : Nat) {l : List Cg} {w : World} {base : Nat} {Ao : Option Addr} (co : Nat) (hr : Rd encCg 7 w base A l) (hbase : base ≤ w.heap.size) {o : List Nat} (hol : ∀ i ∈ o, i < l.length) (hsz : o.length ≤ 12)
    (hown : Own 3 encI 1 w base Ao co (castL o)) :
    Calls Tryd.prog 50 #[.slice Ao o.length co, .func (.func 51) #[.agg #[.slice A l.length c]] #[]] w fun e w' => e = .returned (.tuple #[]) ∧ ∃ o' : List Nat, o'.Perm o ∧ AscD (cvs l) o' ∧ Own 3 encI 1 w' base Ao co (castL o') ∧ Below base w w' := by
  by_cases hn : l.length = 0
  · have h0 : o = [] := by
      cases o with
      | nil => rfl
      | cons x o => have := hol x (List.mem_cons_self ..); omega
    subst h0
    refine (osortM_none _ _ _ w).mono ?_
    rintro e w' ⟨rfl, rfl⟩
    exact ⟨rfl, [], List.Perm.refl _, List.Pairwise.nil, hown, Below.refl _ _⟩
  · haveI : Inhabited (Fin l.length) := ⟨⟨0, by omega⟩⟩
    obtain ⟨of, rfl⟩ : ∃ of : List (Fin l.length), of.map Fin.val = o := ⟨o.attach.map fun p => ⟨p.1, hol p.1 p.2⟩, by rw [List.map_map]; exact List.attach_map_subtype_val o⟩
    have hown2 := (own_fin _).1 hown
    have eg : ∀ args w, (callFunc 51 args).run Tryd.prog w = .ok (.enter 51 args) w := enters_of Tryd.func51 (by kernel_rfl) rfl
    have hsrt := osortM_own (c := co) (l := of) encF1 encFE (fun i k : Fin l.length => cmpD (cvs l) i.1 k.1) ⟨fun x => (cmpD_swo _).irrefl _, fun x y z => (cmpD_swo _).trans _ _ _, fun x y z => (cmpD_swo _).ntrans _ _ _⟩ 51 (.agg #[.slice A l.length c]) eg (fun W hW x y => by
      have hr2 : Rd encCg 7 W W.heap.size A l := fun hne => by
        obtain ⟨b, off, hA, hbl, hc⟩ := hr hne
        refine ⟨b, off, hA, by have := hW.1; omega, fun i x hi j u hu => ?_⟩
        have e2 : W.heap[b]? = w.heap[b]? := hW.2 b (by omega) (fun g q => by
          rcases hown2.form with ⟨h1, _⟩ | ⟨g', h1, h2, _⟩
          · rw [h1] at q; cases q
          · rw [h1] at q; injection q with q; injection q with q; omega)
        exact (World.cell?_of_block e2).trans (hc i x hi j u hu)
      exact dcmp_any c hr2 x.1 y.1 x.2 y.2) hown2 hbase (by simpa using hsz)
    have hfl : (of.map Fin.val).length = of.length := List.length_map ..
    rw [hfl]
    refine hsrt.mono ?_
    rintro e w' ⟨rfl, l', hp, hs, ho, hbl, -⟩
    refine ⟨rfl, l'.map Fin.val, hp.map _, ?_, (own_fin _).2 ho, hbl⟩
    unfold AscD
    rw [List.pairwise_map]
    refine hs.imp fun {x y} h => ?_
    unfold ltOf cmpD at h
    have : ¬ (dayN (chAt (cvs l) y.1).tm - dayN (chAt (cvs l) x.1).tm < 0) := of_decide_eq_false h
    omega
end Go.Proofs.YtlnnbkpcnhlfcaaDoor
/- SameNumbers, SameLines, SameCharge at equal values, walked. -/
namespace Go.Proofs.YtlnnbkpcnhlfcaaDoor
open Go.RowKit Go.Lib

set_option maxRecDepth 100000 in
set_option maxHeartbeats 4000000 in
theorem sameN_true {A A2 : Option Addr} (c c2 : Nat) {l : List Int} {w : World} (h1 : Rd encI 1 w w.heap.size A l) (h2 : Rd encI 1 w w.heap.size A2 l) (hl : l.length ≤ 9223372036854775807) :
    Calls Tryd.prog 28 #[.slice A l.length c, .slice A2 l.length c2] w fun e w' => e = .returned (.bool true) ∧ Below w.heap.size w w' := by
  have H1 := Lib.hid h1
  have H2 := Lib.hid h2
  clear h1 h2
  go_enter Tryd.func28, Tryd.ntmps28
  go_wp2
  go_loopw [5] (fun i wr => ∃ k : Nat, k ≤ l.length ∧ i = .int .i64 k ∧ ∃ n, wr = w.drewN n) (fun i _ => l.length - (intOf i).toNat)
  case atStart => exact ⟨0, Nat.zero_le _, rfl, 0, rfl⟩
  case round =>
    obtain ⟨k, hk, rfl, n, rfl⟩ := hrel
    by_cases hi : k < l.length
    · obtain ⟨b, off, x, rfl, hb, hx, d0⟩ := H1.out.i hi
      obtain ⟨b', off', x', rfl, hb', hx', e0⟩ := H2.out.i hi
      rw [hx] at hx'
      obtain rfl : x = x' := by simpa using hx'
      have hi1 : (0 : Int) ≤ (k : Int) := by omega
      have hi2 : (k : Int) < (l.length : Int) := by omega
      have HL := Lib.hid hi
      clear hx hx' hk hi
      go_wp2_with fail
      go_quiet (fail)
      go_wp2
      go_roundw
      case rel => exact ⟨k + 1, HL.out, by go_num, _, rfl⟩
      case measure => have := HL.out; simp [intOf]; omega
    · obtain rfl : k = l.length := by omega
      go_wp2
      go_ret
      exact ⟨rfl, below_drewN (Below.refl _ w) _⟩

set_option maxRecDepth 100000 in
set_option maxHeartbeats 4000000 in
theorem sameL_true {A A2 : Option Addr} (c c2 : Nat) {l : List Ln} {w : World} (h1 : Rd encLn 2 w w.heap.size A l) (h2 : Rd encLn 2 w w.heap.size A2 l) (hl : l.length ≤ 9223372036854775807) :
    Calls Tryd.prog 54 #[.slice A l.length c, .slice A2 l.length c2] w fun e w' => e = .returned (.bool true) ∧ Below w.heap.size w w' := by
  have H1 := Lib.hid h1
  have H2 := Lib.hid h2
  clear h1 h2
  go_enter Tryd.func54, Tryd.ntmps54
  go_wp2
  go_loopw [5] (fun i wr => ∃ k : Nat, k ≤ l.length ∧ i = .int .i64 k ∧ ∃ n, wr = w.drewN n) (fun i _ => l.length - (intOf i).toNat)
  case atStart => exact ⟨0, Nat.zero_le _, rfl, 0, rfl⟩
  case round =>
    obtain ⟨k, hk, rfl, n, rfl⟩ := hrel
    by_cases hi : k < l.length
    · obtain ⟨b, off, s, x, rfl, hb, hx, d0, d1⟩ := H1.out.ln hi
      obtain ⟨b', off', s', x', rfl, hb', hx', e0, e1⟩ := H2.out.ln hi
      rw [hx] at hx'
      simp only [Option.some.injEq, Prod.mk.injEq] at hx'
      obtain ⟨rfl, rfl⟩ := hx'
      have hi1 : (0 : Int) ≤ (k : Int) := by omega
      have hi2 : (k : Int) < (l.length : Int) := by omega
      have hn : (s.toList == s.toList) = true := by simp
      have HL := Lib.hid hi
      clear hx hk hi
      go_wp2_with fail
      go_quiet (fail)
      go_wp2
      go_roundw
      case rel => exact ⟨k + 1, HL.out, by go_num, _, rfl⟩
      case measure => have := HL.out; simp [intOf]; omega
    · obtain rfl : k = l.length := by omega
      go_wp2
      go_ret
      exact ⟨rfl, below_drewN (Below.refl _ w) _⟩

set_option maxRecDepth 100000 in
set_option maxHeartbeats 4000000 in
theorem sameC_true (c : CV) {A A2 : Option Addr} (cap cap2 : Nat) {w : World} (h1 : Rd encLn 2 w w.heap.size A c.lns) (h2 : Rd encLn 2 w w.heap.size A2 c.lns) (hl : c.lns.length ≤ 9223372036854775807) :
    Calls Tryd.prog 31 #[CHV c A cap, CHV c A2 cap2] w fun e w' => e = .returned (.bool true) ∧ Below w.heap.size w w' := by
  have CC := Lib.hid (fun (X : World) (hX : Below w.heap.size w X) => sameL_true cap cap2 (h1.st hX) (h2.st hX) hl)
  clear h1 h2
  obtain ⟨key, veh, sys, cls, tm, lns, ct⟩ := c
  simp only [CHV] at *
  obtain ⟨Y1, hY1⟩ : ∃ Y, w.alloc (.cells #[.string key, .string veh, .string sys, .int .i64 cls, .int .i64 tm, .slice A lns.length cap, .int .i64 ct] 82) = Y := ⟨_, rfl⟩
  have b1 : Below w.heap.size w Y1 := by rw [← hY1]; exact (Below.refl _ w).al _
  have S1 : Blk Y1 w.heap.size #[.string key, .string veh, .string sys, .int .i64 cls, .int .i64 tm, .slice A lns.length cap, .int .i64 ct] 82 := by rw [← hY1]; exact Blk.new w _ _
  obtain ⟨Y2, hY2⟩ : ∃ Y, Y1.alloc (.cells #[.string key, .string veh, .string sys, .int .i64 cls, .int .i64 tm, .slice A2 lns.length cap2, .int .i64 ct] 82) = Y := ⟨_, rfl⟩
  have b2 : Below w.heap.size w Y2 := by rw [← hY2]; exact b1.st ((Below.refl _ Y1).al _)
  have S1 : Blk Y2 w.heap.size #[.string key, .string veh, .string sys, .int .i64 cls, .int .i64 tm, .slice A lns.length cap, .int .i64 ct] 82 := by rw [← hY2]; exact S1.below ((Below.refl _ Y1).al _) S1.lt
  have S2 : Blk Y2 Y1.heap.size #[.string key, .string veh, .string sys, .int .i64 cls, .int .i64 tm, .slice A2 lns.length cap2, .int .i64 ct] 82 := by rw [← hY2]; exact Blk.new Y1 _ _
  have CC := Lib.hid (CC.out _ b2)
  have q0 : Y2.cell? ⟨w.heap.size, 0, none⟩ = some (.string key) := S1.cell 0 rfl
  have q1 : Y2.cell? ⟨w.heap.size, 1, none⟩ = some (.string veh) := S1.cell 1 rfl
  have q2 : Y2.cell? ⟨w.heap.size, 2, none⟩ = some (.string sys) := S1.cell 2 rfl
  have q3 : Y2.cell? ⟨w.heap.size, 3, none⟩ = some (.int .i64 cls) := S1.cell 3 rfl
  have q4 : Y2.cell? ⟨w.heap.size, 4, none⟩ = some (.int .i64 tm) := S1.cell 4 rfl
  have q5 : Y2.cell? ⟨w.heap.size, 5, none⟩ = some (.slice A lns.length cap) := S1.cell 5 rfl
  have q6 : Y2.cell? ⟨w.heap.size, 6, none⟩ = some (.int .i64 ct) := S1.cell 6 rfl
  have p0 : Y2.cell? ⟨Y1.heap.size, 0, none⟩ = some (.string key) := S2.cell 0 rfl
  have p1 : Y2.cell? ⟨Y1.heap.size, 1, none⟩ = some (.string veh) := S2.cell 1 rfl
  have p2 : Y2.cell? ⟨Y1.heap.size, 2, none⟩ = some (.string sys) := S2.cell 2 rfl
  have p3 : Y2.cell? ⟨Y1.heap.size, 3, none⟩ = some (.int .i64 cls) := S2.cell 3 rfl
  have p4 : Y2.cell? ⟨Y1.heap.size, 4, none⟩ = some (.int .i64 tm) := S2.cell 4 rfl
  have p5 : Y2.cell? ⟨Y1.heap.size, 5, none⟩ = some (.slice A2 lns.length cap2) := S2.cell 5 rfl
  have p6 : Y2.cell? ⟨Y1.heap.size, 6, none⟩ = some (.int .i64 ct) := S2.cell 6 rfl
  have k1 : (key.toList == key.toList) = true := by simp
  have k2 : (veh.toList == veh.toList) = true := by simp
  have k3 : (sys.toList == sys.toList) = true := by simp
  go_enter Tryd.func31, Tryd.ntmps31
  go_wp2_with (go_at_call 54; with_reducible refine (CC.out).mono ?_; rintro e w5 ⟨rfl, hb5⟩)
  go_ret
  exact ⟨rfl, b2.st hb5⟩
end Go.Proofs.YtlnnbkpcnhlfcaaDoor
