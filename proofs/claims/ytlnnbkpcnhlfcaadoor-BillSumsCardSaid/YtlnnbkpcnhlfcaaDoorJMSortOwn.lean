/- Joined texts: MSortOwn, BillDays1, RelSame, BillDays2. -/
import Derived.Test.YtlnnbkpcnhlfcaaDoorJMSortRd
import Derived.Test.YtlnnbkpcnhlfcaaDoorJBillDayIx
import Derived.Test.YtlnnbkpcnhlfcaaDoorJOStabOwn
import Derived.Test.YtlnnbkpcnhlfcaaDoorJAppAt
import Derived.Test.YtlnnbkpcnhlfcaaDoorJBillCopy
import Derived.Test.YtlnnbkpcnhlfcaaDoorJStrEq
import Derived.BigQuiet
import Derived.IntWalk
/- slices.SortFunc on ints of the call's own where the comparison is a method value. -/

namespace Go.Proofs.YtlnnbkpcnhlfcaaDoor
open Go.RowKit Go.Lib Go.Sort Go.Shelf

theorem osortM_none (A : Option Addr) (cap : Nat) (fv : Value) (w : World) : Calls Tryd.prog 50 #[.slice A 0 cap, fv] w fun e w' => e = .returned (.tuple #[]) ∧ w' = w := osort_none A cap fv w
theorem osortM_own {β : Type} [Inhabited β] {enc : β → Value} {w : World} {base : Nat} {A : Option Addr} {c : Nat} {l : List β} (h1 : OneCell enc) (hE : Enc (fun x : β => [enc x]) 1) (cf : β → β → Int) (hO : SWO (ltOf cf)) (g : Nat) (rv : Value)
    (eg : ∀ args w, (callFunc g args).run Tryd.prog w = .ok (.enter g args) w) (hcmp : ∀ (W : World) (_ : Elsewhere w A W) (x y : β), Calls Tryd.prog g #[rv, enc x, enc y] W fun e w' => e = .returned (.int .i64 (cf x y)) ∧ Gr W w')
    (h : Own 3 (fun x => [enc x]) 1 w base A c l) (hb : base ≤ w.heap.size) (hsz : l.length < 50) :
    Calls Tryd.prog 50 #[.slice A l.length c, (.func (.func g) #[rv] #[])] w fun en w' => en = .returned (.tuple #[]) ∧ ∃ l' : List β, l'.Perm l ∧ l'.Pairwise (fun x y => ltOf cf y x = false) ∧ Own 3 (fun x => [enc x]) 1 w' base A c l' ∧ Below base w w' ∧ Elsewhere w A w' := by
  rcases h.form with ⟨rfl, rfl, rfl⟩ | ⟨g0, hA, hg1, hg2⟩
  · refine (osortM_none none 0 _ w).mono ?_
    rintro en w' ⟨rfl, rfl⟩
    exact ⟨rfl, [], List.Perm.refl _, List.Pairwise.nil, h, Below.refl _ _, Nat.le_refl _, fun _ _ _ => rfl⟩
  · have hcon := msort_any (d := l.toArray) (cap := c) (W := w) (blk := g0) (off := 0) h1 cf hO g rv eg (fun m os dk _ x y => hcmp _ (by rw [sortWorld1, hA]; exact sortWorldK_else _ _ _ _ _ _ _) x y) (holds1 (h.holds hE hA)) hg2 (by simpa using hsz)
    subst hA
    rw [List.size_toArray] at hcon
    refine hcon.mono ?_
    rintro en w' ⟨rfl, n, os, rfl⟩
    obtain ⟨hp, hs⟩ := pdq_sorts (ltOf cf) hO l.toArray 0 l.length (Lib.bitLen l.length) true true (Nat.zero_le _) (by simp) (.inl rfl)
    generalize pdq (ltOf cf) l.toArray 0 l.length (Lib.bitLen l.length) true true = d' at *
    have hd : d'.size = l.length := by simpa using hp.1
    obtain ⟨h1, h2⟩ := h.sorted hE (g := g0) (n := n) (os := os) rfl hd
    rw [sortWorld1]
    refine ⟨rfl, d'.toList, ?_, ?_, h1, h2, sortWorldK_else _ _ _ _ _ _ _⟩
    · have := hp.2.2
      have e1 : d'.extract 0 l.length = d' := by rw [← hd, Array.extract_size]
      have e2 : l.toArray.extract 0 l.length = l.toArray := by rw [← List.size_toArray, Array.extract_size]
      rw [e1, e2] at this
      exact this
    · rw [List.pairwise_iff_getElem]
      intro i j hi hj hij
      rw [Array.length_toList] at hi hj
      have := hs i j (Nat.zero_le _) hij (by omega)
      rw [getElem!_pos d' j hj, getElem!_pos d' i hi] at this
      simpa using this
end Go.Proofs.YtlnnbkpcnhlfcaaDoor
/- bill.Days, walked: the order. -/
set_option linter.unusedSimpArgs false
namespace Go.Proofs.YtlnnbkpcnhlfcaaDoor
open Go.RowKit Go.Lib Go.Sort Go.Shelf

/-- the sort of the places, by their days -/
theorem dsort_any {A : Option Addr} (c : Nat) {l : List Cg} {w : World} {base : Nat} {Ao : Option Addr} (co : Nat) (hr : Rd encCg 7 w base A l) (hbase : base ≤ w.heap.size) {o : List Nat} (hol : ∀ i ∈ o, i < l.length) (hsz : o.length < 50)
    (hown : Own 3 encI 1 w base Ao co (castL o)) :
    Calls Tryd.prog 50 #[.slice Ao o.length co, .func (.func 51) #[.agg #[.slice A l.length c]] #[]] w fun e w' => e = .returned (.tuple #[]) ∧ ∃ o' : List Nat, o'.Perm o ∧ AscD (cvs l) o' ∧ Own 3 encI 1 w' base Ao co (castL o') ∧ Below base w w' := by
  by_cases hn : l.length = 0
  · have h0 : o = [] := by
      cases o with
      | nil => rfl
      | cons x o => have := hol x (List.mem_cons_self ..); omega
    subst h0
    refine (osortM_none _ _ _ w).mono ?_
    rintro e w' ⟨rfl, rfl⟩
    exact ⟨rfl, [], List.Perm.refl _, List.Pairwise.nil, hown, Below.refl _ _⟩
  · haveI : Inhabited (Fin l.length) := ⟨⟨0, by omega⟩⟩
    obtain ⟨of, rfl⟩ : ∃ of : List (Fin l.length), of.map Fin.val = o := ⟨o.attach.map fun p => ⟨p.1, hol p.1 p.2⟩, by rw [List.map_map]; exact List.attach_map_subtype_val o⟩
    have hown2 := (own_fin _).1 hown
    have eg : ∀ args w, (callFunc 51 args).run Tryd.prog w = .ok (.enter 51 args) w := enters_of Tryd.func51 (by kernel_rfl) rfl
    have hsrt := osortM_own (c := co) (l := of) encF1 encFE (fun i k : Fin l.length => cmpD (cvs l) i.1 k.1) ⟨fun x => (cmpD_swo _).irrefl _, fun x y z => (cmpD_swo _).trans _ _ _, fun x y z => (cmpD_swo _).ntrans _ _ _⟩ 51 (.agg #[.slice A l.length c]) eg (fun W hW x y => by
      have hr2 : Rd encCg 7 W W.heap.size A l := fun hne => by
        obtain ⟨b, off, hA, hbl, hc⟩ := hr hne
        refine ⟨b, off, hA, by have := hW.1; omega, fun i x hi j u hu => ?_⟩
        have e2 : W.heap[b]? = w.heap[b]? := hW.2 b (by omega) (fun g q => by
          rcases hown2.form with ⟨h1, _⟩ | ⟨g', h1, h2, _⟩
          · rw [h1] at q; cases q
          · rw [h1] at q; injection q with q; injection q with q; omega)
        exact (World.cell?_of_block e2).trans (hc i x hi j u hu)
      exact dcmp_any c hr2 x.1 y.1 x.2 y.2) hown2 hbase (by simpa using hsz)
    have hfl : (of.map Fin.val).length = of.length := List.length_map ..
    rw [hfl]
    refine hsrt.mono ?_
    rintro e w' ⟨rfl, l', hp, hs, ho, hbl, -⟩
    refine ⟨rfl, l'.map Fin.val, hp.map _, ?_, (own_fin _).2 ho, hbl⟩
    unfold AscD
    rw [List.pairwise_map]
    refine hs.imp fun {x y} h => ?_
    unfold ltOf cmpD at h
    have : ¬ (dayN (chAt (cvs l) y.1).tm - dayN (chAt (cvs l) x.1).tm < 0) := of_decide_eq_false h
    omega
end Go.Proofs.YtlnnbkpcnhlfcaaDoor
/- SameNumbers, SameLines, SameCharge at equal values, walked. -/
namespace Go.Proofs.YtlnnbkpcnhlfcaaDoor
open Go.RowKit Go.Lib

set_option maxRecDepth 100000 in
set_option maxHeartbeats 4000000 in
theorem sameN_true {A A2 : Option Addr} (c c2 : Nat) {l : List Int} {w : World} (h1 : Rd encI 1 w w.heap.size A l) (h2 : Rd encI 1 w w.heap.size A2 l) (hl : l.length ≤ 9223372036854775807) :
    Calls Tryd.prog 28 #[.slice A l.length c, .slice A2 l.length c2] w fun e w' => e = .returned (.bool true) ∧ Below w.heap.size w w' := by
  have H1 := Lib.hid h1
  have H2 := Lib.hid h2
  clear h1 h2
  go_enter Tryd.func28, Tryd.ntmps28
  go_wp2
  go_loopw [5] (fun i wr => ∃ k : Nat, k ≤ l.length ∧ i = .int .i64 k ∧ ∃ n, wr = w.drewN n) (fun i _ => l.length - (RowKit.intOf i).toNat)
  case atStart => exact ⟨0, Nat.zero_le _, rfl, 0, rfl⟩
  case round =>
    obtain ⟨k, hk, rfl, n, rfl⟩ := hrel
    by_cases hi : k < l.length
    · obtain ⟨b, off, x, rfl, hb, hx, d0⟩ := H1.out.i hi
      obtain ⟨b', off', x', rfl, hb', hx', e0⟩ := H2.out.i hi
      rw [hx] at hx'
      obtain rfl : x = x' := by simpa using hx'
      have hi1 : (0 : Int) ≤ (k : Int) := by omega
      have hi2 : (k : Int) < (l.length : Int) := by omega
      have HL := Lib.hid hi
      clear hx hx' hk hi
      go_wp2_with fail
      go_quiet (fail)
      go_wp2
      go_roundw
      case rel => exact ⟨k + 1, HL.out, by go_num, _, rfl⟩
      case measure => have := HL.out; simp [RowKit.intOf]; omega
    · obtain rfl : k = l.length := by omega
      go_wp2
      go_ret
      exact ⟨rfl, below_drewN (Below.refl _ w) _⟩

set_option maxRecDepth 100000 in
set_option maxHeartbeats 4000000 in
theorem sameL_true {A A2 : Option Addr} (c c2 : Nat) {l : List Ln} {w : World} (h1 : Rd encLn 2 w w.heap.size A l) (h2 : Rd encLn 2 w w.heap.size A2 l) (hl : l.length ≤ 9223372036854775807) :
    Calls Tryd.prog 54 #[.slice A l.length c, .slice A2 l.length c2] w fun e w' => e = .returned (.bool true) ∧ Below w.heap.size w w' := by
  have H1 := Lib.hid h1
  have H2 := Lib.hid h2
  clear h1 h2
  go_enter Tryd.func54, Tryd.ntmps54
  go_wp2
  go_loopw [5] (fun i wr => ∃ k : Nat, k ≤ l.length ∧ i = .int .i64 k ∧ ∃ n, wr = w.drewN n) (fun i _ => l.length - (RowKit.intOf i).toNat)
  case atStart => exact ⟨0, Nat.zero_le _, rfl, 0, rfl⟩
  case round =>
    obtain ⟨k, hk, rfl, n, rfl⟩ := hrel
    by_cases hi : k < l.length
    · obtain ⟨b, off, s, x, rfl, hb, hx, d0, d1⟩ := H1.out.ln hi
      obtain ⟨b', off', s', x', rfl, hb', hx', e0, e1⟩ := H2.out.ln hi
      rw [hx] at hx'
      simp only [Option.some.injEq, Prod.mk.injEq] at hx'
      obtain ⟨rfl, rfl⟩ := hx'
      have hi1 : (0 : Int) ≤ (k : Int) := by omega
      have hi2 : (k : Int) < (l.length : Int) := by omega
      have hn : (s.toList == s.toList) = true := by simp
      have HL := Lib.hid hi
      clear hx hk hi
      go_wp2_with fail
      go_quiet (fail)
      go_wp2
      go_roundw
      case rel => exact ⟨k + 1, HL.out, by go_num, _, rfl⟩
      case measure => have := HL.out; simp [RowKit.intOf]; omega
    · obtain rfl : k = l.length := by omega
      go_wp2
      go_ret
      exact ⟨rfl, below_drewN (Below.refl _ w) _⟩

set_option maxRecDepth 100000 in
set_option maxHeartbeats 4000000 in
theorem sameC_true (c : CV) {A A2 : Option Addr} (cap cap2 : Nat) {w : World} (h1 : Rd encLn 2 w w.heap.size A c.lns) (h2 : Rd encLn 2 w w.heap.size A2 c.lns) (hl : c.lns.length ≤ 9223372036854775807) :
    Calls Tryd.prog 31 #[CHV c A cap, CHV c A2 cap2] w fun e w' => e = .returned (.bool true) ∧ Below w.heap.size w w' := by
  have CC := Lib.hid (fun (X : World) (hX : Below w.heap.size w X) => sameL_true cap cap2 (h1.st hX) (h2.st hX) hl)
  clear h1 h2
  obtain ⟨key, veh, sys, cls, tm, lns, ct⟩ := c
  simp only [CHV] at *
  obtain ⟨Y1, hY1⟩ : ∃ Y, w.alloc (.cells #[.string key, .string veh, .string sys, .int .i64 cls, .int .i64 tm, .slice A lns.length cap, .int .i64 ct] 82) = Y := ⟨_, rfl⟩
  have b1 : Below w.heap.size w Y1 := by rw [← hY1]; exact (Below.refl _ w).al _
  have S1 : Blk Y1 w.heap.size #[.string key, .string veh, .string sys, .int .i64 cls, .int .i64 tm, .slice A lns.length cap, .int .i64 ct] 82 := by rw [← hY1]; exact Blk.new w _ _
  obtain ⟨Y2, hY2⟩ : ∃ Y, Y1.alloc (.cells #[.string key, .string veh, .string sys, .int .i64 cls, .int .i64 tm, .slice A2 lns.length cap2, .int .i64 ct] 82) = Y := ⟨_, rfl⟩
  have b2 : Below w.heap.size w Y2 := by rw [← hY2]; exact b1.st ((Below.refl _ Y1).al _)
  have S1 : Blk Y2 w.heap.size #[.string key, .string veh, .string sys, .int .i64 cls, .int .i64 tm, .slice A lns.length cap, .int .i64 ct] 82 := by rw [← hY2]; exact S1.below ((Below.refl _ Y1).al _) S1.lt
  have S2 : Blk Y2 Y1.heap.size #[.string key, .string veh, .string sys, .int .i64 cls, .int .i64 tm, .slice A2 lns.length cap2, .int .i64 ct] 82 := by rw [← hY2]; exact Blk.new Y1 _ _
  have CC := Lib.hid (CC.out _ b2)
  have q0 : Y2.cell? ⟨w.heap.size, 0, none⟩ = some (.string key) := S1.cell 0 rfl
  have q1 : Y2.cell? ⟨w.heap.size, 1, none⟩ = some (.string veh) := S1.cell 1 rfl
  have q2 : Y2.cell? ⟨w.heap.size, 2, none⟩ = some (.string sys) := S1.cell 2 rfl
  have q3 : Y2.cell? ⟨w.heap.size, 3, none⟩ = some (.int .i64 cls) := S1.cell 3 rfl
  have q4 : Y2.cell? ⟨w.heap.size, 4, none⟩ = some (.int .i64 tm) := S1.cell 4 rfl
  have q5 : Y2.cell? ⟨w.heap.size, 5, none⟩ = some (.slice A lns.length cap) := S1.cell 5 rfl
  have q6 : Y2.cell? ⟨w.heap.size, 6, none⟩ = some (.int .i64 ct) := S1.cell 6 rfl
  have p0 : Y2.cell? ⟨Y1.heap.size, 0, none⟩ = some (.string key) := S2.cell 0 rfl
  have p1 : Y2.cell? ⟨Y1.heap.size, 1, none⟩ = some (.string veh) := S2.cell 1 rfl
  have p2 : Y2.cell? ⟨Y1.heap.size, 2, none⟩ = some (.string sys) := S2.cell 2 rfl
  have p3 : Y2.cell? ⟨Y1.heap.size, 3, none⟩ = some (.int .i64 cls) := S2.cell 3 rfl
  have p4 : Y2.cell? ⟨Y1.heap.size, 4, none⟩ = some (.int .i64 tm) := S2.cell 4 rfl
  have p5 : Y2.cell? ⟨Y1.heap.size, 5, none⟩ = some (.slice A2 lns.length cap2) := S2.cell 5 rfl
  have p6 : Y2.cell? ⟨Y1.heap.size, 6, none⟩ = some (.int .i64 ct) := S2.cell 6 rfl
  have k1 : (key.toList == key.toList) = true := by simp
  have k2 : (veh.toList == veh.toList) = true := by simp
  have k3 : (sys.toList == sys.toList) = true := by simp
  go_enter Tryd.func31, Tryd.ntmps31
  go_wp2_with (go_at_call 54; with_reducible refine (CC.out).mono ?_; rintro e w5 ⟨rfl, hb5⟩)
  go_ret
  exact ⟨rfl, b2.st hb5⟩
end Go.Proofs.YtlnnbkpcnhlfcaaDoor
/- bill.Days, walked. -/
set_option linter.unusedSimpArgs false
namespace Go.Proofs.YtlnnbkpcnhlfcaaDoor
open Go.RowKit Go.Lib Go.Sort Go.Shelf

/-- what Days hands back -/
def DaysX (cs : List CV) (w w' : World) (e : Ending) : Prop :=
  ∃ A1 c1 A2 c2 ds ss, e = .returned (.tuple #[.slice A1 ds.length c1, .slice A2 ss.length c2]) ∧ DaysR (itemL cs) ds ss ∧ Own 3 encI 1 w' w.heap.size A1 c1 ds ∧ Own 3 encI 1 w' w.heap.size A2 c2 ss ∧ Below w.heap.size w w'

set_option maxRecDepth 100000 in
set_option maxHeartbeats 2000000 in
theorem days_any {A : Option Addr} (c : Nat) {l : List Cg} {w : World} (hr : Rd encCg 7 w w.heap.size A l) (hll : l.length ≤ 30) :
    Calls Tryd.prog 26 #[.slice A l.length c] w fun e w' => DaysX (cvs l) w w' e := by
  have H := Lib.hid hr
  clear hr
  go_enter Tryd.func26, Tryd.ntmps26
  go_wp2_with fail
  go_loopw [4, 14] (fun o i wr => ∃ (k : Nat) (A' : Option Addr) (c' : Nat), k ≤ l.length ∧ i = .int .i64 k ∧ o = .slice A' (dIdx (cvs l) k).length c' ∧ Own 3 encI 1 wr w.heap.size A' c' (castL (dIdx (cvs l) k)) ∧ Below w.heap.size w wr) (fun _ i _ => l.length - (RowKit.intOf i).toNat)
  case atStart => exact ⟨0, none, 0, Nat.zero_le _, rfl, rfl, Own.nil _ _, Below.refl _ _⟩
  case round =>
    obtain ⟨k, A', c', hk, rfl, rfl, hown, bY⟩ := hrel
    by_cases hi : k < l.length
    · obtain ⟨b, off, x, rfl, hb, hx, d0, d1, d2, d3, d4, d5, d6⟩ := (H.out.st bY).cg hi
      have HK := Lib.hid hi
      have HT := Lib.hid (dIdx_succ (cvs l) k)
      rw [chAt_of (cvs_at hx)] at HT
      have hol := dIdx_len (cvs l) k
      obtain ⟨⟨key, veh, sys, cls, tm, lns, cn⟩, lA, lc⟩ := x
      simp only at *
      obtain ⟨Y2, hY2⟩ : ∃ Y, wr.alloc (.cells #[.string key, .string veh, .string sys, .int .i64 cls, .int .i64 tm, .slice lA lns.length lc, .int .i64 cn] 82) = Y := ⟨_, rfl⟩
      have BX : Blk Y2 wr.heap.size #[.string key, .string veh, .string sys, .int .i64 cls, .int .i64 tm, .slice lA lns.length lc, .int .i64 cn] 82 := by rw [← hY2]; exact Blk.new wr _ _
      have b2 : Below wr.heap.size wr Y2 := by rw [← hY2]; exact (Below.refl _ wr).al _
      have hsz := bY.size
      have bY2 := bY.st b2
      have hown2 := hown.st b2
      have x4 := BX.cell 4 (v := .int .i64 tm) rfl
      have x6 := BX.cell 6 (v := .int .i64 cn) rfl
      have HDB : Hid (dayB (⟨key, veh, sys, cls, tm, lns, cn⟩ : CV) = (decide (0 ≤ dayN tm) && fitsB cn)) := Lib.hid rfl
      have CD := Lib.hid (fun W => cday_any tm W)
      have CF := Lib.hid (fun W => fits_any cn W)
      generalize dIdx (cvs l) k = o at *
      generalize dayN tm = dy at *
      clear hx hi hb hown b2
      have hoc := castL_len o
      by_cases q1 : 0 ≤ dy
      · cases q2 : fitsB cn
        · have R : Hid (dIdx (cvs l) (k + 1) = o) := Lib.hid (by rw [HT.out, HDB.out, q2]; simp)
          rw [q2] at CF
          clear HT HDB q2
          go_wp2_with (first | (go_at_call 33; with_reducible refine (CD.out _).mono ?_; rintro e w' ⟨rfl, rfl⟩) | (go_at_call 49; with_reducible refine (CF.out _).mono ?_; rintro e w' ⟨rfl, rfl⟩))
          go_roundw
          case rel => exact ⟨k + 1, A', c', HK.out, by go_num, by rw [R.out], by rw [R.out]; exact hown2, bY2⟩
          case measure => have := HK.out; simp [RowKit.intOf]; omega
        · have R : Hid (dIdx (cvs l) (k + 1) = o ++ [k]) := Lib.hid (by rw [HT.out, HDB.out, q2, decide_eq_true q1]; rfl)
          rw [q2] at CF
          clear HT HDB q2
          go_wp2_with (first | (go_at_call 33; with_reducible refine (CD.out _).mono ?_; rintro e w' ⟨rfl, rfl⟩) | (go_at_call 49; with_reducible refine (CF.out _).mono ?_; rintro e w' ⟨rfl, rfl⟩) | (at_builtin; refine wpList_app1b rfl (.tmp 28) (.tmp 30) tyI encI_ok rfl (k : Int) rfl _ rfl hoc.symm hown2 rfl (by first | rfl | simp) (by omega) (by omega) bY2.size ?_; intro A8 c8 w8 hown8 hb8 hs8 hf8; have hbel8 := bY2.trans hb8))
          clear hown2 hb8 hf8
          go_wp2_with fail
          go_roundw
          case rel => exact ⟨k + 1, A8, c8, HK.out, by go_num, by rw [R.out]; simp, by rw [R.out, castL_app]; exact hown8, hbel8⟩
          case measure => have := HK.out; simp [RowKit.intOf]; omega
      · have R : Hid (dIdx (cvs l) (k + 1) = o) := Lib.hid (by rw [HT.out, HDB.out, decide_eq_false q1]; simp)
        clear HT HDB
        go_wp2_with (first | (go_at_call 33; with_reducible refine (CD.out _).mono ?_; rintro e w' ⟨rfl, rfl⟩))
        go_roundw
        case rel => exact ⟨k + 1, A', c', HK.out, by go_num, by rw [R.out], by rw [R.out]; exact hown2, bY2⟩
        case measure => have := HK.out; simp [RowKit.intOf]; omega
    · obtain rfl : k = l.length := by omega
      have hlen : l.length = (cvs l).length := (cvs_len l).symm
      have HPI := Lib.hid (itI_all (cvs l))
      rw [cvs_len] at HPI
      have HOL := Lib.hid (fun i (h : i ∈ dIdx (cvs l) l.length) => dIdx_lt h)
      have hol := dIdx_len (cvs l) l.length
      have hsz := bY.size
      have CS := Lib.hid (dsort_any c c' (H.out.keep bY) hsz (fun i h => (HOL.out i h).1) (by omega) hown)
      generalize dIdx (cvs l) l.length = o at *
      clear hown hlen
      go_wp2_with fail
      refine CS.out.mono ?_
      rintro e w2 ⟨rfl, o', hp, hasc, hown, hbn⟩
      have bY2 := bY.trans hbn
      have HP := Lib.hid hp
      have HA := Lib.hid hasc
      have HOR := Lib.hid (hown.rd encI_ok)
      have hoc : Hid ((castL o').length = o'.length) := Lib.hid (castL_len o')
      have hol' : o'.length = o.length := hp.length_eq
      have HB := Lib.hid (fun i (h : i ∈ o') => (HOL.out i (hp.mem_iff.1 h)))
      clear CS hown hbn hp hasc HOL bY
      rw [← hol']
      rw [← hol'] at hol
      clear hol'
      go_wp2_with fail
      go_loopw [7, 8, 40] (fun d s i wr => ∃ (k : Nat) (ds ss : List Int) (A1 : Option Addr) (c1 : Nat) (A2 : Option Addr) (c2 : Nat), k ≤ o'.length ∧ i = .int .i64 k ∧ d = .slice A1 ds.length c1 ∧ s = .slice A2 ss.length c2 ∧ Hid (DaysR (itI (cvs l) (o'.take k)) ds ss) ∧ Hid (Ap A1 A2) ∧ Hid (ds.length ≤ k ∧ ss.length = ds.length) ∧ Own 3 encI 1 wr w2.heap.size A1 c1 ds ∧ Own 3 encI 1 wr w2.heap.size A2 c2 ss ∧ Below w2.heap.size w2 wr) (fun _ _ i _ => o'.length - (RowKit.intOf i).toNat)
      case atStart => exact ⟨0, [], [], none, 0, none, 0, Nat.zero_le _, rfl, rfl, rfl, Lib.hid (by simpa [itI] using DaysR.nil), Lib.hid (fun g h => by cases h), Lib.hid ⟨Nat.le_refl _, rfl⟩, Own.nil _ _, Own.nil _ _, Below.refl _ _⟩
      case round =>
        obtain ⟨k, ds, ss, A1, c1, A2, c2, hk, rfl, rfl, rfl, HD, HAP, HL, hown1, hown2, bR⟩ := hrel
        by_cases hk2 : k < o'.length
        · obtain ⟨i, hoi⟩ : ∃ i, o'[k]? = some i := ⟨_, List.getElem?_eq_getElem hk2⟩
          have him := List.mem_of_getElem? hoi
          have hil : i < l.length := (HB.out i him).1
          have HDB := Lib.hid (dayB_ct (HB.out i him).2)
          obtain ⟨bo, oo, xo, hAo, hbo, hxo, g0⟩ := (HOR.out.st bR).i (i := k) (by rw [hoc.out]; exact hk2)
          rw [castL_at hoi] at hxo
          obtain rfl : (i : Int) = xo := by simpa using hxo
          subst hAo
          obtain ⟨b, off, x, hA, hb, hx, -, -, -, -, d4, -, d6⟩ := H.out.cg hil
          subst hA
          have hxc := chAt_of (cvs_at hx)
          rw [hxc] at HDB
          have HS := Lib.hid (fun m s (h1 : ds[m]? = some (dayN (chAt (cvs l) i).tm)) (h2 : ss[m]? = some s) => days_same hoi HD.out h1 h2)
          have HN := Lib.hid (fun h => days_new HA.out hoi HD.out h)
          rw [hxc] at HS HN
          have HBD := Lib.hid (fun m s (h : ss[m]? = some s) => days_bnd (fun i h => (HB.out i h).2) (by omega) HD.out h)
          obtain ⟨⟨key, veh, sys, cls, tm, lns, cn⟩, lA, lc⟩ := x
          simp only at *
          obtain ⟨⟨hc1, hc2⟩, hd0⟩ := HDB.out
          have CD := Lib.hid (fun W => cday_any tm W)
          generalize dayN tm = dy at *
          have HK := Lib.hid hk2
          have i1 : (0 : Int) ≤ (i : Int) := by omega
          have i2 : (i : Int) < (l.length : Int) := by omega
          have HF4 := Lib.hid (fun (X : World) (hX : Below w2.heap.size w2 X) => ((bY2.st hX).cell (p := ⟨b, off + i * 7 + 4, none⟩) hb).trans d4)
          have HF6 := Lib.hid (fun (X : World) (hX : Below w2.heap.size w2 X) => ((bY2.st hX).cell (p := ⟨b, off + i * 7 + 6, none⟩) hb).trans d6)
          have d4 := HF4.out wr bR
          have d6 := HF6.out wr bR
          have HG := Lib.hid (fun (X : World) (hX : Below wr.heap.size wr X) => (hX.cell (p := ⟨bo, oo + k, none⟩) hbo).trans g0)
          have hdl : ds.length ≤ 30 := by have := HL.out.1; omega
          clear hoi him hxo hx hxc hk2 HDB hb hbo
          go_wp2_with fail
          refine (CD.out _).mono ?_
          rintro e w3 ⟨rfl, hw3⟩
          rw [hw3]
          clear CD hw3 w3
          have hsl : ss.length ≤ 30 := by rw [HL.out.2]; exact hdl
          rw [HL.out.2]
          have hadd : IntKind.i64.wrap (0 + cn) = cn := by rw [Int.zero_add]; exact IntWalk.i64_in _ (by omega)
          by_cases h0 : ds.length = 0
          · have HNE : Hid (∀ m, m + 1 = ds.length → ds[m]? ≠ some dy) := Lib.hid (fun m hm => by omega)
            have h0b : ((ds.length : Int) == 0) = true := by simp [h0]
            clear h0
            (have HNN := Lib.hid (HN.out HNE.out)); (have hss2 : Hid ((ss ++ [0]).set ds.length cn = ss ++ [cn]) := Lib.hid (by rw [← HL.out.2, List.set_append_right _ _ (Nat.le_refl _), Nat.sub_self]; rfl)); clear HN HS HBD HNE; go_wp2_with (first | (at_builtin; refine wpList_app1a rfl (.tmp 63) (.tmp 65) tyI encI_ok rfl dy rfl _ rfl rfl hown1 rfl (by first | rfl | simp) (by omega) (by omega) bR.size ?_; intro A8 c8 w8 hown8 hb8 hs8 hf8 hl8; have hbel8 := bR.trans hb8; have hownS := HAP.out.keep hown2 hf8) | (at_builtin; refine wpList_app1a rfl (.tmp 67) (.tmp 68) tyI encI_ok rfl (0 : Int) rfl _ rfl HL.out.2.symm hownS rfl (by first | rfl | simp) (by omega) (by omega) hbel8.size ?_; intro A9 c9 w9 hown9 hb9 hs9 hf9 hl9; have hbel9 := hbel8.trans hb9; have HAP8 := Lib.hid (HAP.out.moved hown2 hl8); have HAP9 := Lib.hid (((HAP8.out.symm).moved hown8 hl9).symm); have hownD := HAP8.out.symm.keep hown8 hf9; have d6 := HF6.out w9 hbel9; obtain ⟨g9, hg9, hgb, hgl⟩ := hown9.exB (by simp); subst hg9; have hget : (ss ++ [0])[ds.length]? = some 0 := (by rw [← HL.out.2]; simp); have c0 := hown9.cells encI_ok rfl hget (j := 0) rfl; have f0 := hown9.frozen rfl ds.length; have hst := hown9.stored encI_ok rfl hget (j := 0) (u := .int .i64 cn) (y := cn) (by omega) rfl; simp only [Nat.mul_one, Nat.add_zero] at c0 hst; have HST := Lib.hid hst; have hownE := hownD.keepB (w' := w9.setCell ⟨g9, ds.length, none⟩ (.int .i64 cn)) (fun g hg hl => Below.heap_setCell w9 ⟨g9, ds.length, none⟩ (.int .i64 cn) g (fun e => HAP9.out g hg (by rw [e]))); have HOE := Lib.hid hownE; have HBE := Lib.hid (hbel9.setCell (p := ⟨g9, ds.length, none⟩) hgb (.int .i64 cn)); clear hown8 hb8 hs8 hf8 hl8 hbel8 hownS hown9 hb9 hs9 hf9 hl9 hbel9 hownD hownE hst hget)); go_region
            (have HSTE : Hid (Own 3 encI 1 ((w9.setCell ⟨g9, ds.length, none⟩ (.int .i64 cn)).drew) w2.heap.size (some ⟨g9, 0, none⟩) c9 (ss ++ [cn])) := Lib.hid (by have := HST.out; rw [hss2.out] at this; exact this)); go_wp2_with fail; go_roundw; (case rel => exact ⟨k + 1, ds ++ [dy], ss ++ [cn], A8, c8, some ⟨g9, 0, none⟩, c9, HK.out, by go_num, by simp, by simp [HL.out.2], HNN, HAP9, Lib.hid (by have := HL.out; simp; omega), HOE.out.drew, HSTE.out, below_drewN HBE.out 1⟩); (case measure => have := HK.out; simp [RowKit.intOf]; omega)
          · obtain ⟨m, hm⟩ : ∃ m, m + 1 = ds.length := ⟨ds.length - 1, by omega⟩
            obtain ⟨z, hz⟩ : ∃ z, ds[m]? = some z := ⟨_, List.getElem?_eq_getElem (by omega)⟩
            have h0b : ((ds.length : Int) == 0) = false := by rw [beq_eq_false_iff_ne]; omega
            obtain ⟨g1, hg1, hgb1, hgl1⟩ := hown1.exB (by intro q; rw [q] at hm; simp at hm)
            subst hg1
            have cz := hown1.cells encI_ok rfl hz (j := 0) rfl
            simp only [Nat.mul_one, Nat.add_zero] at cz
            have hwm : IntKind.i64.wrap ((ds.length : Int) - 1) = (m : Int) := by rw [show (ds.length : Int) - 1 = (m : Int) by omega]; exact IntWalk.i64_in _ (by omega)
            have m0 : (0 : Int) ≤ (m : Int) := by omega
            have m1 : (m : Int) < (ds.length : Int) := by omega
            have HM := Lib.hid hm
            by_cases hzd : z = dy
            · subst hzd
              obtain ⟨sv, hsv⟩ : ∃ sv, ss[m]? = some sv := ⟨_, List.getElem?_eq_getElem (by rw [HL.out.2]; omega)⟩
              have HSS := Lib.hid (HS.out m sv hz hsv)
              have hbd := HBD.out m sv hsv
              obtain ⟨hbd1, hbd2⟩ := hbd
              obtain ⟨g2, hg2, hgb2, hgl2⟩ := hown2.exB (by intro q; rw [q] at hsv; simp at hsv)
              subst hg2
              have cs := hown2.cells encI_ok rfl hsv (j := 0) rfl
              have fs := hown2.frozen rfl m
              have hst := hown2.stored encI_ok rfl hsv (j := 0) (u := .int .i64 (sv + cn)) (y := sv + cn) (by omega) rfl
              simp only [Nat.mul_one, Nat.add_zero] at cs hst
              have HST := Lib.hid hst
              have HOE := Lib.hid (hown1.keepB (w' := wr.setCell ⟨g2, m, none⟩ (.int .i64 (sv + cn))) (fun g hg hl => Below.heap_setCell wr ⟨g2, m, none⟩ (.int .i64 (sv + cn)) g (fun e => HAP.out g hg (by rw [e]))))
              have HBE := Lib.hid (bR.setCell (p := ⟨g2, m, none⟩) hgb2 (.int .i64 (sv + cn)))
              have hadd2 : IntKind.i64.wrap (sv + cn) = sv + cn := IntWalk.i64_in _ (by omega)
              clear HN HS HBD hz hsv hown1 hown2 hst hm hadd h0
              go_wp2_with fail
              go_region
              go_wp2_with fail
              go_roundw
              case rel => exact ⟨k + 1, ds, ss.set m (sv + cn), some ⟨g1, 0, none⟩, c1, some ⟨g2, 0, none⟩, c2, HK.out, by go_num, rfl, by simp [HL.out.2], HSS, HAP, Lib.hid (by have := HL.out; simp; omega), HOE.out.drew, HST.out.drew, below_drewN HBE.out 1⟩
              case measure => have := HK.out; simp [RowKit.intOf]; omega
            · have HNE : Hid (∀ m, m + 1 = ds.length → ds[m]? ≠ some dy) := Lib.hid (fun m' hm' q => by
                obtain rfl : m' = m := by omega
                rw [hz] at q
                exact hzd (Option.some.inj q))
              have hzd2 : (z == dy) = false := by simp [hzd]
              have hzd3 : (z != dy) = true := by simp [hzd]
              clear hz hm h0 hzd
              (have HNN := Lib.hid (HN.out HNE.out)); (have hss2 : Hid ((ss ++ [0]).set ds.length cn = ss ++ [cn]) := Lib.hid (by rw [← HL.out.2, List.set_append_right _ _ (Nat.le_refl _), Nat.sub_self]; rfl)); clear HN HS HBD HNE; go_wp2_with (first | (at_builtin; refine wpList_app1a rfl (.tmp 63) (.tmp 65) tyI encI_ok rfl dy rfl _ rfl rfl hown1 rfl (by first | rfl | simp) (by omega) (by omega) bR.size ?_; intro A8 c8 w8 hown8 hb8 hs8 hf8 hl8; have hbel8 := bR.trans hb8; have hownS := HAP.out.keep hown2 hf8) | (at_builtin; refine wpList_app1a rfl (.tmp 67) (.tmp 68) tyI encI_ok rfl (0 : Int) rfl _ rfl HL.out.2.symm hownS rfl (by first | rfl | simp) (by omega) (by omega) hbel8.size ?_; intro A9 c9 w9 hown9 hb9 hs9 hf9 hl9; have hbel9 := hbel8.trans hb9; have HAP8 := Lib.hid (HAP.out.moved hown2 hl8); have HAP9 := Lib.hid (((HAP8.out.symm).moved hown8 hl9).symm); have hownD := HAP8.out.symm.keep hown8 hf9; have d6 := HF6.out w9 hbel9; obtain ⟨g9, hg9, hgb, hgl⟩ := hown9.exB (by simp); subst hg9; have hget : (ss ++ [0])[ds.length]? = some 0 := (by rw [← HL.out.2]; simp); have c0 := hown9.cells encI_ok rfl hget (j := 0) rfl; have f0 := hown9.frozen rfl ds.length; have hst := hown9.stored encI_ok rfl hget (j := 0) (u := .int .i64 cn) (y := cn) (by omega) rfl; simp only [Nat.mul_one, Nat.add_zero] at c0 hst; have HST := Lib.hid hst; have hownE := hownD.keepB (w' := w9.setCell ⟨g9, ds.length, none⟩ (.int .i64 cn)) (fun g hg hl => Below.heap_setCell w9 ⟨g9, ds.length, none⟩ (.int .i64 cn) g (fun e => HAP9.out g hg (by rw [e]))); have HOE := Lib.hid hownE; have HBE := Lib.hid (hbel9.setCell (p := ⟨g9, ds.length, none⟩) hgb (.int .i64 cn)); clear hown8 hb8 hs8 hf8 hl8 hbel8 hownS hown9 hb9 hs9 hf9 hl9 hbel9 hownD hownE hst hget)); go_region
              (have HSTE : Hid (Own 3 encI 1 ((w9.setCell ⟨g9, ds.length, none⟩ (.int .i64 cn)).drew) w2.heap.size (some ⟨g9, 0, none⟩) c9 (ss ++ [cn])) := Lib.hid (by have := HST.out; rw [hss2.out] at this; exact this)); go_wp2_with fail; go_roundw; (case rel => exact ⟨k + 1, ds ++ [dy], ss ++ [cn], A8, c8, some ⟨g9, 0, none⟩, c9, HK.out, by go_num, by simp, by simp [HL.out.2], HNN, HAP9, Lib.hid (by have := HL.out; simp; omega), HOE.out.drew, HSTE.out, below_drewN HBE.out 1⟩); (case measure => have := HK.out; simp [RowKit.intOf]; omega)
        · obtain rfl : k = o'.length := by omega
          have R : Hid (DaysR (itemL (cvs l)) ds ss) := Lib.hid (by
            have := HD.out
            rw [List.take_length] at this
            rw [← HPI.out]
            exact this.perm (itI_perm HP.out))
          clear HD
          go_wp2_with fail
          go_ret2
          have hz := bY2.size
          exact ⟨A1, c1, A2, c2, ds, ss, rfl, R.out, hown1.mono hz, hown2.mono hz, bY2.st bR⟩
end Go.Proofs.YtlnnbkpcnhlfcaaDoor
