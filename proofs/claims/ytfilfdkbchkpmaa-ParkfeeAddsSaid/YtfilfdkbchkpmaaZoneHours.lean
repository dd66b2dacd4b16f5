/- zone.hours: the iterator's contract. -/
import Derived.Test.YtfilfdkbchkpmaaZoneWords
import Derived.RangeFuncNested
import Derived.RangeFuncBound
import Derived.RangeFuncCalls
import Derived.RangeFuncLeaves
import Derived.RangeFuncFrom
import Derived.RangeFuncBox
import Derived.Shelf.Abstract
import Derived.Shelf.RegionOpen
import Derived.OwnWalkIn
import Derived.TacticsInMore
import Derived.LoopNIn
import Derived.LoopIn
namespace Go.Proofs.Ytfilfdkbchkpmaa
open Go.RowKit Go.Lib Go.Shelf
attribute [local go_sem] Oper.semAt_some

/-- a valid window -/
abbrev VW := { x : Wn // vw x = true }
def toV (x : Wn) : Option VW := if h : vw x = true then some ⟨x, h⟩ else none
def vws (hs : List Wn) : List VW := hs.filterMap toV
theorem vws_yes {hs : List Wn} {k : Nat} {x : Wn} (hx : hs[k]? = some x) (h : vw x = true) : vws (hs.take (k + 1)) = vws (hs.take k) ++ [⟨x, h⟩] := by
  unfold vws
  rw [take_snoc hx, List.filterMap_append]
  simp [toV, h]
theorem vws_no {hs : List Wn} {k : Nat} {x : Wn} (hx : hs[k]? = some x) (h : vw x = false) : vws (hs.take (k + 1)) = vws (hs.take k) := by
  unfold vws
  rw [take_snoc hx, List.filterMap_append]
  simp [toV, h]
theorem vws_mem {hs : List Wn} {p : VW} (h : p ∈ vws hs) : p.1 ∈ hs := by
  unfold vws at h
  rw [List.mem_filterMap] at h
  obtain ⟨x, hx, hp⟩ := h
  unfold toV at hp
  split at hp
  · injection hp with hp; subst hp; exact hx
  · cases hp
theorem vws_of {hs : List Wn} {x : Wn} (hx : x ∈ hs) (h : vw x = true) : (⟨x, h⟩ : VW) ∈ vws hs := by
  unfold vws
  rw [List.mem_filterMap]
  exact ⟨x, hx, by simp [toV, h]⟩
theorem vws_map (hs : List Wn) : (vws hs).map (·.1) = hs.filter vw := by
  unfold vws
  induction hs with
  | nil => rfl
  | cons x l ih =>
    rw [List.filterMap_cons, List.filter_cons]
    cases h : vw x
    · simp [toV, h, ih]
    · simp [toV, h, ih]
theorem vws_length (hs : List Wn) (k : Nat) : (vws (hs.take k)).length ≤ k := by
  have h1 : (vws (hs.take k)).length = ((hs.take k).filter vw).length := by rw [← vws_map, List.length_map]
  have h2 := List.length_filter_le vw (hs.take k)
  have h3 : (hs.take k).length ≤ k := List.length_take_le _ _
  omega
def encV (x : VW) : Array Value := #[.agg #[.int .i64 x.1.1, .int .i64 x.1.2.1, .int .i64 x.1.2.2]]
theorem abides_alloc {α : Type} {J : List α → World → Prop} {B : Nat} (h : AbidesFrom B J) {pre : List α} {W : World} (hj : J pre W) (o : Obj) : J pre (W.alloc o) :=
  h pre W _ none hj (World.grownBy_alloc W o none) (fun r e => by cases e)

set_option maxRecDepth 100000 in
set_option maxHeartbeats 2000000 in
theorem hours1_in (n : Nat) (hn : 1 ≤ n) (l Bs n₀ c : Nat) {A : Option Addr} (hs : List Wn) (hlen : hs.length ≤ 9000000000000000000) (J Jx : List VW → World → Prop) (W : World) (hJ : AbidesFrom W.heap.size J)
    (hY : ∀ pre x W, J pre W → pre.length < hs.length → YieldAt Fence.wide (n - 1) Try.prog l (encV x) W fun e W' =>
      (e = .returned (.bool true) ∧ J (pre ++ [x]) W' ∧ Below n₀ W W') ∨ (e = .returned (.bool false) ∧ Jx (pre ++ [x]) W'))
    (hBs : W.cell? ⟨Bs, 1, none⟩ = some (.slice A hs.length c)) (hr : Rd encW 3 W n₀ A hs) (hn₀ : n₀ ≤ W.heap.size) (h0 : J [] W) :
    CallsIn Fence.wide n Try.prog 62 #[.func (.yield l) #[] #[], .pointer (some ⟨Bs, 0, none⟩)] W fun e W' => (∃ v, e = .returned v) ∧
      ((∃ ys, ys = vws hs ∧ J ys W') ∨ (∃ pre, (∀ p ∈ pre, p.1 ∈ hs) ∧ Jx pre W')) := by
  refine callsIn_of_wp Try.func62 rfl trivial ?_ rfl
  simp only [Try.ntmps62, List.size_toArray, List.length_cons, List.length_nil, Nat.reduceAdd, Nat.reduceSub, Array.replicate_succ, Array.replicate_zero, List.push_toArray, List.append_toArray, List.nil_append, List.cons_append]
  gi_wp2
  gi_loopw [8] (fun i wr => ∃ k : Nat, k ≤ hs.length ∧ i = .int .i64 k ∧ J (vws (hs.take k)) wr ∧ Below n₀ W wr)
    (fun i _ => hs.length - (intOf i).toNat)
  case atStart => exact ⟨0, Nat.zero_le _, rfl, h0, Below.refl _ _⟩
  case round =>
    obtain ⟨k, hk, rfl, hJs, hnx⟩ := hrel
    by_cases hlt : k < hs.length
    · obtain ⟨b, off, x, y, z, rfl, hb, hx, d0, d1, d2⟩ := (hr.keep hnx).w3 hlt
      have hJ2 := abides_alloc hJ (abides_alloc hJ hJs (.cells #[.int .i64 x, .int .i64 y, .int .i64 z] 80)) (.cells #[.int .i64 x, .int .i64 y, .int .i64 z] 80)
      have hn2 := Nat.le_trans hn₀ hnx.size
      have hnx2 := (hnx.alloc hn2 (.cells #[.int .i64 x, .int .i64 y, .int .i64 z] 80)).alloc (by simp; omega) (.cells #[.int .i64 x, .int .i64 y, .int .i64 z] 80)
      cases hv : vw (x, y, z)
      · have e := vws_no hx hv
        rw [← e] at hJ2
        have HJ := Lib.hid hJ2
        have HV := Lib.hid hv
        clear e hx hv hJ2 hJs
        gi_wp2_with (refine ⟨trivial, ?_⟩; gi_at_call 42; refine (callsIn_wide.2 (zvalid_any (x, y, z) _)).mono ?_; rw [HV.out]; rintro e w' ⟨rfl, rfl⟩)
        refine ⟨fun _ h => (by cases h), ?_⟩
        gi_wp2
        go_roundw
        case rel => exact ⟨k + 1, by omega, by simp, HJ.out, hnx2⟩
        case measure => simp [intOf]; omega
      · have e := vws_yes hx hv
        have hmem : ∀ p ∈ vws (hs.take k) ++ [(⟨(x, y, z), hv⟩ : VW)], p.1 ∈ hs := by
          rw [← e]; intro p hp; exact List.mem_of_mem_take (vws_mem hp)
        have HM := Lib.hid hmem
        have HE := Lib.hid e
        have HV := Lib.hid hv
        obtain ⟨fn, tmps, assign, body, hy, hR⟩ := hY (vws (hs.take k)) ⟨(x, y, z), hv⟩ _ hJ2 (Nat.lt_of_le_of_lt (vws_length hs k) hlt)
        dsimp only [encV] at hy
        clear e hx hJ2 hJs hmem
        gi_wp2_with (refine ⟨trivial, ?_⟩; gi_at_call 42; refine (callsIn_wide.2 (zvalid_any (x, y, z) _)).mono ?_; rw [HV.out]; rintro e w' ⟨rfl, rfl⟩)
        refine hR.mono ?_
        rintro e W3 (⟨rfl, hJ3, hk3⟩ | ⟨rfl, hJx3⟩)
        · rw [← HE.out] at hJ3
          have HJ3 := Lib.hid hJ3
          clear hJ3
          gi_wp2
          go_roundw
          case rel => exact ⟨k + 1, by omega, by simp, HJ3.out, hnx2.trans hk3⟩
          case measure => simp [intOf]; omega
        · have HJx := Lib.hid hJx3
          clear hJx3
          gi_wp2
          refine bodyPost_ret (results_none rfl _ _ _) rfl ?_
          exact ⟨⟨_, rfl⟩, .inr ⟨_, HM.out, HJx.out⟩⟩
    · obtain rfl : k = hs.length := by omega
      rw [List.take_length] at hJs
      gi_wp2
      go_end0
      exact ⟨⟨_, rfl⟩, .inl ⟨_, rfl, hJs⟩⟩
theorem hours_stops (n : Nat) (hn : 1 ≤ n) (Bs n₀ c : Nat) {A : Option Addr} (hs : List Wn) (hlen : hs.length ≤ 9000000000000000000) (w : World) (hBl : Bs < w.heap.size) (hn₀ : n₀ ≤ w.heap.size)
    (hBs : w.cell? ⟨Bs, 1, none⟩ = some (.slice A hs.length c)) (hr : Rd encW 3 w n₀ A hs) :
    SeqStopsK Fence.wide n Try.prog 62 #[.pointer (some ⟨Bs, 0, none⟩)] encV (Below n₀) (fun ys => ys = vws hs) (fun pre => ∀ p ∈ pre, p.1 ∈ hs) hs.length w := fun l J Jx W hW hJ _ hY h0 =>
  hours1_in n hn l Bs n₀ c hs hlen J Jx W hJ hY ((hW.cell (p := ⟨Bs, 1, none⟩) hBl).trans hBs) (hr.keep (hW.mono hn₀)) (Nat.le_trans hn₀ hW.size) h0
set_option maxHeartbeats 1000000 in
theorem hours_in (n : Nat) (z : Zn) (w : World) :
    CallsIn Fence.wide n Try.prog 54 #[ZV z] w fun e w' => e = .returned (.func (.func 62) #[] #[.pointer (some ⟨w.heap.size, 0, none⟩)]) ∧ w' = w.alloc (.cells #[.string z.name, .slice z.hA z.hs.length z.hc, .slice z.sA z.ss.length z.sc, .int .i64 z.grace, .int .i64 z.free, .int .i64 z.dayMax, .int .i64 z.maxStay] 25) := by
  refine callsIn_of_wp Try.func54 rfl trivial ?_ rfl
  simp only [Try.ntmps54, List.size_toArray, List.length_cons, List.length_nil, Nat.reduceAdd, Nat.reduceSub, Array.replicate_succ, Array.replicate_zero, List.push_toArray, List.append_toArray, List.nil_append, List.cons_append]
  gi_wp2
  go_ret
  exact ⟨rfl, rfl⟩
end Go.Proofs.Ytfilfdkbchkpmaa
