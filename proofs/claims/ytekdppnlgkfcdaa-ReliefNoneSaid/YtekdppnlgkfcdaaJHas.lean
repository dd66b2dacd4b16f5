/- Joined texts: Has, DevOut. -/
import Derived.Test.YtekdppnlgkfcdaaJDevAt
import Derived.Test.YtekdppnlgkfcdaaShelf
import Derived.Deep.RegionHeld3
import Derived.Deep.DrawnRows
import Derived.Test.YtekdppnlgkfcdaaJFirst
import Derived.Test.YtekdppnlgkfcdaaJJoins
/- span.Has, walked. -/
namespace Go.Proofs.Ytekdppnlgkfcdaa
open Go.RowKit Go.Lib Go.Shelf

theorem contains_any (p : Iv → Bool) (g : Nat) (lb : Array Value) (eg : ∀ args w, (callFunc g args).run Try.prog w = .ok (.enter g args) w) {A : Option Addr} (c : Nat) {l : List Iv} {w : World}
    (hp : ∀ (W : World) (x : Iv), Below w.heap.size w W → Calls Try.prog g (#[.agg #[.int .i64 x.1, .int .i64 x.2]] ++ lb) W fun e w' => e = .returned (.bool (p x)) ∧ Below w.heap.size w w')
    (h : Rd encIv 2 w w.heap.size A l) (hl : l.length ≤ 100000000000) :
    Calls Try.prog 42 #[.slice A l.length c, .func (.func g) #[] lb] w fun e w' => e = .returned (.bool (l.any p)) ∧ Below w.heap.size w w' := by
  by_cases hne : l = []
  · subst hne
    clear h hp eg
    go_enter Try.func42, Try.ntmps42
    go_wp2_with go_in
    refine wp_loop_rounds 1 ?_
    rw [rounds_succ]
    go_wp2
    go_ret
    exact ⟨rfl, Below.refl _ _⟩
  · obtain ⟨b, off, rfl, hb, hc⟩ := h hne
    have hcon := AnyQ.slices_ContainsFunc Try.lay_containsf_f42 2 Try.isAgg84 Try.sizeOf84 encIv encIv_ok.1 p g lb eg b off l.length c l w (fun W x hW => hp W x hW) (Nat.le_refl _) (by omega) hb
      (fun j hj i v hi => hc j l[j]! (by rw [getElem!_pos l j hj]; exact List.getElem?_eq_getElem hj) i v hi)
    rw [List.take_length] at hcon
    exact hcon

theorem hasClosure_any (x : Iv) (t : Int) (b : Nat) (W : World) (hb : b < W.heap.size) (hc : W.cell? ⟨b, 0, none⟩ = some (.int .i64 t)) :
    Calls Try.prog 43 #[.agg #[.int .i64 x.1, .int .i64 x.2], .pointer (some ⟨b, 0, none⟩)] W fun e w' => e = .returned (.bool (validB x.1 x.2 && decide (x.1 ≤ t) && decide (t < x.2))) ∧ Below W.heap.size W w' := by
  obtain ⟨f, u⟩ := x
  have hbel := ((Below.refl W.heap.size W).al (.cells #[.int .i64 f, .int .i64 u] 84)).al (.cells #[.int .i64 f, .int .i64 u] 84)
  have hb2 : b < W.heap.size + 1 := by omega
  have hb3 : b ≠ W.heap.size := by omega
  have hb4 : b ≠ W.heap.size + 1 := by omega
  cases hv : validB f u
  · go_enter Try.func43, Try.ntmps43
    go_wp2_with (go_at_call 44; refine (valid_any _ _ _).mono ?_; rintro e w' ⟨rfl, rfl⟩)
    go_ret
    exact ⟨ret_bool (by simp), hbel⟩
  · by_cases h1 : f ≤ t
    · by_cases h2 : t < u
      · have R := Lib.hid (show (true && decide (f ≤ t) && decide (t < u)) = true by simp [h1, h2])
        go_enter Try.func43, Try.ntmps43
        go_wp2_with (go_at_call 44; refine (valid_any _ _ _).mono ?_; rintro e w' ⟨rfl, rfl⟩)
        go_ret
        exact ⟨ret_bool (by first | exact R.out.symm | (rw [R.out]; simp; omega)), hbel⟩
      · have R := Lib.hid (show (true && decide (f ≤ t) && decide (t < u)) = false by simp [h2])
        go_enter Try.func43, Try.ntmps43
        go_wp2_with (go_at_call 44; refine (valid_any _ _ _).mono ?_; rintro e w' ⟨rfl, rfl⟩)
        go_ret
        exact ⟨ret_bool (by first | exact R.out.symm | (rw [R.out]; simp; omega)), hbel⟩
    · have R := Lib.hid (show (true && decide (f ≤ t) && decide (t < u)) = false by simp [h1])
      go_enter Try.func43, Try.ntmps43
      go_wp2_with (go_at_call 44; refine (valid_any _ _ _).mono ?_; rintro e w' ⟨rfl, rfl⟩)
      go_ret
      exact ⟨ret_bool R.out.symm, hbel⟩

theorem has_any {A : Option Addr} (c : Nat) {l : List Iv} (t : Int) {w : World} (h : Rd encIv 2 w w.heap.size A l) (hl : l.length ≤ 100000000000) :
    Calls Try.prog 28 #[.slice A l.length c, .int .i64 t] w fun e w' => e = .returned (.bool (hasB l t)) ∧ Below w.heap.size w w' := by
  have eg : ∀ args w, (callFunc 43 args).run Try.prog w = .ok (.enter 43 args) w := enters_of Try.func43 (by kernel_rfl) rfl
  have hz : w.heap.size < (w.alloc (.cells #[.int .i64 t] 3)).heap.size := by simp
  have hb0 := (Below.refl w.heap.size w).al (.cells #[.int .i64 t] 3)
  have C := Lib.hid (contains_any (fun x => validB x.1 x.2 && decide (x.1 ≤ t) && decide (t < x.2)) 43 #[.pointer (some ⟨w.heap.size, 0, none⟩)] eg c (w := w.alloc (.cells #[.int .i64 t] 3))
    (fun W x hW => (hasClosure_any x t w.heap.size W (Nat.lt_of_lt_of_le hz hW.size) ((hW.cell (p := ⟨w.heap.size, 0, none⟩) hz).trans (by simp))).mono fun e w' ⟨he, hw'⟩ => ⟨he, hW.trans (hw'.mono hW.size)⟩)
    ((h.keep hb0).more (Nat.le_of_lt hz)) hl)
  clear h eg
  go_enter Try.func28, Try.ntmps28
  go_wp2_with fail
  refine C.out.mono ?_
  rintro e w' ⟨rfl, hb⟩
  go_wp2_with fail
  go_ret
  exact ⟨rfl, hb0.trans (hb.mono (Nat.le_of_lt hz))⟩
end Go.Proofs.Ytekdppnlgkfcdaa
/- device.Outage, walked. -/
namespace Go.Proofs.Ytekdppnlgkfcdaa
open Go.RowKit Go.Lib Go.Sort Go.Shelf

/-- no device works at t -/
def NoneAt (r : List Dv) (t : Int) : Prop := (0 ≤ t ∧ t < 68719476736) ∧ ∀ d ∈ r, Mem d.ds t
theorem allday : NF [((0, 68719476736) : Iv)] ∧ ∀ t, Mem [((0, 68719476736) : Iv)] t ↔ NoneAt [] t := by
  refine ⟨⟨?_, ?_⟩, fun t => ?_⟩
  · simp [vld]
  · simp
  · rw [Mem.cons]
    unfold vld NoneAt
    simp [Mem.nil]

set_option maxRecDepth 100000 in
set_option maxHeartbeats 4000000 in
theorem dout_any {A : Option Addr} (c : Nat) {l : List Dv} (pt : ByteArray) (kd : Int) {w : World} (h : Rd encD 6 w w.heap.size A l) (hz : DsOk w l) (hsm : ∀ d ∈ l, smallD d) (hl : l.length ≤ 100000000) :
    Calls Try.prog 29 #[.slice A l.length c, .string pt, .int .i64 kd] w fun e w' => ∃ r, AtOf pt kd l r ∧ NFr (NoneAt r) w w' e := by
  have hb0 := (Below.refl w.heap.size w).al (.cells #[.int .i64 0, .int .i64 68719476736] 84)
  have CA := Lib.hid (dat_any c pt kd (w := w.alloc (.cells #[.int .i64 0, .int .i64 68719476736] 84)) (h.st hb0) (hz.st hb0) hsm hl)
  have hown0 : Own 84 encIv 2 (w.alloc (.cells #[.int .i64 0, .int .i64 68719476736] 84)) w.heap.size (some ⟨w.heap.size, 0, none⟩) 1 [((0, 68719476736) : Iv)] := Own.lit (e := 84) (cs := #[.int .i64 0, .int .i64 68719476736]) w w.heap.size [((0, 68719476736) : Iv)] encIv_ok rfl rfl (Nat.le_refl _) (by simp)
  have HSM : Hid (∀ pt kd r, AtOf pt kd l r → r.length ≤ 100000000 ∧ ∀ d ∈ r, d.ds.length ≤ 100000000000) := by
    intro pt kd r hr
    have hp := hr.perm
    refine ⟨?_, fun d hd => ?_⟩
    · have := hp.length_eq
      simp only [List.length_map] at this
      have := List.length_filter_le (selB pt kd) l
      omega
    · have := hp.subset (List.mem_map_of_mem (f := vD) hd)
      rw [List.mem_map] at this
      obtain ⟨d2, hd2, e⟩ := this
      have h3 := (hsm d2 ((List.mem_filter.1 hd2).1)).2
      have e2 : d2.ds = d.ds := congrArg (fun v : Val => v.2.2.2.2.2) e
      rw [← e2]; exact h3
  clear h hz hsm
  go_enter Try.func29, Try.ntmps29
  go_wp2_with fail
  refine CA.out.mono ?_
  rintro e w1 ⟨A1, c1, r, rfl, hro, hrd, hat, hb1⟩
  have HAT := Lib.hid hat
  obtain ⟨hrl, hrs⟩ := HSM.out pt kd r hat
  have HRS := Lib.hid hrs
  have HRD := Lib.hid (fun d hd => (hrd d hd).ok)
  have HRO := Lib.hid (hro.rd encD_ok)
  have hbr1 := hb0.st hb1
  have hown1 := hown0.st hb1
  clear hat hrd hrs hro CA HSM hown0
  obtain ⟨wE, hwE⟩ : ∃ wE, wE = w1 := ⟨_, rfl⟩
  rw [← hwE] at HRD HRO hbr1 hown1 ⊢
  clear hwE
  go_wp2_with fail
  go_loopw [7, 17] (fun v i wr => ∃ (k : Nat) (A' : Option Addr) (c' : Nat) (n : List Iv), k ≤ r.length ∧ i = .int .i64 k ∧ v = .slice A' n.length c' ∧ NF n ∧ Hid (∀ t, Mem n t ↔ NoneAt (r.take k) t) ∧ Own 84 encIv 2 wr w.heap.size A' c' n ∧ Below wE.heap.size wE wr) (fun _ i _ => r.length - (intOf i).toNat)
  case atStart => exact ⟨0, some ⟨w.heap.size, 0, none⟩, 1, [((0, 68719476736) : Iv)], Nat.zero_le _, rfl, rfl, allday.1, allday.2, hown1, Below.refl _ _⟩
  case round =>
    clear hown1
    obtain ⟨k, A', c', n, hk, rfl, rfl, hn, HM, hown, hbr⟩ := hrel
    by_cases hlt : k < r.length
    · obtain ⟨b, off, d, rfl, hg, hx, d0, d1, d2, d3, d4, d5⟩ := (HRO.out.st hbr).d hlt
      have hmem := List.mem_of_getElem? hx
      have hb2 := (Below.refl wr.heap.size wr).al (.cells #[.string d.name, .string d.pt, .int .i64 d.kind, .int .i64 d.lane, .slice d.oA d.os.length d.oc, .slice d.dA d.ds.length d.dc] 79)
      have hnl := hn.length_max
      have CM := Lib.hid (meet_any c' d.dc ((hown.st hb2).rd encIv_ok) (((HRD.out d hmem).st hbr).st hb2).2 (by omega) (HRS.out d hmem))
      have HM2 : Hid (∀ t, (Mem n t ∧ Mem d.ds t) ↔ NoneAt (r.take (k + 1)) t) := fun t => by
        rw [HM.out, take_snoc hx]
        unfold NoneAt
        constructor
        · rintro ⟨⟨a, b⟩, c⟩
          exact ⟨a, fun y hy => by rw [List.mem_append] at hy; rcases hy with hy | hy; (exact b y hy); (simp at hy; subst hy; exact c)⟩
        · rintro ⟨a, b⟩
          exact ⟨⟨a, fun y hy => b y (by simp [hy])⟩, b d (by simp)⟩
      have hsz := hbr1.size
      have hsz2 := hbr.size
      clear hx HM hmem
      obtain ⟨nm, pt1, kd1, ln, oA, oc, os, dA, dc, ds⟩ := d
      simp only at *
      go_wp2_with fail
      refine CM.out.mono ?_
      rintro e w3 ⟨A3, c3, n3, rfl, hn3, hm3, ho3, hb3⟩
      have HM3 := Lib.hid (fun t => (hm3 t).trans (HM2.out t))
      have hbr3 := (hbr.st hb2).st hb3
      have ho4 := ho3.mono (show w.heap.size ≤ _ from Nat.le_trans hsz (Nat.le_trans hsz2 hb2.size))
      clear hm3 HM2 ho3
      go_wp2
      go_roundw
      case rel => exact ⟨k + 1, A3, c3, n3, by omega, by go_num, rfl, hn3, HM3, ho4, hbr3⟩
      case measure => simp [intOf]; omega
    · obtain rfl : k = r.length := by omega
      have HF := Lib.hid (show ∀ t, Mem n t ↔ NoneAt r t by have := HM.out; rwa [List.take_length] at this)
      clear HM
      go_wp2
      go_ret
      exact ⟨r, HAT.out, A', c', n, rfl, hn, HF.out, hown, hbr1.st hbr⟩
end Go.Proofs.Ytekdppnlgkfcdaa
