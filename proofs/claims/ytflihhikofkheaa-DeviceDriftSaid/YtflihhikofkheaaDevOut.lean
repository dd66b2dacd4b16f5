/- device.Outage, walked. -/
import Derived.Test.YtflihhikofkheaaDevAt
import Derived.Test.YtflihhikofkheaaMeet
import Derived.Test.YtflihhikofkheaaHas
namespace Go.Proofs.Ytflihhikofkheaa
open Go.RowKit Go.Lib Go.Sort Go.Shelf

/-- no device works at t -/
def NoneAt (r : List Dv) (t : Int) : Prop := (0 ≤ t ∧ t < 68719476736) ∧ ∀ d ∈ r, Mem d.ds t
theorem allday : NF [((0, 68719476736) : Iv)] ∧ ∀ t, Mem [((0, 68719476736) : Iv)] t ↔ NoneAt [] t := by
  refine ⟨⟨?_, ?_⟩, fun t => ?_⟩
  · simp [vld]
  · simp
  · rw [Mem.cons]
    unfold vld NoneAt
    simp [Mem.nil]

set_option maxRecDepth 100000 in
set_option maxHeartbeats 4000000 in
theorem dout_any {A : Option Addr} (c : Nat) {l : List Dv} (pt : ByteArray) (kd : Int) {w : World} (h : Rd encD 6 w w.heap.size A l) (hz : DsOk w l) (hsm : ∀ d ∈ l, smallD d) (hl : l.length ≤ 100000000) :
    Calls Try.prog 18 #[.slice A l.length c, .string pt, .int .i64 kd] w fun e w' => ∃ r, AtOf pt kd l r ∧ NFr (NoneAt r) w w' e := by
  have hb0 := (Below.refl w.heap.size w).al (.cells #[.int .i64 0, .int .i64 68719476736] 48)
  have CA := Lib.hid (dat_any c pt kd (w := w.alloc (.cells #[.int .i64 0, .int .i64 68719476736] 48)) (h.st hb0) (hz.st hb0) hsm hl)
  have hown0 : Own 48 encIv 2 (w.alloc (.cells #[.int .i64 0, .int .i64 68719476736] 48)) w.heap.size (some ⟨w.heap.size, 0, none⟩) 1 [((0, 68719476736) : Iv)] := Own.lit (e := 48) (cs := #[.int .i64 0, .int .i64 68719476736]) w w.heap.size [((0, 68719476736) : Iv)] encIv_ok rfl rfl (Nat.le_refl _) (by simp)
  have HSM : Hid (∀ pt kd r, AtOf pt kd l r → r.length ≤ 100000000 ∧ ∀ d ∈ r, d.ds.length ≤ 100000000000) := by
    intro pt kd r hr
    have hp := hr.perm
    refine ⟨?_, fun d hd => ?_⟩
    · have := hp.length_eq
      simp only [List.length_map] at this
      have := List.length_filter_le (selB pt kd) l
      omega
    · have := hp.subset (List.mem_map_of_mem (f := vD) hd)
      rw [List.mem_map] at this
      obtain ⟨d2, hd2, e⟩ := this
      have h3 := (hsm d2 ((List.mem_filter.1 hd2).1)).2
      have e2 : d2.ds = d.ds := congrArg (fun v : Val => v.2.2.2.2.2) e
      rw [← e2]; exact h3
  clear h hz hsm
  go_enter Try.func18, Try.ntmps18
  go_wp2_with fail
  refine CA.out.mono ?_
  rintro e w1 ⟨A1, c1, r, rfl, hro, hrd, hat, hb1⟩
  have HAT := Lib.hid hat
  obtain ⟨hrl, hrs⟩ := HSM.out pt kd r hat
  have HRS := Lib.hid hrs
  have HRD := Lib.hid (fun d hd => (hrd d hd).ok)
  have HRO := Lib.hid (hro.rd encD_ok)
  have hbr1 := hb0.st hb1
  have hown1 := hown0.st hb1
  clear hat hrd hrs hro CA HSM hown0
  obtain ⟨wE, hwE⟩ : ∃ wE, wE = w1 := ⟨_, rfl⟩
  rw [← hwE] at HRD HRO hbr1 hown1 ⊢
  clear hwE
  go_wp2_with fail
  go_loopw [7, 17] (fun v i wr => ∃ (k : Nat) (A' : Option Addr) (c' : Nat) (n : List Iv), k ≤ r.length ∧ i = .int .i64 k ∧ v = .slice A' n.length c' ∧ NF n ∧ Hid (∀ t, Mem n t ↔ NoneAt (r.take k) t) ∧ Own 48 encIv 2 wr w.heap.size A' c' n ∧ Below wE.heap.size wE wr) (fun _ i _ => r.length - (intOf i).toNat)
  case atStart => exact ⟨0, some ⟨w.heap.size, 0, none⟩, 1, [((0, 68719476736) : Iv)], Nat.zero_le _, rfl, rfl, allday.1, allday.2, hown1, Below.refl _ _⟩
  case round =>
    clear hown1
    obtain ⟨k, A', c', n, hk, rfl, rfl, hn, HM, hown, hbr⟩ := hrel
    by_cases hlt : k < r.length
    · obtain ⟨b, off, d, rfl, hg, hx, d0, d1, d2, d3, d4, d5⟩ := (HRO.out.st hbr).d hlt
      have hmem := List.mem_of_getElem? hx
      have hb2 := (Below.refl wr.heap.size wr).al (.cells #[.string d.name, .string d.pt, .int .i64 d.kind, .int .i64 d.lane, .slice d.oA d.os.length d.oc, .slice d.dA d.ds.length d.dc] 36)
      have hnl := hn.length_max
      have CM := Lib.hid (meet_any c' d.dc ((hown.st hb2).rd encIv_ok) (((HRD.out d hmem).st hbr).st hb2).2 (by omega) (HRS.out d hmem))
      have HM2 : Hid (∀ t, (Mem n t ∧ Mem d.ds t) ↔ NoneAt (r.take (k + 1)) t) := fun t => by
        rw [HM.out, take_snoc hx]
        unfold NoneAt
        constructor
        · rintro ⟨⟨a, b⟩, c⟩
          exact ⟨a, fun y hy => by rw [List.mem_append] at hy; rcases hy with hy | hy; (exact b y hy); (simp at hy; subst hy; exact c)⟩
        · rintro ⟨a, b⟩
          exact ⟨⟨a, fun y hy => b y (by simp [hy])⟩, b d (by simp)⟩
      have hsz := hbr1.size
      have hsz2 := hbr.size
      clear hx HM hmem
      obtain ⟨nm, pt1, kd1, ln, oA, oc, os, dA, dc, ds⟩ := d
      simp only at *
      go_wp2_with fail
      refine CM.out.mono ?_
      rintro e w3 ⟨A3, c3, n3, rfl, hn3, hm3, ho3, hb3⟩
      have HM3 := Lib.hid (fun t => (hm3 t).trans (HM2.out t))
      have hbr3 := (hbr.st hb2).st hb3
      have ho4 := ho3.mono (show w.heap.size ≤ _ from Nat.le_trans hsz (Nat.le_trans hsz2 hb2.size))
      clear hm3 HM2 ho3
      go_wp2
      go_roundw
      case rel => exact ⟨k + 1, A3, c3, n3, by omega, by go_num, rfl, hn3, HM3, ho4, hbr3⟩
      case measure => simp [intOf]; omega
    · obtain rfl : k = r.length := by omega
      have HF := Lib.hid (show ∀ t, Mem n t ↔ NoneAt r t by have := HM.out; rwa [List.take_length] at this)
      clear HM
      go_wp2
      go_ret
      exact ⟨r, HAT.out, A', c', n, rfl, hn, HF.out, hown, hbr1.st hbr⟩
end Go.Proofs.Ytflihhikofkheaa
