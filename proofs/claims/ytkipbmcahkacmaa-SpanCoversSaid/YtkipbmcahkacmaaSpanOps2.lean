/- The program's functions of chapter 05, walked: Minus, Length, Has, Covers. -/
import Derived.Test.YtkipbmcahkacmaaSpanOps
namespace Go.Proofs.Ytkipbmcahkacmaa
open Go.RowKit Go.Lib

set_option maxHeartbeats 2000000 in
theorem minus_any {A B : Option Addr} (c d : Nat) {a b : List Iv} {w : World} (ha : Rd encIv 2 w w.heap.size A a) (hb : Rd encIv 2 w w.heap.size B b) (hla : a.length ≤ 100000000000) (hlb : b.length ≤ 100000000000) :
    Calls Try.prog 20 #[.slice A a.length c, .slice B b.length d] w fun e w' => NFr (fun t => Mem a t ∧ ¬ Mem b t) w w' e := by
  have C1 := Lib.hid (join1 d hb hlb)
  have HA := Lib.hid ha
  clear ha hb
  go_enter Try.func20, Try.ntmps20
  go_wp2_with fail
  refine C1.out.mono ?_
  rintro e w2 ⟨A2, c2, n, rfl, hn, hm, hon, hb2⟩
  have HM := Lib.hid hm
  have hrd := Lib.hid (hon.rd encIv_ok)
  have hln := hn.length_max
  have HN := Lib.hid hn
  clear C1 hm hon hn
  go_wp2_with fail
  go_loopw [5, 6, 13] (fun f v i wr => ∃ (k : Nat) (A' : Option Addr) (c' : Nat) (o : List Iv) (q : Int), k ≤ n.length ∧ i = .int .i64 k ∧ Hid (cpre 0 (n.take k) = o ∧ cfrom 0 (n.take k) = q) ∧ f = .int .i64 q ∧ v = .slice A' o.length c' ∧ Own 25 encIv 2 wr w2.heap.size A' c' o ∧ Below w2.heap.size w2 wr) (fun _ _ i _ => n.length - (intOf i).toNat)
  case atStart => exact ⟨0, none, 0, [], 0, Nat.zero_le _, rfl, ⟨rfl, rfl⟩, rfl, rfl, Own.nil _ _, Below.refl _ _⟩
  case round =>
    obtain ⟨k, A', c', o, q, hk, rfl, HO, rfl, rfl, hown, hbr⟩ := hrel
    have hol : o.length ≤ k := by
      rw [← HO.out.1, cpre_length]
      exact List.length_take_le _ _
    by_cases hlt : k < n.length
    · obtain ⟨g, off, f, u, rfl, hg, hx, hc0, hc1⟩ := (hrd.out.keep hbr).iv hlt
      have R := Lib.hid (show cpre 0 (n.take (k + 1)) = o ++ [(q, f)] ∧ cfrom 0 (n.take (k + 1)) = u by rw [take_snoc hx, cpre_snoc, cfrom_snoc, HO.out.1, HO.out.2]; exact ⟨rfl, rfl⟩)
      have hbr1 := hbr.al (.cells #[.int .i64 f, .int .i64 u] 25)
      have hown1 := hown.alloc (.cells #[.int .i64 f, .int .i64 u] 25)
      have hne := Lib.hid (hown.ne (Nat.le_refl _))
      have hbxc : (wr.alloc (.cells #[.int .i64 f, .int .i64 u] 25)).cell? ⟨wr.heap.size, 1, none⟩ = some (.int .i64 u) := by simp
      have hbxs : wr.heap.size < (wr.alloc (.cells #[.int .i64 f, .int .i64 u] 25)).heap.size := by simp
      clear hx HO hbr hown
      go_wp2_with ((at_builtin; refine wpList_app1 rfl (.tmp 17) (.tmp 22) tyIv encIv_ok rfl ((q, f) : Iv) rfl _ rfl (by simp) hown1 rfl (by first | rfl | simp) (by first | omega | (simp; omega)) (by first | omega | (simp; omega)) hbr1.size ?_; intro A3 c3 w3 hown3 hb3 hs3 hf3; have hbel3 := hbr1.trans hb3); have hq3 := (hf3 ⟨wr.heap.size, 1, none⟩ hbxs hne.out).trans hbxc)
      go_roundw
      case rel => exact ⟨k + 1, A3, c3, _, _, by omega, by go_num, R, rfl, by simp, hown3, hbel3⟩
      case measure => simp [intOf]; omega
    · obtain rfl : k = n.length := by omega
      have hcp : compl 0 n = o ++ [(q, 68719476736)] := by
        have := HO.out
        rw [List.take_length] at this
        rw [compl_eq, this.1, this.2]
      have hcl : (compl 0 n).length = o.length + 1 := by rw [hcp]; simp
      have hmem : ∀ t, (Mem a t ∧ Mem (compl 0 n) t) ↔ (Mem a t ∧ ¬ Mem b t) := by
        intro t
        rw [compl_mem n 0 HN.out (Int.le_refl _) (fun x hx => by have := HN.out.1 x hx; unfold vld at this; omega), HM.out]
        constructor
        · rintro ⟨h1, h2⟩; exact ⟨h1, h2.2.2⟩
        · rintro ⟨h1, h2⟩; exact ⟨h1, h1.range.1, h1.range.2, h2⟩
      have HC := Lib.hid hcp
      have HL := Lib.hid hcl
      have HMM := Lib.hid hmem
      clear HO hcp hcl hmem
      go_wp2_with (at_builtin; refine wpList_app1 rfl (.tmp 28) (.tmp 31) tyIv encIv_ok rfl ((q, 68719476736) : Iv) rfl _ rfl (by simp) hown rfl (by first | rfl | simp) (by first | omega | (simp; omega)) (by first | omega | (simp; omega)) hbr.size ?_; intro A3 c3 w3 hown3 hb3 hs3 hf3; have hbel3 := hbr.trans hb3)
      have hbel := hb2.trans (hbel3.mono hb2.size)
      rw [← HL.out]
      rw [← HC.out] at hown3
      refine (meet_any c c3 ((HA.out.keep hbel).more hbel.size) (hown3.rd encIv_ok) hla (by rw [HL.out]; omega)).mono ?_
      rintro e w4 ⟨A4, c4, z, rfl, h1, h2, h3, h4⟩
      have H2 := Lib.hid (fun t => (h2 t).trans (HMM.out t))
      clear h2
      go_wp2_with fail
      go_ret
      exact ⟨A4, c4, z, rfl, h1, H2.out, h3.mono hbel.size, hbel.trans (h4.mono hbel.size)⟩

set_option maxHeartbeats 2000000 in
theorem length_any {A : Option Addr} (c : Nat) {l : List Iv} {w : World} (h : Rd encIv 2 w w.heap.size A l) (hl : l.length ≤ 100000000000) :
    Calls Try.prog 22 #[.slice A l.length c] w fun e w' => ∃ n, e = .returned (.int .i64 (len n)) ∧ NF n ∧ (∀ t, Mem n t ↔ Mem l t) ∧ Below w.heap.size w w' := by
  have C1 := Lib.hid (join1 c h hl)
  clear h
  go_enter Try.func22, Try.ntmps22
  go_wp2_with fail
  refine C1.out.mono ?_
  rintro e w2 ⟨A2, c2, n, rfl, hn, hm, hon, hb2⟩
  have HM := Lib.hid hm
  have hrd := Lib.hid (hon.rd encIv_ok)
  have hln := hn.length_max
  have HN := Lib.hid hn
  clear C1 hm hon hn
  go_wp2_with fail
  go_loopw [3, 10] (fun v i wr => ∃ (k : Nat) (q : Int), k ≤ n.length ∧ i = .int .i64 k ∧ Hid (len (n.take k) = q) ∧ v = .int .i64 q ∧ Below w2.heap.size w2 wr) (fun _ i _ => n.length - (intOf i).toNat)
  case atStart => exact ⟨0, 0, Nat.zero_le _, rfl, rfl, rfl, Below.refl _ _⟩
  case round =>
    obtain ⟨k, q, hk, rfl, HO, rfl, hbr⟩ := hrel
    have hq := len_bounds (HN.out.take k)
    rw [HO.out] at hq
    obtain ⟨hq1, hq2⟩ := hq
    by_cases hlt : k < n.length
    · obtain ⟨g, off, f, u, rfl, hg, hx, hc0, hc1⟩ := (hrd.out.keep hbr).iv hlt
      have hv := HN.out.1 _ (List.mem_of_getElem? hx)
      unfold vld at hv
      simp only at hv
      obtain ⟨hv1, hv2, hv3⟩ := hv
      have R := Lib.hid (show len (n.take (k + 1)) = q + (u - f) by rw [take_snoc hx, len_snoc, HO.out])
      have hbr1 := hbr.al (.cells #[.int .i64 f, .int .i64 u] 25)
      clear hx HO hbr
      go_wp2
      go_roundw
      case rel => exact ⟨k + 1, _, by omega, by go_num, R, rfl, hbr1⟩
      case measure => simp [intOf]; omega
    · obtain rfl : k = n.length := by omega
      have R := Lib.hid (show len n = q by have := HO.out; rwa [List.take_length] at this)
      clear HO
      go_wp2
      go_ret
      exact ⟨n, ret_int R.out.symm, HN.out, HM.out, hb2.trans (hbr.mono hb2.size)⟩

/-- slices.ContainsFunc over a slice of intervals -/
theorem contains_any (p : Iv → Bool) (g : Nat) (lb : Array Value) (eg : ∀ args w, (callFunc g args).run Try.prog w = .ok (.enter g args) w) {A : Option Addr} (c : Nat) {l : List Iv} {w : World}
    (hp : ∀ (W : World) (x : Iv), Below w.heap.size w W → Calls Try.prog g (#[.agg #[.int .i64 x.1, .int .i64 x.2]] ++ lb) W fun e w' => e = .returned (.bool (p x)) ∧ Below w.heap.size w w')
    (h : Rd encIv 2 w w.heap.size A l) (hl : l.length ≤ 100000000000) :
    Calls Try.prog 33 #[.slice A l.length c, .func (.func g) #[] lb] w fun e w' => e = .returned (.bool (l.any p)) ∧ Below w.heap.size w w' := by
  by_cases hne : l = []
  · subst hne
    clear h hp eg
    go_enter Try.func33, Try.ntmps33
    go_wp2_with go_in
    refine wp_loop_rounds 1 ?_
    rw [rounds_succ]
    go_wp2
    go_ret
    exact ⟨rfl, Below.refl _ _⟩
  · obtain ⟨b, off, rfl, hb, hc⟩ := h hne
    have hcon := AnyQ.slices_ContainsFunc Try.lay_containsf_f33 2 Try.isAgg25 Try.sizeOf25 encIv encIv_ok.1 p g lb eg b off l.length c l w (fun W x hW => hp W x hW) (Nat.le_refl _) (by omega) hb
      (fun j hj i v hi => hc j l[j]! (by rw [getElem!_pos l j hj]; exact List.getElem?_eq_getElem hj) i v hi)
    rw [List.take_length] at hcon
    exact hcon
end Go.Proofs.Ytkipbmcahkacmaa
