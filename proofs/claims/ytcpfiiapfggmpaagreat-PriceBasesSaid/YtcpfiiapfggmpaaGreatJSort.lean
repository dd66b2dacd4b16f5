/- Joined texts: Sort, DetCmp. -/
import Derived.Test.YtcpfiiapfggmpaaGreatBase
import Derived.Shelf.SlSortCmp.WholeK
import Derived.Shelf.SlSortCmp.NoneTotal
import Derived.Test.YtcpfiiapfggmpaaGreatJDevEnc
import Derived.Test.YtcpfiiapfggmpaaGreatJShelf
import Derived.Test.YtcpfiiapfggmpaaGreatJRelMath
import Derived.IntWalk
import Derived.BigQuiet
/- slices.SortFunc on a slice of the call's own (structs of k cells): the slice then owns a sorted permutation. Program-free: over the shelf's contract. -/
namespace Go.Proofs.YtcpfiiapfggmpaaGreat
open Go.RowKit Go.Lib Go.Sort Go.Shelf

/-- new blocks and draws alone -/
def Gr (w w' : World) : Prop := ∃ q os, w' = grow (w.drewN q) os
theorem Gr.refl (w : World) : Gr w w := ⟨0, #[], by rw [grow_empty]; rfl⟩
theorem Gr.alloc (w : World) (o : Obj) : Gr w (w.alloc o) := ⟨0, #[o], by rw [alloc_eq_grow]; rfl⟩
theorem Gr.trans {a b c : World} (h : Gr a b) (k : Gr b c) : Gr a c := by
  obtain ⟨q, os, rfl⟩ := h
  obtain ⟨q', os', rfl⟩ := k
  exact ⟨q + q', os ++ os', by
    rw [← grow_grow]
    congr 1
    simp [grow, World.drewN, Nat.add_assoc]⟩
theorem Gr.drewN {a b : World} (h : Gr a b) (n : Nat) : Gr a (b.drewN n) := h.trans ⟨n, #[], by rw [grow_empty]⟩
theorem Gr.drew {a b : World} (h : Gr a b) : Gr a b.drew := h.drewN 1
theorem Gr.below {a b : World} (h : Gr a b) : Below a.heap.size a b := by
  obtain ⟨q, os, rfl⟩ := h
  exact ⟨rfl, rfl, rfl, by simp [World.drewN], fun k hk => by rw [heap_grow_old (a.drewN q) os (k := k) hk]; rfl⟩

section
variable {α : Type} [Inhabited α] {enc : α → List Value} {k : Nat} {w : World} {base e : Nat} {A : Option Addr} {c : Nat} {l : List α}

theorem arr_get! (l : List α) (i : Nat) (h : i < l.length) : l.toArray[i]! = l[i] := by
  simp [h]
omit [Inhabited α] in
theorem enc_get! (x : α) (j : Nat) (hE : Enc enc k) (hj : j < k) : (enc x)[j]? = some (enc x)[j]! := by
  have : j < (enc x).length := by rw [hE.1]; exact hj
  simp [this]
theorem Own.holds (h : Own e enc k w base A c l) (hE : Enc enc k) {g : Nat} (hA : A = some ⟨g, 0, none⟩) : HoldsK enc k w g 0 l.toArray := by
  intro t ht
  rw [size_flatK] at ht
  simp only [List.size_toArray] at ht
  have k0 : 0 < k := by rcases Nat.eq_zero_or_pos k with h | h; · subst h; simp at ht
                        · exact h
  have hi : t / k < l.length := (Nat.div_lt_iff_lt_mul k0).2 ht
  have hj : t % k < k := Nat.mod_lt _ k0
  have e1 : t / k * k + t % k = t := by rw [Nat.mul_comm]; exact Nat.div_add_mod t k
  rw [get_flatK _ _ _ _ (by simpa using ht), Nat.zero_add]
  refine ⟨?_, h.frozen hA t⟩
  have := h.cells hE hA (i := t / k) (x := l[t / k]) (List.getElem?_eq_getElem hi) (enc_get! _ _ hE hj)
  rw [e1] at this
  rw [this, arr_get! l _ hi]
  rfl
theorem flat_toList (hE : Enc enc k) (d : Array α) : (flatK enc k d).toList = d.toList.flatMap enc := by
  apply List.ext_getElem?
  intro t
  by_cases ht : t < d.size * k
  · have k0 : 0 < k := by rcases Nat.eq_zero_or_pos k with h | h; · subst h; simp at ht
                          · exact h
    have hi : t / k < d.size := (Nat.div_lt_iff_lt_mul k0).2 ht
    have hj : t % k < k := Nat.mod_lt _ k0
    have e1 : t / k * k + t % k = t := by rw [Nat.mul_comm]; exact Nat.div_add_mod t k
    have hL : (flatK enc k d).toList[t]? = some ((enc d[t / k]!)[t % k]!) := by
      have h1 := get_flatK enc k d t ht
      rw [Array.getElem?_toList, ← h1]
      have : t < (flatK enc k d).size := by rw [size_flatK]; exact ht
      rw [getElem!_pos (flatK enc k d) t this, Array.getElem?_eq_getElem this]
    have hR := flat_get hE d.toList (t / k) (t % k) hj
    rw [e1] at hR
    rw [hL, hR, List.getElem?_eq_getElem (by simpa using hi)]
    simp only [Option.bind_some, Array.getElem_toList]
    rw [enc_get! _ _ hE hj, getElem!_pos d _ hi]
  · rw [List.getElem?_eq_none (by simp; omega), List.getElem?_eq_none (by rw [flat_length hE]; simp; omega)]
theorem Own.sorted (h : Own e enc k w base A c l) (hE : Enc enc k) {g n : Nat} {os : Array Obj} {d' : Array α} (hA : A = some ⟨g, 0, none⟩) (hd : d'.size = l.length) :
    Own e enc k (sortWorldK enc k w g 0 n d' os) base A c d'.toList ∧ Below base w (sortWorldK enc k w g 0 n d' os) := by
  subst hA
  rcases h.2 with ⟨h1, _⟩ | ⟨g', cap, cur, hv, hb, hg, hnc, hcm, hcs, htake⟩
  · simp at h1
  · simp only [Value.slice.injEq, Option.some.injEq, Addr.mk.injEq, and_true, true_and] at hv
    obtain ⟨rfl, rfl⟩ := hv
    have hgl : g < w.heap.size := (Array.getElem?_eq_some_iff.1 hg).1
    have hh : (sortWorldK enc k w g 0 n d' os).heap[g]? = some (.cells (putCells id 0 (flatK enc k d') cur) e (0, 0)) := by
      unfold sortWorldK putRowK
      rw [heap_grow_old _ _ (by simpa [putRow, mapBlock, Sort.ahead] using hgl)]
      simp [putRow, mapBlock, Sort.ahead, Array.getElem?_modify, hg, onCells]
    have hle : l.length * k ≤ cur.size := by rw [hcs]; exact Nat.mul_le_mul_right k hnc
    refine ⟨⟨by rw [flat_length hE, Array.length_toList], .inr ⟨g, c, _, by rw [Array.length_toList, hd], hb, hh, by rw [Array.length_toList, hd]; exact hnc, hcm, by simp [putCells, hcs], ?_⟩⟩, ?_⟩
    · rw [Array.length_toList, hd, ← flat_toList hE]
      apply List.ext_getElem?
      intro j
      by_cases hj : j < l.length * k
      · rw [List.getElem?_take_of_lt hj, Array.getElem?_toList, Array.getElem?_toList]
        have hj2 : j < (flatK enc k d').size := by rw [size_flatK, hd]; exact hj
        simp [putCells, hd, hj, show j < cur.size by omega]
      · rw [List.getElem?_take_eq_none (by omega), List.getElem?_eq_none (by simp [hd]; omega)]
    · refine ⟨rfl, rfl, rfl, by simp [sortWorldK, putRowK, putRow, mapBlock, Sort.ahead], fun q hq => ?_⟩
      unfold sortWorldK putRowK
      by_cases hql : q < w.heap.size
      · rw [heap_grow_old _ _ (by simpa [putRow, mapBlock, Sort.ahead] using hql)]
        have : g ≠ q := by omega
        simp [putRow, mapBlock, Sort.ahead, Array.getElem?_modify, this]
      · exact absurd hq (by omega)

/-- THE LIBRARY's SORT ON A SLICE OF THE CALL's OWN. -/
theorem sort_own {P : Program} {ρ : Ren} (L : SlLaysF0.n6 P ρ) (aE : ∀ w, (isAgg (ρ.t 24)).run P w = .ok true w) (zE : ∀ w, (Go.sizeOf (ρ.t 24)).run P w = .ok k w) (hE : Enc enc k) (cf : α → α → Int) (hO : SWO (ltOf cf)) (g : Nat) (cb : Array Value)
    (eg : ∀ args w, (callFunc g args).run P w = .ok (.enter g args) w) (hcmp : ∀ (W : World) (x y : α), Calls P g (#[.agg (enc x).toArray, .agg (enc y).toArray] ++ cb) W fun e w' => e = .returned (.int .i64 (cf x y)) ∧ Gr W w')
    (h : Own e enc k w base A c l) (hb : base ≤ w.heap.size) (hsz : l.length < 4611686018427387904) :
    Calls P (ρ.f 6) #[.slice A l.length c, .func (.func g) #[] cb] w fun en w' => en = .returned (.tuple #[]) ∧ ∃ l' : List α, l'.Perm l ∧ l'.Pairwise (fun x y => ltOf cf y x = false) ∧ Own e enc k w' base A c l' ∧ Below base w w' := by
  rcases h.form with ⟨rfl, rfl, rfl⟩ | ⟨g0, hA, hg1, hg2⟩
  · refine (AnyF.slices_SortFunc_none L none 0 _ w).mono ?_
    rintro en w' ⟨rfl, rfl⟩
    exact ⟨rfl, [], List.Perm.refl _, List.Pairwise.nil, h, Below.refl _ _⟩
  · have hcon := AnyQ.slices_SortFunc L k aE zE enc hE.1 hE.2 cf hO g cb g0 0 c l.toArray w eg (fun _ _ _ _ x y => hcmp _ x y) (h.holds hE hA) hg2 (by simpa using hsz)
    subst hA
    rw [List.size_toArray] at hcon
    refine hcon.mono ?_
    rintro en w' ⟨rfl, d', n, os, hp, hs, rfl⟩
    have hd : d'.size = l.length := by simpa using hp.1
    obtain ⟨h1, h2⟩ := h.sorted hE (g := g0) (n := n) (os := os) rfl hd
    refine ⟨rfl, d'.toList, ?_, ?_, h1, h2⟩
    · have := hp.2.2
      have e1 : d'.extract 0 l.length = d' := by rw [← hd, Array.extract_size]
      have e2 : l.toArray.extract 0 l.length = l.toArray := by rw [← List.size_toArray, Array.extract_size]
      rw [e1, e2] at this
      exact this
    · rw [List.pairwise_iff_getElem]
      intro i j hi hj hij
      rw [Array.length_toList] at hi hj
      have := hs i j (Nat.zero_le _) hij (by omega)
      rw [getElem!_pos d' j hj, getElem!_pos d' i hi] at this
      simpa using this
end
end Go.Proofs.YtcpfiiapfggmpaaGreat
/- cmp.Compare at strings, cmp.Or at numbers, walked. -/
namespace Go.Proofs.YtcpfiiapfggmpaaGreat
open Go.RowKit Go.Lib

theorem cmpS_if (a b : ByteArray) : cmpS a b = if sltB a b = true then -1 else if sltB b a = true then 1 else 0 := by
  have h1 := cb_lt a.data.toList b.data.toList
  have h2 := cb_gt a.data.toList b.data.toList
  have r := cb_r a.data.toList b.data.toList
  unfold cmpS sltB
  simp only [ByteArray.toList_eq, decide_eq_true_eq, ← h1, ← h2]
  generalize Lib.compareBytes a.data.toList b.data.toList = x at *
  rcases r with rfl | rfl | rfl <;> simp
theorem eqS_def (a b : ByteArray) : (a.toList == b.toList) = eqS a b := rfl

theorem cmpInt_any (a b : Int) (W : World) : Calls Tryz.prog 73 #[.int .i64 a, .int .i64 b] W fun e w' => e = .returned (.int .i64 (cmpI a b)) ∧ w' = W :=
  AnyG.cmp_Compare_int Tryz.lay_cmpint_f73 a b W

theorem firstI_drop {l : List Int} {k : Nat} {x : Int} (h : l[k]? = some x) : firstI (l.drop k) = if x ≠ 0 then x else firstI (l.drop (k + 1)) := by
  obtain ⟨hk, rfl⟩ := List.getElem?_eq_some_iff.1 h
  rw [List.drop_eq_getElem_cons hk]; rfl
set_option maxRecDepth 100000 in
set_option maxHeartbeats 4000000 in
theorem or_any {A : Option Addr} (c : Nat) {l : List Int} {w : World} (h : Rd encI 1 w w.heap.size A l) (hl : l.length ≤ 1000) :
    Calls Tryz.prog 72 #[.slice A l.length c] w fun e w' => e = .returned (.int .i64 (firstI l)) ∧ w' = w := by
  have HH := Lib.hid h
  clear h
  go_enter Tryz.func72, Tryz.ntmps72
  go_wp2_with fail
  go_loopw [8] (fun i wr => ∃ k : Nat, k ≤ l.length ∧ i = .int .i64 k ∧ Hid (firstI (l.drop k) = firstI l) ∧ wr = w) (fun i _ => l.length - (RowKit.intOf i).toNat)
  case atStart => exact ⟨0, Nat.zero_le _, rfl, rfl, rfl⟩
  case round =>
    obtain ⟨k, hk, rfl, HQ, rfl⟩ := hrel
    by_cases hi : k < l.length
    · obtain ⟨b, off, x, hA, hg, hx, hc⟩ := HH.out.at_ hi
      have d0 := hc 0 _ rfl
      have HD := Lib.hid (firstI_drop hx)
      have HL := Lib.hid hi
      have hi1 : (0 : Int) ≤ (k : Int) := by omega
      have hi2 : (k : Int) < (l.length : Int) := by omega
      subst hA
      simp only [Nat.mul_one, Nat.add_zero] at d0
      clear hc hx
      by_cases hx0 : x = 0
      · have HN := Lib.hid (show firstI (l.drop (k + 1)) = firstI l by rw [← HQ.out, HD.out, if_neg (by simp [hx0])])
        have hx1 : (x != 0) = false := by simp [hx0]
        clear hx0
        go_wp2
        go_roundw
        case rel => exact ⟨k + 1, HL.out, by go_num, HN, trivial⟩
        case measure => have := HL.out; simp [RowKit.intOf]; omega
      · have HN : Hid (firstI l = x) := Lib.hid (show firstI l = x by rw [← HQ.out, HD.out, if_pos hx0])
        have hx1 : (x != 0) = true := by simp [hx0]
        clear hx0 HQ HD
        go_wp2
        go_ret
        exact ⟨by rw [HN.out]; rfl, rfl⟩
    · obtain rfl : k = l.length := by omega
      have HN : Hid (firstI l = 0) := Lib.hid (by rw [← HQ.out, List.drop_length]; rfl)
      clear HQ hi hk
      go_wp2
      go_ret
      exact ⟨by rw [HN.out]; rfl, rfl⟩
end Go.Proofs.YtcpfiiapfggmpaaGreat
