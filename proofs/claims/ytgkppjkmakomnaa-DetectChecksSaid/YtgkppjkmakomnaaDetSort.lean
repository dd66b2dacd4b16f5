/- slices.Clone and SortFunc at detections, SortFunc at corrected ones. -/
import Derived.Test.YtgkppjkmakomnaaDetComp
import Derived.Test.YtgkppjkmakomnaaDetComp2
import Derived.Test.YtgkppjkmakomnaaSort
import Derived.Test.YtgkppjkmakomnaaShelf
import Derived.Shelf.SlicesE.Clone
import Derived.Deep.RegionWith
import Derived.Deep.RegionHeld3
namespace Go.Proofs.Ytgkppjkmakomnaa
open Go.RowKit Go.Lib Go.Sort Go.Shelf

set_option maxRecDepth 100000 in
set_option maxHeartbeats 2000000 in
theorem cloneDt_any {A : Option Addr} (c : Nat) {l : List Dt} {w : World} (h : Rd encDt 7 w w.heap.size A l) (hl : l.length ≤ 1000000) :
    Calls Try.prog 48 #[.slice A l.length c] w fun e w' => ∃ A' c', e = .returned (.slice A' l.length c') ∧ Own 24 encDt 7 w' w.heap.size A' c' l ∧ Below w.heap.size w w' := by
  have qn : ∀ (w : World) (a : Option Addr) (n c n' c' : Nat), (binOp .eql 40 (.slice a n c) (.slice none n' c')).run Try.prog w = .ok (.bool a.isNone) w := fun w a n c n' c' => Lib.run_eql_slice_nil w _ _ a n c n' c' Try.underlying40
  have H := Lib.hid h
  clear h
  cases A with
  | none =>
    have hl0 : l = [] := by
      rcases Classical.em (l = []) with q | q
      · exact q
      · obtain ⟨_, _, hA, _⟩ := H.out q
        cases hA
    subst hl0
    clear H hl
    go_enter Try.func48, Try.ntmps48
    go_wp2
    go_ret
    exact ⟨none, 0, rfl, Own.nil _ _, Below.refl _ _⟩
  | some a =>
    have hown := Own.lit (e := 24) (cs := #[]) w w.heap.size ([] : List Dt) (g := w.heap.size) encDt_ok rfl rfl (Nat.le_refl _) (by simp)
    have hb0 := (Below.refl w.heap.size w).al (.cells #[] 24)
    have hr := H.out.st hb0
    have hbs : w.heap.size ≤ (w.alloc (.cells #[] 24)).heap.size := by simp
    go_enter Try.func48, Try.ntmps48
    go_wp2_with (at_builtin; refine wpList_appS rfl (.tmp 5) (.tmp 6) tyDt encDt_ok rfl _ rfl (by first | rfl | simp) hown l rfl (by first | rfl | simp) hr (by first | omega | (simp; done) | (simp; omega)) (by first | omega | (simp; done) | (simp; omega)) hbs ?_; intro A4 c4 w4 hown4 hb4 hs4 hf4)
    go_ret
    exact ⟨A4, c4, by simp, by simpa using hown4, hb0.trans hb4⟩

theorem sort_others {α : Type} [Inhabited α] {enc : α → List Value} {k : Nat} {w : World} {g n : Nat} {os : Array Obj} {d' : Array α} {b : Nat} (hne : b ≠ g) (hb : b < w.heap.size) : (sortWorldK enc k w g 0 n d' os).heap[b]? = w.heap[b]? := by
  unfold sortWorldK putRowK
  rw [heap_grow_old _ _ (by simpa [putRow, mapBlock, Sort.ahead] using hb)]
  have : g ≠ b := fun e => hne e.symm
  simp [putRow, mapBlock, Sort.ahead, Array.getElem?_modify, this]
/-- the library's sort on a slice of the call's own: all other blocks stay -/
theorem sort_own2 {α : Type} [Inhabited α] {enc : α → List Value} {k : Nat} {w : World} {base e : Nat} {A : Option Addr} {c : Nat} {l : List α} {P : Program} {ρ : Ren} (L : SlLaysF0.n6 P ρ) (aE : ∀ w, (isAgg (ρ.t 24)).run P w = .ok true w) (zE : ∀ w, (Go.sizeOf (ρ.t 24)).run P w = .ok k w) (hE : Enc enc k) (cf : α → α → Int) (hO : SWO (ltOf cf)) (g : Nat) (cb : Array Value)
    (eg : ∀ args w, (callFunc g args).run P w = .ok (.enter g args) w) (hcmp : ∀ (W : World) (x y : α), Calls P g (#[.agg (enc x).toArray, .agg (enc y).toArray] ++ cb) W fun e w' => e = .returned (.int .i64 (cf x y)) ∧ Gr W w')
    (h : Own e enc k w base A c l) (hb : base ≤ w.heap.size) (hsz : l.length < 4611686018427387904) :
    Calls P (ρ.f 6) #[.slice A l.length c, .func (.func g) #[] cb] w fun en w' => en = .returned (.tuple #[]) ∧ ∃ l' : List α, l'.Perm l ∧ l'.Pairwise (fun x y => ltOf cf y x = false) ∧ Own e enc k w' base A c l' ∧ Below base w w' ∧ ∀ b, b < w.heap.size → (∀ g, A = some ⟨g, 0, none⟩ → b ≠ g) → w'.heap[b]? = w.heap[b]? := by
  rcases h.form with ⟨rfl, rfl, rfl⟩ | ⟨g0, hA, hg1, hg2⟩
  · refine (AnyF.slices_SortFunc_none L none 0 _ w).mono ?_
    rintro en w' ⟨rfl, rfl⟩
    exact ⟨rfl, [], List.Perm.refl _, List.Pairwise.nil, h, Below.refl _ _, fun _ _ _ => rfl⟩
  · have hcon := AnyQ.slices_SortFunc L k aE zE enc hE.1 hE.2 cf hO g cb g0 0 c l.toArray w eg (fun _ _ _ _ x y => hcmp _ x y) (h.holds hE hA) hg2 (by simpa using hsz)
    subst hA
    rw [List.size_toArray] at hcon
    refine hcon.mono ?_
    rintro en w' ⟨rfl, d', n, os, hp, hs, rfl⟩
    have hd : d'.size = l.length := by simpa using hp.1
    obtain ⟨h1, h2⟩ := h.sorted hE (g := g0) (n := n) (os := os) rfl hd
    refine ⟨rfl, d'.toList, ?_, ?_, h1, h2, fun b hb hne => sort_others (hne g0 rfl) hb⟩
    · have := hp.2.2
      have e1 : d'.extract 0 l.length = d' := by rw [← hd, Array.extract_size]
      have e2 : l.toArray.extract 0 l.length = l.toArray := by rw [← List.size_toArray, Array.extract_size]
      rw [e1, e2] at this
      exact this
    · rw [List.pairwise_iff_getElem]
      intro i j hi hj hij
      rw [Array.length_toList] at hi hj
      have := hs i j (Nat.zero_le _) hij (by omega)
      rw [getElem!_pos d' j hj, getElem!_pos d' i hi] at this
      simpa using this
theorem sortDt_any {A : Option Addr} (c : Nat) {l : List Dt} {w : World} {base : Nat} (h : Own 24 encDt 7 w base A c l) (hb : base ≤ w.heap.size) (hsz : l.length < 4611686018427387904) :
    Calls Try.prog 49 #[.slice A l.length c, .func (.func 41) #[] #[]] w fun e w' => e = .returned (.tuple #[]) ∧ ∃ l' : List Dt, l'.Perm l ∧ l'.Pairwise (fun x y => cmpDt x y ≤ 0) ∧ Own 24 encDt 7 w' base A c l' ∧ Below base w w' := by
  have eg : ∀ args w, (callFunc 41 args).run Try.prog w = .ok (.enter 41 args) w := enters_of Try.func41 (by kernel_rfl) rfl
  refine (sort_own Try.lay_sort_f49 Try.isAgg24 Try.sizeOf24 encDt_ok cmpDt cmpDt_pre.swo 41 #[] eg (fun W x y => raw_any x y W) h hb hsz).mono ?_
  rintro e w' ⟨rfl, l', hp, hs, ho, hbl⟩
  refine ⟨rfl, l', hp, hs.imp fun {a b} hab => ?_, ho, hbl⟩
  unfold ltOf at hab
  have := of_decide_eq_false hab
  have h2 := cmpDt_pre.s a b
  omega
theorem sortSn_any {A : Option Addr} (c : Nat) {l : List Sn} {w : World} {base : Nat} (h : Own 29 encSn 11 w base A c l) (hb : base ≤ w.heap.size) (hsz : l.length < 4611686018427387904) :
    Calls Try.prog 51 #[.slice A l.length c, .func (.func 18) #[] #[]] w fun e w' => e = .returned (.tuple #[]) ∧ ∃ l' : List Sn, l'.Perm l ∧ l'.Pairwise (fun x y => cmpSn x y ≤ 0) ∧ Own 29 encSn 11 w' base A c l' ∧ Below base w w' ∧ ∀ b, b < w.heap.size → (∀ g, A = some ⟨g, 0, none⟩ → b ≠ g) → w'.heap[b]? = w.heap[b]? := by
  have eg : ∀ args w, (callFunc 18 args).run Try.prog w = .ok (.enter 18 args) w := enters_of Try.func18 (by kernel_rfl) rfl
  refine (sort_own2 Try.lay_sort_f51 Try.isAgg29 Try.sizeOf29 encSn_ok cmpSn cmpSn_pre.swo 18 #[] eg (fun W x y => comp_any x y W) h hb hsz).mono ?_
  rintro e w' ⟨rfl, l', hp, hs, ho, hbl, hot⟩
  refine ⟨rfl, l', hp, hs.imp fun {a b} hab => ?_, ho, hbl, hot⟩
  unfold ltOf at hab
  have := of_decide_eq_false hab
  have h2 := cmpSn_pre.s a b
  omega
/-- an own slice may be stored into -/
theorem Own.hold {e : Nat} {w : World} {base g c : Nat} {l : List Dt} (h : Own e encDt 7 w base (some ⟨g, 0, none⟩) c l) : HoldD w g l.toArray := by
  intro i hi j u hu
  have hi2 : i < l.length := by simpa using hi
  have hx : l[i]? = some (l.toArray[i]!) := by rw [arr_get! l i hi2, List.getElem?_eq_getElem hi2]
  exact ⟨h.cells encDt_ok rfl hx hu, h.frozen rfl _⟩
end Go.Proofs.Ytgkppjkmakomnaa
