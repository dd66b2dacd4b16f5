/- slices.SortStableFunc on a slice of the call's own. -/
import Derived.Test.YtcpfiiapfggmpaaStabTop
import Derived.Test.YtcpfiiapfggmpaaStabList
import Derived.Test.YtcpfiiapfggmpaaSort
import Derived.Test.YtcpfiiapfggmpaaShelf

namespace Go.Proofs.Ytcpfiiapfggmpaa
open Go.RowKit Go.Lib Go.Sort Go.Shelf

def encT {β : Type} (enc : β → List Value) (x : β × Nat) : List Value := enc x.1
theorem encT_ok {β : Type} {enc : β → List Value} {k : Nat} (h : Enc enc k) : Enc (encT enc) k := ⟨fun x => h.1 x.1, fun x => h.2 x.1⟩
theorem flat_tag {β : Type} (enc : β → List Value) (t : List (β × Nat)) : t.flatMap (encT enc) = (t.map Prod.fst).flatMap enc := by
  induction t with
  | nil => rfl
  | cons x t ih => rw [List.flatMap_cons, ih]; rfl
theorem Own.tag {β : Type} {enc : β → List Value} {e k : Nat} {w : World} {base : Nat} {A : Option Addr} {c : Nat} {l : List β} (t : List (β × Nat)) (ht : t.map Prod.fst = l) : Own e (encT enc) k w base A c t ↔ Own e enc k w base A c l := by
  subst ht
  unfold Own
  rw [flat_tag, List.length_map]

theorem sortWorldK_other {β : Type} [Inhabited β] (enc : β → List Value) (k : Nat) (w : World) (g n : Nat) (d' : Array β) (os : Array Obj) (b : Nat) (hb : b < w.heap.size) (hne : b ≠ g) : (sortWorldK enc k w g 0 n d' os).heap[b]? = w.heap[b]? := by
  unfold sortWorldK putRowK
  rw [heap_grow_old _ _ (by simpa [putRow, mapBlock, Sort.ahead] using hb)]
  have : g ≠ b := Ne.symm hne
  simp [putRow, mapBlock, Sort.ahead, Array.getElem?_modify, this]

theorem stF : StF Try.prog 7 where
  mixed := by kernel_rfl
  t0 := Try.underlying0
  a0 := Try.isAgg0
  z0 := Try.sizeOf0
  v0 := Try.zeroValue0
  t3 := Try.underlying3
  a3 := Try.isAgg3
  z3 := Try.sizeOf3
  v3 := Try.zeroValue3
  t4 := Try.underlying4
  a4 := Try.isAgg4
  z4 := Try.sizeOf4
  v4 := Try.zeroValue4
  t22 := Try.underlying30
  a22 := Try.isAgg30
  z22 := Try.sizeOf30
  v22 := Try.zeroValue30
  t78 := Try.underlying98
  a78 := Try.isAgg98
  z78 := Try.sizeOf98
  v78 := Try.zeroValue98
  t96 := Try.underlying136
  a96 := Try.isAgg136
  z96 := Try.sizeOf136
  v96 := Try.zeroValue136
  aE := Try.isAgg24
  zE := Try.sizeOf24
  fsw := Try.func75
  fro := Try.func59
  fsy := Try.func46
  fst := Try.func35
  fso := Try.func23

theorem ins_none (cap : Nat) (fv : Value) (w : World) : Calls Try.prog 45 #[.slice none 0 cap, .int .i64 0, .int .i64 0, fv] w fun e w' => e = .returned (.tuple #[]) ∧ w' = w := by
  go_enter Try.func45, Try.ntmps45
  go_wp2_with fail
  go_loopg [8] 0 (fun g1 va wr => va = .int .i64 1 ∧ wr = w)
  case atStart => exact ⟨rfl, rfl⟩
  case round =>
    obtain ⟨rfl, rfl⟩ := hrel
    go_wp2
    go_end0
    exact ⟨rfl, rfl⟩
theorem stb_none (cap : Nat) (fv : Value) (w : World) : Calls Try.prog 35 #[.slice none 0 cap, .int .i64 0, fv] w fun e w' => e = .returned (.tuple #[]) ∧ w' = w := by
  go_enter Try.func35, Try.ntmps35
  go_wp2_with fail
  go_loopg [7, 8] 0 (fun g1 va vb wr => va = .int .i64 0 ∧ vb = .int .i64 20 ∧ wr = w)
  case atStart => exact ⟨rfl, rfl, rfl⟩
  case round =>
    obtain ⟨rfl, rfl, rfl⟩ := hrel
    go_wp2_with fail
    refine (ins_none cap fv _).mono ?_
    rintro e w' ⟨rfl, rfl⟩
    go_wp2_with fail
    go_loopg [6] 0 (fun g1 va wr => va = .int .i64 20 ∧ wr = w')
    case atStart => exact ⟨rfl, rfl⟩
    case round =>
      obtain ⟨rfl, rfl⟩ := hrel
      go_wp2
      go_end0
      exact ⟨rfl, rfl⟩

/-- THE LIBRARY's STABLE SORT ON A SLICE OF THE CALL's OWN. -/
theorem stab_own {β : Type} [Inhabited β] {enc : β → List Value} {w : World} {base : Nat} {A : Option Addr} {c : Nat} {l : List β} (hE : Enc enc 7) (cf : β → β → Int) (hO : SWO (ltOf cf)) (g : Nat) (cb : Array Value)
    (eg : ∀ args w, (callFunc g args).run Try.prog w = .ok (.enter g args) w) (hcmp : ∀ (W : World) (x y : β), Calls Try.prog g (#[.agg (enc x).toArray, .agg (enc y).toArray] ++ cb) W fun e w' => e = .returned (.int .i64 (cf x y)) ∧ Gr W w')
    (h : Own 24 enc 7 w base A c l) (hb : base ≤ w.heap.size) (hsz : l.length < 1000000000000000000) :
    Calls Try.prog 23 #[.slice A l.length c, .func (.func g) #[] cb] w fun en w' => en = .returned (.tuple #[]) ∧ ∃ l' : List β, StabOf (ltOf cf) l l' ∧ Own 24 enc 7 w' base A c l' ∧ Below base w w' ∧ w.heap.size ≤ w'.heap.size ∧ ∀ b, b < w.heap.size → (∀ g, A = some ⟨g, 0, none⟩ → b ≠ g) → w'.heap[b]? = w.heap[b]? := by
  rcases h.form with ⟨rfl, rfl, rfl⟩ | ⟨g0, hA, hg1, hg2⟩
  · have HN := Lib.hid (fun w => stb_none 0 (.func (.func g) #[] cb) w)
    have HW := Lib.hid h
    go_enter Try.func23, Try.ntmps23
    go_wp2_with fail
    refine (HN.out _).mono ?_
    rintro e w' ⟨rfl, rfl⟩
    go_wp2
    go_end0
    exact ⟨rfl, [], StabOf.nil, HW.out, Below.refl _ _, Nat.le_refl _, fun _ _ _ => rfl⟩
  · have hT : Own 24 (encT enc) 7 w base A c l.zipIdx := (Own.tag l.zipIdx (List.zipIdx_map_fst 0 l)).2 h
    have hlz : l.zipIdx.length = l.length := List.length_zipIdx
    have R : RowK (encT enc) 7 w g0 0 l.zipIdx.toArray := ⟨(encT_ok hE).1, (encT_ok hE).2, hT.holds (encT_ok hE) hA, hg2⟩
    have hC : CmpLays Try.prog g cb (encT enc) 7 (tagC cf) g0 0 l.zipIdx.toArray.size w := fun _ _ _ _ x y => hcmp _ x.1 y.1
    have hS2 : SWO (ltOf (tagC cf)) := ⟨fun x => hO.irrefl x.1, fun x y z => hO.trans x.1 y.1 z.1, fun x y z => hO.ntrans x.1 y.1 z.1⟩
    have hsz2 : l.zipIdx.toArray.size < 1000000000000000000 := by simpa [hlz] using hsz
    have hIns : InsOk Try.prog (encT enc) 7 w g0 0 c g cb cf l.zipIdx.toArray := by
      intro a b d W h1 h2 h3 h4
      have := AnyQ.insertionSortCmpFunc_w (P := Try.prog) Try.lay_ins_f45 7 Try.isAgg24 Try.sizeOf24 (encT enc) (tagC cf) g cb g0 0 c a b l.zipIdx.toArray d w W eg hC R h1.symm h4 hS2 h2 h3 (by omega)
      rw [h1] at this
      exact this
    have hst := stable_any stF R hsz2 c g cb cf hC eg hO hIns (enters_of Try.func45 (by kernel_rfl) rfl) (by
      intro i hi
      have hi' : i < l.zipIdx.length := by simpa using hi
      rw [getElem!_pos _ i hi]
      simp)
    have HST := Lib.hid hst
    have hss : l.zipIdx.toArray.size = l.length := by simp
    rw [hss] at HST
    have HB := Lib.hid (fun n os (d' : Array (β × Nat)) (hd : d'.size = l.zipIdx.length) => hT.sorted (encT_ok hE) (g := g0) (n := n) (os := os) (d' := d') hA hd)
    clear hC hS2 hIns hst R hT
    have HA := Lib.hid hA
    subst hA
    clear h
    go_enter Try.func23, Try.ntmps23
    go_wp2_with fail
    refine (HST.out).mono ?_
    rintro e w' ⟨rfl, d', hp, hs, n, os, rfl⟩
    have hd : d'.size = l.zipIdx.length := by rw [hp.1]; simp
    have HX : Hid (∃ l' : List β, StabOf (ltOf cf) l l' ∧ Own 24 enc 7 (sortWorldK (encT enc) 7 w g0 0 n d' os) base (some ⟨g0, 0, none⟩) c l' ∧ Below base w (sortWorldK (encT enc) 7 w g0 0 n d' os) ∧ w.heap.size ≤ (sortWorldK (encT enc) 7 w g0 0 n d' os).heap.size ∧ ∀ b, b < w.heap.size → (∀ g, some (⟨g0, 0, none⟩ : Addr) = some ⟨g, 0, none⟩ → b ≠ g) → (sortWorldK (encT enc) 7 w g0 0 n d' os).heap[b]? = w.heap[b]?) := by
      obtain ⟨h1, h2⟩ := HB.out n os d' hd
      refine ⟨d'.toList.map Prod.fst, ⟨d'.toList, ?_, ?_, rfl⟩, (Own.tag d'.toList rfl).1 h1, h2, size_sortWorldK_c _ _ _ _ _ _ _ _, fun b hb hne => sortWorldK_other _ _ _ _ _ _ _ _ hb (hne g0 rfl)⟩
      · have := hp.2.2
        have e1 : d'.extract 0 l.length = d' := by rw [show l.length = d'.size by rw [hd, hlz]]; exact Array.extract_size
        have e2 : l.zipIdx.toArray.extract 0 l.length = l.zipIdx.toArray := by rw [← hss]; exact Array.extract_size
        rw [e1, e2] at this
        simpa using this
      · rw [List.pairwise_iff_getElem]
        intro i j hi hj hij
        have hi' : i < d'.size := by simpa using hi
        have hj' : j < d'.size := by simpa using hj
        have := hs i j (Nat.zero_le _) hij (by omega)
        rw [getElem!_pos d' j hj', getElem!_pos d' i hi'] at this
        simpa using this
    clear hp hs
    go_wp2
    go_end0
    exact ⟨rfl, HX.out⟩
end Go.Proofs.Ytcpfiiapfggmpaa
