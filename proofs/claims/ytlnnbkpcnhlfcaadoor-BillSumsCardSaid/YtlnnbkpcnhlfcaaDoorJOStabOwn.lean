/- Joined texts: OStabOwn, CapOrd, BillCapM. -/
import Derived.Test.YtlnnbkpcnhlfcaaDoorJStabBlocks
import Derived.Test.YtlnnbkpcnhlfcaaDoorJStabList
import Derived.Test.YtlnnbkpcnhlfcaaDoorJAppAt
import Derived.Test.YtlnnbkpcnhlfcaaDoorJValid
import Derived.Shelf.SlSortCmp.Whole1
import Derived.Shelf.SlSortCmp.Insertion1
import Derived.Shelf.SlSortCmp.NoneTotal
import Derived.Test.YtlnnbkpcnhlfcaaDoorCapCmp
import Derived.Test.YtlnnbkpcnhlfcaaDoorJBillOf
import Derived.Test.YtlnnbkpcnhlfcaaDoorJBillAwM
/- slices.SortStableFunc and slices.SortFunc on a slice of ints of the call's own; the comparison reads what lies elsewhere. -/

namespace Go.Proofs.YtlnnbkpcnhlfcaaDoor
open Go.RowKit Go.Lib Go.Sort Go.Shelf

section
variable {α : Type} [Inhabited α]
theorem flat1 (enc : α → Value) (d : Array α) : flatK (fun x => [enc x]) 1 d = d.map enc := by
  apply Array.ext
  · simp
  · intro i h1 h2
    have hi : i < d.size := by simpa using h1
    simp [flatK, Nat.mod_one, hi]
theorem putCells1 (enc : α → Value) (off : Nat) (d : Array α) : putCells id off (flatK (fun x => [enc x]) 1 d) = putCells enc off d := by
  rw [flat1]
  unfold putCells
  funext cs
  apply Array.ext
  · simp
  · intro i h1 h2
    simp only [Array.size_map, Array.getElem_mapIdx]
    split
    · rename_i h
      have : i - off < d.size := by omega
      simp [this]
    · rfl
theorem sortWorld1 (enc : α → Value) (w : World) (blk off m : Nat) (dk : Array α) (os : Array Obj) : sortWorld enc w blk off m dk os = sortWorldK (fun x => [enc x]) 1 w blk off m dk os := by
  unfold sortWorld sortWorldK putRowK putRow
  rw [putCells1]
theorem holds1 {enc : α → Value} {w : World} {blk off : Nat} {d : Array α} (h : HoldsK (fun x => [enc x]) 1 w blk off d) : Holds enc w blk off d := by
  intro j hj
  have := h j (by simpa using hj)
  rw [flat1] at this
  simpa [hj] using this
end
theorem stF : StF Tryd.prog where
  mixed := by kernel_rfl
  t0 := Tryd.underlying0
  a0 := Tryd.isAgg0
  z0 := Tryd.sizeOf0
  v0 := Tryd.zeroValue0
  t3 := Tryd.underlying3
  a3 := Tryd.isAgg3
  z3 := Tryd.sizeOf3
  v3 := Tryd.zeroValue3
  t4 := Tryd.underlying4
  a4 := Tryd.isAgg4
  z4 := Tryd.sizeOf4
  v4 := Tryd.zeroValue4
  t22 := Tryd.underlying51
  a22 := Tryd.isAgg51
  z22 := Tryd.sizeOf51
  v22 := Tryd.zeroValue51
  t78 := Tryd.underlying116
  a78 := Tryd.isAgg116
  z78 := Tryd.sizeOf116
  v78 := Tryd.zeroValue116
  t96 := Tryd.underlying141
  a96 := Tryd.isAgg141
  z96 := Tryd.sizeOf141
  v96 := Tryd.zeroValue141
  aE := Tryd.isAgg3
  zE := Tryd.sizeOf3
  fsw := Tryd.func117
  fro := Tryd.func115
  fsy := Tryd.func107
  fst := Tryd.func87
  fso := Tryd.func65


theorem oins_none (A : Option Addr) (cap : Nat) (fv : Value) (w : World) : Calls Tryd.prog 95 #[.slice A 0 cap, .int .i64 0, .int .i64 0, fv] w fun e w' => e = .returned (.tuple #[]) ∧ w' = w := by
  go_enter Tryd.func95, Tryd.ntmps95
  go_wp2_with fail
  go_loopg [8] 0 (fun g1 va wr => va = .int .i64 1 ∧ wr = w)
  case atStart => exact ⟨rfl, rfl⟩
  case round =>
    obtain ⟨rfl, rfl⟩ := hrel
    go_wp2
    go_end0
    exact ⟨rfl, rfl⟩
theorem ostb_none (A : Option Addr) (cap : Nat) (fv : Value) (w : World) : Calls Tryd.prog 87 #[.slice A 0 cap, .int .i64 0, fv] w fun e w' => e = .returned (.tuple #[]) ∧ w' = w := by
  go_enter Tryd.func87, Tryd.ntmps87
  go_wp2_with fail
  go_loopg [7, 8] 0 (fun g1 va vb wr => va = .int .i64 0 ∧ vb = .int .i64 20 ∧ wr = w)
  case atStart => exact ⟨rfl, rfl, rfl⟩
  case round =>
    obtain ⟨rfl, rfl, rfl⟩ := hrel
    go_wp2_with fail
    refine (oins_none A cap fv _).mono ?_
    rintro e w' ⟨rfl, rfl⟩
    go_wp2_with fail
    go_loopg [6] 0 (fun g1 va wr => va = .int .i64 20 ∧ wr = w')
    case atStart => exact ⟨rfl, rfl⟩
    case round =>
      obtain ⟨rfl, rfl⟩ := hrel
      go_wp2
      go_end0
      exact ⟨rfl, rfl⟩
theorem osrt_none (A : Option Addr) (cap : Nat) (fv : Value) (w : World) : Calls Tryd.prog 65 #[.slice A 0 cap, fv] w fun e w' => e = .returned (.tuple #[]) ∧ w' = w := by
  have HN := Lib.hid (fun w => ostb_none A cap fv w)
  go_enter Tryd.func65, Tryd.ntmps65
  go_wp2_with fail
  refine (HN.out _).mono ?_
  rintro e w' ⟨rfl, rfl⟩
  go_wp2
  go_end0
  exact ⟨rfl, rfl⟩

/-- elsewhere all lies as it lay -/
def Elsewhere (w : World) (A : Option Addr) (W : World) : Prop := w.heap.size ≤ W.heap.size ∧ ∀ b, b < w.heap.size → (∀ g, A = some ⟨g, 0, none⟩ → b ≠ g) → W.heap[b]? = w.heap[b]?
theorem sortWorldK_else {β : Type} [Inhabited β] (enc : β → List Value) (k : Nat) (w : World) (g n : Nat) (d' : Array β) (os : Array Obj) : Elsewhere w (some ⟨g, 0, none⟩) (sortWorldK enc k w g 0 n d' os) := by
  refine ⟨by simp [sortWorldK, putRowK, putRow, mapBlock, Sort.ahead], fun b hb hne => ?_⟩
  have hne := hne g rfl
  unfold sortWorldK putRowK
  rw [heap_grow_old _ _ (by simpa [putRow, mapBlock, Sort.ahead] using hb)]
  have : g ≠ b := Ne.symm hne
  simp [putRow, mapBlock, Sort.ahead, Array.getElem?_modify, this]
theorem Own.otag {β : Type} {enc : β → Value} {e : Nat} {w : World} {base : Nat} {A : Option Addr} {c : Nat} {l : List β} (t : List (β × Nat)) (ht : t.map Prod.fst = l) : Own e (fun x : β × Nat => [enc x.1]) 1 w base A c t ↔ Own e (fun x => [enc x]) 1 w base A c l := by
  subst ht
  unfold Own
  have : t.flatMap (fun x : β × Nat => [enc x.1]) = (t.map Prod.fst).flatMap (fun x => [enc x]) := by
    induction t with
    | nil => rfl
    | cons x t ih => rw [List.flatMap_cons, ih]; rfl
  rw [this, List.length_map]

set_option maxHeartbeats 1000000 in
/-- THE LIBRARY's STABLE SORT ON INTS OF THE CALL's OWN. -/
theorem ostab_own {β : Type} [Inhabited β] {enc : β → Value} {w : World} {base : Nat} {A : Option Addr} {c : Nat} {l : List β} (h1 : OneCell enc) (hE : Enc (fun x : β => [enc x]) 1) (cf : β → β → Int) (hO : SWO (ltOf cf)) (g : Nat) (cb : Array Value)
    (eg : ∀ args w, (callFunc g args).run Tryd.prog w = .ok (.enter g args) w) (hcmp : ∀ (W : World) (_ : Elsewhere w A W) (x y : β), Calls Tryd.prog g (#[enc x, enc y] ++ cb) W fun e w' => e = .returned (.int .i64 (cf x y)) ∧ Gr W w')
    (h : Own 3 (fun x => [enc x]) 1 w base A c l) (hb : base ≤ w.heap.size) (hsz : l.length < 1000000000000000000) :
    Calls Tryd.prog 65 #[.slice A l.length c, .func (.func g) #[] cb] w fun en w' => en = .returned (.tuple #[]) ∧ ∃ l' : List β, StabOf (ltOf cf) l l' ∧ Own 3 (fun x => [enc x]) 1 w' base A c l' ∧ Below base w w' ∧ Elsewhere w A w' := by
  rcases h.form with ⟨rfl, rfl, rfl⟩ | ⟨g0, hA, hg1, hg2⟩
  · refine (osrt_none none 0 _ w).mono ?_
    rintro e w' ⟨rfl, rfl⟩
    exact ⟨rfl, [], StabOf.nil, h, Below.refl _ _, Nat.le_refl _, fun _ _ _ => rfl⟩
  · have hT : Own 3 (fun x : β × Nat => [enc x.1]) 1 w base A c l.zipIdx := (Own.otag l.zipIdx (List.zipIdx_map_fst 0 l)).2 h
    have hlz : l.zipIdx.length = l.length := List.length_zipIdx
    have hET : Enc (fun x : β × Nat => [enc x.1]) 1 := ⟨fun x => hE.1 x.1, fun x => hE.2 x.1⟩
    have R : Row1 (fun x : β × Nat => enc x.1) w g0 0 l.zipIdx.toArray := ⟨fun x => h1 x.1, holds1 (hT.holds hET hA), hg2⟩
    have hC : CmpLays1 Tryd.prog g cb (fun x : β × Nat => enc x.1) (tagC cf) g0 0 l.zipIdx.toArray.size w := fun m os dk _ x y => hcmp _ (by rw [sortWorld1, hA]; exact sortWorldK_else _ _ _ _ _ _ _) x.1 y.1
    have hS2 : SWO (ltOf (tagC cf)) := ⟨fun x => hO.irrefl x.1, fun x y z => hO.trans x.1 y.1 z.1, fun x y z => hO.ntrans x.1 y.1 z.1⟩
    have hsz2 : l.zipIdx.toArray.size < 1000000000000000000 := by simpa [hlz] using hsz
    have hIns : InsOk Tryd.prog (fun x : β × Nat => enc x.1) w g0 0 c g cb cf l.zipIdx.toArray := by
      intro a b d W h1 h2 h3 h4
      have := Any.insertionSortCmpFunc_s (P := Tryd.prog) Tryd.lay_ins_f95 (fun x : β × Nat => enc x.1) (tagC cf) g cb g0 0 c a b l.zipIdx.toArray d w W eg hC R h1.symm h4 h2 h3 (by omega)
      rw [h1] at this
      exact this
    have hst := stable_any stF R hsz2 c g cb cf hC eg hO hIns (enters_of Tryd.func95 (by kernel_rfl) rfl) (by
      intro i hi
      have hi' : i < l.zipIdx.length := by simpa using hi
      rw [getElem!_pos _ i hi]
      simp)
    have HST := Lib.hid hst
    have hss : l.zipIdx.toArray.size = l.length := by simp
    rw [hss] at HST
    have HB := Lib.hid (fun n os (d' : Array (β × Nat)) (hd : d'.size = l.zipIdx.length) => hT.sorted hET (g := g0) (n := n) (os := os) (d' := d') hA hd)
    clear hC hS2 hIns hst R hT
    subst hA
    clear h
    go_enter Tryd.func65, Tryd.ntmps65
    go_wp2_with fail
    refine (HST.out).mono ?_
    rintro e w' ⟨rfl, d', hp, hs, n, os, rfl⟩
    have hd : d'.size = l.zipIdx.length := by rw [hp.1]; simp
    rw [sortWorld1]
    have HX : Hid (∃ l' : List β, StabOf (ltOf cf) l l' ∧ Own 3 (fun x => [enc x]) 1 (sortWorldK (fun x : β × Nat => [enc x.1]) 1 w g0 0 n d' os) base (some ⟨g0, 0, none⟩) c l' ∧ Below base w (sortWorldK (fun x : β × Nat => [enc x.1]) 1 w g0 0 n d' os) ∧ Elsewhere w (some ⟨g0, 0, none⟩) (sortWorldK (fun x : β × Nat => [enc x.1]) 1 w g0 0 n d' os)) := by
      obtain ⟨h1, h2⟩ := HB.out n os d' hd
      refine ⟨d'.toList.map Prod.fst, ⟨d'.toList, ?_, ?_, rfl⟩, (Own.otag d'.toList rfl).1 h1, h2, sortWorldK_else _ _ _ _ _ _ _⟩
      · have := hp.2.2
        have e1 : d'.extract 0 l.length = d' := by rw [show l.length = d'.size by rw [hd, hlz]]; exact Array.extract_size
        have e2 : l.zipIdx.toArray.extract 0 l.length = l.zipIdx.toArray := by rw [← hss]; exact Array.extract_size
        rw [e1, e2] at this
        simpa using this
      · rw [List.pairwise_iff_getElem]
        intro i j hi hj hij
        have hi' : i < d'.size := by simpa using hi
        have hj' : j < d'.size := by simpa using hj
        have := hs i j (Nat.zero_le _) hij (by omega)
        rw [getElem!_pos d' j hj', getElem!_pos d' i hi'] at this
        simpa using this
    clear hp hs
    go_wp2
    go_end0
    exact ⟨rfl, HX.out⟩

/-- THE LIBRARY's SORT ON INTS OF THE CALL's OWN. -/
theorem osort_none (A : Option Addr) (cap : Nat) (fv : Value) (w : World) : Calls Tryd.prog 50 #[.slice A 0 cap, fv] w fun e w' => e = .returned (.tuple #[]) ∧ w' = w :=
  AnyF.slices_SortFunc_none (P := Tryd.prog) { Tryd.lay_sort_f50 with } A cap fv w
theorem osort_own {β : Type} [Inhabited β] {enc : β → Value} {w : World} {base : Nat} {A : Option Addr} {c : Nat} {l : List β} (h1 : OneCell enc) (hE : Enc (fun x : β => [enc x]) 1) (cf : β → β → Int) (hO : SWO (ltOf cf)) (g : Nat) (cb : Array Value)
    (eg : ∀ args w, (callFunc g args).run Tryd.prog w = .ok (.enter g args) w) (hcmp : ∀ (W : World) (_ : Elsewhere w A W) (x y : β), Calls Tryd.prog g (#[enc x, enc y] ++ cb) W fun e w' => e = .returned (.int .i64 (cf x y)) ∧ Gr W w')
    (h : Own 3 (fun x => [enc x]) 1 w base A c l) (hb : base ≤ w.heap.size) (hsz : l.length < 4611686018427387904) :
    Calls Tryd.prog 50 #[.slice A l.length c, .func (.func g) #[] cb] w fun en w' => en = .returned (.tuple #[]) ∧ ∃ l' : List β, l'.Perm l ∧ l'.Pairwise (fun x y => ltOf cf y x = false) ∧ Own 3 (fun x => [enc x]) 1 w' base A c l' ∧ Below base w w' ∧ Elsewhere w A w' := by
  rcases h.form with ⟨rfl, rfl, rfl⟩ | ⟨g0, hA, hg1, hg2⟩
  · refine (osort_none none 0 _ w).mono ?_
    rintro en w' ⟨rfl, rfl⟩
    exact ⟨rfl, [], List.Perm.refl _, List.Pairwise.nil, h, Below.refl _ _, Nat.le_refl _, fun _ _ _ => rfl⟩
  · have hcon := Any.slices_SortFunc (P := Tryd.prog) Tryd.lay_sort_f50 enc h1 cf hO g cb g0 0 c l.toArray w eg (fun m os dk _ x y => hcmp _ (by rw [sortWorld1, hA]; exact sortWorldK_else _ _ _ _ _ _ _) x y) (holds1 (h.holds hE hA)) hg2 (by simpa using hsz)
    subst hA
    rw [List.size_toArray] at hcon
    refine hcon.mono ?_
    rintro en w' ⟨rfl, d', n, os, hp, hs, rfl⟩
    have hd : d'.size = l.length := by simpa using hp.1
    obtain ⟨h1, h2⟩ := h.sorted hE (g := g0) (n := n) (os := os) rfl hd
    rw [sortWorld1]
    refine ⟨rfl, d'.toList, ?_, ?_, h1, h2, sortWorldK_else _ _ _ _ _ _ _⟩
    · have := hp.2.2
      have e1 : d'.extract 0 l.length = d' := by rw [← hd, Array.extract_size]
      have e2 : l.toArray.extract 0 l.length = l.toArray := by rw [← List.size_toArray, Array.extract_size]
      rw [e1, e2] at this
      exact this
    · rw [List.pairwise_iff_getElem]
      intro i j hi hj hij
      rw [Array.length_toList] at hi hj
      have := hs i j (Nat.zero_le _) hij (by omega)
      rw [getElem!_pos d' j hj, getElem!_pos d' i hi] at this
      simpa using this
end Go.Proofs.YtlnnbkpcnhlfcaaDoor
/- The stable sort of the charges' places, walked. -/
set_option linter.unusedSimpArgs false
namespace Go.Proofs.YtlnnbkpcnhlfcaaDoor
open Go.RowKit Go.Lib Go.Sort Go.Shelf

def castL (l : List Nat) : List Int := l.map fun i : Nat => (i : Int)
def encF {n : Nat} (i : Fin n) : Value := .int .i64 (i.1 : Int)
theorem encF1 {n : Nat} : OneCell (encF (n := n)) := fun _ => rfl
theorem encFE {n : Nat} : Enc (fun x : Fin n => [encF x]) 1 := ⟨fun _ => rfl, fun x u hu => by simp [encF] at hu; subst hu; rfl⟩
theorem own_fin {n e : Nat} {w : World} {base : Nat} {A : Option Addr} {c : Nat} (l : List (Fin n)) : Own e encI 1 w base A c (castL (l.map Fin.val)) ↔ Own e (fun x : Fin n => [encF x]) 1 w base A c l := by
  unfold Own castL
  have : ((l.map Fin.val).map fun i : Nat => (i : Int)).flatMap encI = l.flatMap (fun x => [encF x]) := by
    induction l with
    | nil => rfl
    | cons x t ih => simp only [List.map_cons, List.flatMap_cons]; rw [ih]; rfl
  rw [this, List.length_map, List.length_map]
set_option maxHeartbeats 1000000 in
theorem ordSort {A : Option Addr} (b3 c : Nat) {l : List Cg} {w : World} {base mk : Nat} (hb : w.cell? ⟨b3, 0, none⟩ = some (.slice A l.length c)) (hr : Rd encCg 7 w base A l) (hb3 : b3 < base) (hbase : base ≤ w.heap.size) (hll : l.length ≤ 1000000)
    (hown : Own 3 encI 1 w base (some ⟨mk, 0, none⟩) l.length (castL (List.range l.length))) :
    Calls Tryd.prog 65 #[.slice (some ⟨mk, 0, none⟩) l.length l.length, .func (.func 66) #[] #[.pointer (some ⟨b3, 0, none⟩)]] w fun e w' => e = .returned (.tuple #[]) ∧ Own 3 encI 1 w' base (some ⟨mk, 0, none⟩) l.length (castL (ordN (cvs l))) ∧ Below base w w' := by
  have hcv : (cvs l).length = l.length := by unfold cvs; simp
  by_cases hn : l.length = 0
  · have h0 : ordN (cvs l) = [] := List.eq_nil_of_length_eq_zero (by rw [ordN_len, hcv, hn])
    rw [h0]
    rw [hn] at hown ⊢
    refine (osrt_none _ _ _ w).mono ?_
    rintro e w' ⟨rfl, rfl⟩
    exact ⟨rfl, hown, Below.refl _ _⟩
  · haveI : Inhabited (Fin l.length) := ⟨⟨0, by omega⟩⟩
    have hfr : (List.finRange l.length).map Fin.val = List.range l.length := List.ext_getElem (by simp) (fun i h1 h2 => by simp)
    rw [← hfr] at hown
    have hown2 := (own_fin _).1 hown
    have hmk : base ≤ mk := by
      rcases hown2.form with ⟨h1, _⟩ | ⟨g, h1, h2, _⟩
      · cases h1
      · injection h1 with h1; injection h1 with h1; omega
    have eg : ∀ args w, (callFunc 66 args).run Tryd.prog w = .ok (.enter 66 args) w := enters_of Tryd.func66 (by kernel_rfl) rfl
    have hsrt := ostab_own (c := l.length) encF1 encFE (fun i k : Fin l.length => cmpCh (chAt (cvs l) i.1) (chAt (cvs l) k.1)) ⟨fun x => cmpCh_pre.swo.irrefl _, fun x y z => cmpCh_pre.swo.trans _ _ _, fun x y z => cmpCh_pre.swo.ntrans _ _ _⟩ 66 #[.pointer (some ⟨b3, 0, none⟩)] eg (fun W hW x y => by
      have e1 : W.heap[b3]? = w.heap[b3]? := hW.2 b3 (by omega) (fun g q => by injection q with q; injection q with q; omega)
      have hr2 : Rd encCg 7 W W.heap.size A l := fun hne => by
        obtain ⟨b, off, hA, hbl, hc⟩ := hr hne
        refine ⟨b, off, hA, by have := hW.1; omega, fun i x hi j u hu => ?_⟩
        have e2 : W.heap[b]? = w.heap[b]? := hW.2 b (by omega) (fun g q => by injection q with q; injection q with q; omega)
        exact (World.cell?_of_block e2).trans (hc i x hi j u hu)
      exact apCmp_any b3 c ((World.cell?_of_block e1).trans hb) hr2 x.1 y.1 x.2 y.2) hown2 hbase (by simp; omega)
    have hfl : (List.finRange l.length).length = l.length := by simp
    rw [hfl] at hsrt
    refine hsrt.mono ?_
    rintro e w' ⟨rfl, l', hst, ho, hbl, -⟩
    have hm := stab_map (lt' := ltI (cvs l)) Fin.val (fun x y => rfl) hst
    rw [hfr] at hm
    have : l'.map Fin.val = ordN (cvs l) := by
      have h2 := ordN_stab (cvs l)
      rw [hcv] at h2
      exact hm.unique h2
    rw [← this]
    exact ⟨rfl, (own_fin _).2 ho, hbl⟩
theorem castL_app (a b : List Nat) : castL (a ++ b) = castL a ++ castL b := by simp [castL]
theorem castL_len (a : List Nat) : (castL a).length = a.length := by simp [castL]
theorem castL_at {a : List Nat} {k i : Nat} (h : a[k]? = some i) : (castL a)[k]? = some (i : Int) := by unfold castL; rw [List.getElem?_map, h]; rfl
end Go.Proofs.YtlnnbkpcnhlfcaaDoor
/- What bill.Capped keeps: the places of each owner's charges, in plain words and in memory. -/
set_option linter.unusedSimpArgs false
namespace Go.Proofs.YtlnnbkpcnhlfcaaDoor
open Go.RowKit Go.Lib

/-- an owner's entry: its name, where its places lie, the places -/
structure En where
  nm : ByteArray
  A : Option Addr
  c : Nat
  pl : List Nat
def enV (e : En) : Value × Value := (.string e.nm, .slice e.A e.pl.length e.c)
def EnOk (ac : List Av) (cs : List CV) (k : Nat) (L : List En) : Prop :=
  (L.map En.nm).Nodup ∧ (∀ e ∈ L, e.pl = idxL ac e.nm cs k) ∧ (∀ i, i < k → hasO ac (chAt cs i) = true → ∃ e ∈ L, e.nm = ownO ac (chAt cs i)) ∧ ∀ e ∈ L, e.pl ≠ []
theorem EnOk.nil (ac : List Av) (cs : List CV) : EnOk ac cs 0 [] := ⟨by simp, by simp, fun i h => absurd h (Nat.not_lt_zero _), by simp⟩
theorem isO_own {ac : List Av} {x : CV} (h : hasO ac x = true) (nm : ByteArray) : isO ac nm x = eqS (ownO ac x) nm := by unfold isO; rw [h]; rfl
theorem EnOk.skip {ac : List Av} {cs : List CV} {k : Nat} {L : List En} (h : EnOk ac cs k L) (ho : hasO ac (chAt cs k) = false) : EnOk ac cs (k + 1) L := by
  refine ⟨h.1, fun e he => ?_, fun i hi hh => ?_, h.2.2.2⟩
  · rw [idxL_succ, if_neg (by unfold isO; rw [ho]; simp), List.append_nil]; exact h.2.1 e he
  · by_cases q : i = k
    · subst q; rw [ho] at hh; cases hh
    · exact h.2.2.1 i (by omega) hh
theorem EnOk.new {ac : List Av} {cs : List CV} {k : Nat} {L : List En} (h : EnOk ac cs k L) (ho : hasO ac (chAt cs k) = true) (hn : ∀ e ∈ L, e.nm ≠ ownO ac (chAt cs k)) (A : Option Addr) (c : Nat) :
    EnOk ac cs (k + 1) (L ++ [⟨ownO ac (chAt cs k), A, c, [k]⟩]) := by
  refine ⟨?_, fun e he => ?_, fun i hi hh => ?_, fun e he => (List.mem_append.1 he).elim (h.2.2.2 e) fun q => by rw [List.mem_singleton] at q; subst q; simp⟩
  · rw [List.map_append, List.nodup_append]
    refine ⟨h.1, by simp, fun a ha b hb => ?_⟩
    obtain ⟨e, he, rfl⟩ := List.mem_map.1 ha
    simp at hb
    rw [hb]
    exact hn e he
  · rw [idxL_succ, isO_own ho]
    rcases List.mem_append.1 he with he | he
    · have hne : eqS (ownO ac (chAt cs k)) e.nm = false := by
        cases q : eqS (ownO ac (chAt cs k)) e.nm
        · rfl
        · exact absurd ((eqS_iff _ _).1 q).symm (hn e he)
      rw [hne, if_neg (by simp), List.append_nil]
      exact h.2.1 e he
    · rw [List.mem_singleton] at he
      subst he
      rw [if_pos ((eqS_iff _ _).2 rfl)]
      have : idxL ac (ownO ac (chAt cs k)) cs k = [] := by
        rw [List.eq_nil_iff_forall_not_mem]
        intro i hi
        obtain ⟨h1, h2⟩ := idxL_lt hi
        unfold isO at h2
        simp only [Bool.and_eq_true] at h2
        obtain ⟨e, he, hen⟩ := h.2.2.1 i h1 h2.1
        exact hn e he (hen.trans ((eqS_iff _ _).1 h2.2))
      rw [this]; rfl
  · by_cases q : i = k
    · subst q; exact ⟨_, List.mem_append_right _ (List.mem_singleton.2 rfl), rfl⟩
    · obtain ⟨e, he, hen⟩ := h.2.2.1 i (by omega) hh
      exact ⟨e, List.mem_append_left _ he, hen⟩
theorem set_names {L : List En} {j : Nat} {e e' : En} (hj : L[j]? = some e) (hn : e'.nm = e.nm) : (L.set j e').map En.nm = L.map En.nm := by
  rw [List.map_set, hn]
  apply List.ext_getElem?
  intro i
  rw [List.getElem?_set]
  split
  · rename_i q
    subst q
    rw [List.getElem?_map, hj]
    split
    · rfl
    · rename_i q2; exact absurd (by rw [List.length_map]; exact (List.getElem?_eq_some_iff.1 hj).1) q2
  · rfl
theorem EnOk.upd {ac : List Av} {cs : List CV} {k j : Nat} {L : List En} {e : En} (h : EnOk ac cs k L) (ho : hasO ac (chAt cs k) = true) (hj : L[j]? = some e) (hn : e.nm = ownO ac (chAt cs k)) (A : Option Addr) (c : Nat) :
    EnOk ac cs (k + 1) (L.set j ⟨e.nm, A, c, e.pl ++ [k]⟩) := by
  have hnames := set_names (e' := ⟨e.nm, A, c, e.pl ++ [k]⟩) hj rfl
  refine ⟨by rw [hnames]; exact h.1, fun x hx => ?_, fun i hi hh => ?_, fun x hx => (List.mem_or_eq_of_mem_set hx).elim (h.2.2.2 x) fun q => by subst q; simp⟩
  · rw [idxL_succ, isO_own ho]
    obtain ⟨m, hm⟩ := List.mem_iff_getElem?.1 hx
    rw [List.getElem?_set] at hm
    split at hm
    · split at hm
      · obtain rfl := Option.some.inj hm
        rw [if_pos ((eqS_iff _ _).2 hn.symm)]
        show e.pl ++ [k] = idxL ac e.nm cs k ++ [k]
        rw [← h.2.1 e (List.mem_of_getElem? hj)]
      · cases hm
    · rename_i q
      have hne : eqS (ownO ac (chAt cs k)) x.nm = false := by
        cases q2 : eqS (ownO ac (chAt cs k)) x.nm
        · rfl
        · exfalso
          have e1 : x.nm = e.nm := by rw [hn]; exact ((eqS_iff _ _).1 q2).symm
          obtain ⟨h1, h1e⟩ := List.getElem?_eq_some_iff.1 hm
          obtain ⟨h2, h2e⟩ := List.getElem?_eq_some_iff.1 hj
          have := (List.nodup_iff_pairwise_ne.1 h.1)
          rw [List.pairwise_map] at this
          have hp := List.pairwise_iff_getElem.1 this
          rcases Nat.lt_or_gt_of_ne q with q3 | q3
          · have := hp j m h2 h1 q3; rw [h1e, h2e] at this; exact this e1.symm
          · have := hp m j h1 h2 q3; rw [h1e, h2e] at this; exact this e1
      rw [hne, if_neg (by simp), List.append_nil]
      exact h.2.1 x (List.mem_of_getElem? hm)
  · have hmem : ∀ nm, nm ∈ L.map En.nm → ∃ x ∈ L.set j ⟨e.nm, A, c, e.pl ++ [k]⟩, x.nm = nm := by
      intro nm hnm
      rw [← hnames] at hnm
      obtain ⟨x, hx, hxe⟩ := List.mem_map.1 hnm
      exact ⟨x, hx, hxe⟩
    by_cases q : i = k
    · subst q
      exact hmem _ (List.mem_map.2 ⟨e, List.mem_of_getElem? hj, hn⟩)
    · obtain ⟨x, hx, hxe⟩ := h.2.2.1 i (by omega) hh
      exact hmem _ (List.mem_map.2 ⟨x, hx, hxe⟩)
/-- the entries' places in memory -/
def EnMem (w : World) (base : Nat) (L : List En) : Prop := (∀ e ∈ L, Own 3 encI 1 w base e.A e.c (castL e.pl)) ∧ L.Pairwise fun a b => Ap a.A b.A
theorem EnMem.nil (w : World) (base : Nat) : EnMem w base [] := ⟨by simp, by simp⟩
theorem EnMem.st {w w' : World} {base : Nat} {L : List En} (h : EnMem w base L) (hb : Below w.heap.size w w') : EnMem w' base L := ⟨fun e he => (h.1 e he).st hb, h.2⟩
theorem EnMem.mono {w : World} {base base' : Nat} {L : List En} (h : EnMem w base L) (hb : base' ≤ base) : EnMem w base' L := ⟨fun e he => (h.1 e he).mono hb, h.2⟩
theorem EnMem.kept {w w' : World} {base mb : Nat} {L : List En} (h : EnMem w base L) (hg : w.grownBy w' (some mb)) (hm : ∃ o : Obj, w.heap[mb]? = some o ∧ o.isCells = false) : EnMem w' base L :=
  ⟨fun e he => own_kept (h.1 e he) hg (fun r hr => by injection hr with hr; subst hr; exact hm), h.2⟩
theorem EnMem.new {w w' : World} {base : Nat} {L : List En} {e : En} (h : EnMem w base L) (hb : Below w.heap.size w w') (ho : Own 3 encI 1 w' w.heap.size e.A e.c (castL e.pl)) (hbs : base ≤ w.heap.size) : EnMem w' base (L ++ [e]) := by
  refine ⟨fun x hx => ?_, List.pairwise_append.2 ⟨h.2, by simp, fun x hx y hy => ?_⟩⟩
  · rcases List.mem_append.1 hx with q | q
    · exact (h.1 x q).st hb
    · rw [List.mem_singleton] at q; subst q; exact ho.mono hbs
  · rw [List.mem_singleton] at hy
    subst hy
    intro g h1 h2
    rcases ho.form with ⟨q, _⟩ | ⟨g', q, hg, _⟩
    · rw [q] at h2; cases h2
    · rw [q] at h2; injection h2 with h2; injection h2 with h2
      exact (h.1 x hx).ne hg g h1 h2
theorem EnMem.upd {w w' : World} {base j : Nat} {L : List En} {e : En} {A : Option Addr} {c : Nat} {pl : List Nat} (h : EnMem w base L) (hj : L[j]? = some e) (ho : Own 3 encI 1 w' base A c (castL pl))
    (hf : ∀ b, b < w.heap.size → (∀ g, e.A = some ⟨g, 0, none⟩ → b ≠ g) → w'.heap[b]? = w.heap[b]?) (hl : ∀ g, A = some ⟨g, 0, none⟩ → e.A = some ⟨g, 0, none⟩ ∨ w.heap.size ≤ g) : EnMem w' base (L.set j ⟨e.nm, A, c, pl⟩) := by
  have hp := List.pairwise_iff_getElem.1 h.2
  obtain ⟨hjl, hje⟩ := List.getElem?_eq_some_iff.1 hj
  have hap : ∀ (m : Nat) (x : En), L[m]? = some x → j ≠ m → Ap e.A x.A := fun m x hx hne => by
    obtain ⟨h1, h1e⟩ := List.getElem?_eq_some_iff.1 hx
    rcases Nat.lt_or_gt_of_ne hne with q | q
    · have := hp j m hjl h1 q; rw [h1e, hje] at this; exact this
    · have := hp m j h1 hjl q; rw [h1e, hje] at this; exact this.symm
  refine ⟨fun x hx => ?_, ?_⟩
  · obtain ⟨m, hm⟩ := List.mem_iff_getElem?.1 hx
    rw [List.getElem?_set] at hm
    split at hm
    · obtain rfl := Option.some.inj hm; exact ho
    · rename_i q
      exact (hap m x hm q).keep (h.1 x (List.mem_of_getElem? hm)) hf
  · rw [List.pairwise_iff_getElem]
    intro a b ha hb hab
    rw [List.length_set] at ha hb
    rw [List.getElem_set, List.getElem_set]
    have mv : ∀ (m : Nat) (x : En), L[m]? = some x → j ≠ m → Ap A x.A := fun m x hx hne => (hap m x hx hne).moved (h.1 x (List.mem_of_getElem? hx)) hl
    split
    · rename_i q
      subst q
      rw [if_neg (by omega)]
      exact mv b _ (List.getElem?_eq_getElem hb) (by omega)
    · rename_i q
      split
      · rename_i q2
        subst q2
        exact (mv a _ (List.getElem?_eq_getElem ha) (by omega)).symm
      · exact hp a b ha hb hab
theorem enV_one {L : List En} (hn : (L.map En.nm).Nodup) {j : Nat} {e : En} {nm : ByteArray} (hj : L[j]? = some e) (he : e.nm = nm) : ∀ i u, (L.map enV)[i]? = some (Value.string nm, u) → i = j := by
  intro i u h
  rw [List.getElem?_map] at h
  cases hi : L[i]? with
  | none => rw [hi] at h; cases h
  | some x =>
    rw [hi] at h
    have hx : x.nm = nm := by
      injection h with h
      injection h with h _
      injection h
    obtain ⟨h1, h1e⟩ := List.getElem?_eq_some_iff.1 hi
    obtain ⟨h2, h2e⟩ := List.getElem?_eq_some_iff.1 hj
    have hp := List.nodup_iff_pairwise_ne.1 hn
    rw [List.pairwise_map] at hp
    have hp := List.pairwise_iff_getElem.1 hp
    rcases Nat.lt_trichotomy i j with q | q | q
    · have := hp i j h1 h2 q; rw [h1e, h2e] at this; exact absurd (hx.trans he.symm) this
    · exact q
    · have := hp j i h2 h1 q; rw [h1e, h2e] at this; exact absurd (he.trans hx.symm) this
end Go.Proofs.YtlnnbkpcnhlfcaaDoor
