/- slices.SortStableFunc and slices.SortFunc on a slice of ints of the call's own; the comparison reads what lies elsewhere. -/
import Derived.Test.YtelchfijalkibaaGreatDoorJStabBlocks
import Derived.Test.YtelchfijalkibaaGreatDoorJStabMath
import Derived.Test.YtelchfijalkibaaGreatDoorJDetMath
import Derived.Test.YtelchfijalkibaaGreatDoorJRelMath
import Derived.Shelf.SlSortCmp.Whole1
import Derived.Shelf.SlSortCmp.Insertion1
import Derived.Shelf.SlSortCmp.NoneTotal

namespace Go.Proofs.YtelchfijalkibaaGreatDoor
open Go.RowKit Go.Lib Go.Sort Go.Shelf

section
variable {α : Type} [Inhabited α]
theorem flat1 (enc : α → Value) (d : Array α) : flatK (fun x => [enc x]) 1 d = d.map enc := by
  apply Array.ext
  · simp
  · intro i h1 h2
    have hi : i < d.size := by simpa using h1
    simp [flatK, Nat.mod_one, hi]
theorem putCells1 (enc : α → Value) (off : Nat) (d : Array α) : putCells id off (flatK (fun x => [enc x]) 1 d) = putCells enc off d := by
  rw [flat1]
  unfold putCells
  funext cs
  apply Array.ext
  · simp
  · intro i h1 h2
    simp only [Array.size_map, Array.getElem_mapIdx]
    split
    · rename_i h
      have : i - off < d.size := by omega
      simp [this]
    · rfl
theorem sortWorld1 (enc : α → Value) (w : World) (blk off m : Nat) (dk : Array α) (os : Array Obj) : sortWorld enc w blk off m dk os = sortWorldK (fun x => [enc x]) 1 w blk off m dk os := by
  unfold sortWorld sortWorldK putRowK putRow
  rw [putCells1]
theorem holds1 {enc : α → Value} {w : World} {blk off : Nat} {d : Array α} (h : HoldsK (fun x => [enc x]) 1 w blk off d) : Holds enc w blk off d := by
  intro j hj
  have := h j (by simpa using hj)
  rw [flat1] at this
  simpa [hj] using this
end
theorem stF : StF Tryz.prog where
  mixed := by kernel_rfl
  t0 := Tryz.underlying0
  a0 := Tryz.isAgg0
  z0 := Tryz.sizeOf0
  v0 := Tryz.zeroValue0
  t3 := Tryz.underlying3
  a3 := Tryz.isAgg3
  z3 := Tryz.sizeOf3
  v3 := Tryz.zeroValue3
  t4 := Tryz.underlying4
  a4 := Tryz.isAgg4
  z4 := Tryz.sizeOf4
  v4 := Tryz.zeroValue4
  t22 := Tryz.underlying33
  a22 := Tryz.isAgg33
  z22 := Tryz.sizeOf33
  v22 := Tryz.zeroValue33
  t78 := Tryz.underlying111
  a78 := Tryz.isAgg111
  z78 := Tryz.sizeOf111
  v78 := Tryz.zeroValue111
  t96 := Tryz.underlying161
  a96 := Tryz.isAgg161
  z96 := Tryz.sizeOf161
  v96 := Tryz.zeroValue161
  aE := Tryz.isAgg3
  zE := Tryz.sizeOf3
  fsw := Tryz.func103
  fro := Tryz.func100
  fsy := Tryz.func90
  fst := Tryz.func60
  fso := Tryz.func29


theorem oins_none (A : Option Addr) (cap : Nat) (fv : Value) (w : World) : Calls Tryz.prog 89 #[.slice A 0 cap, .int .i64 0, .int .i64 0, fv] w fun e w' => e = .returned (.tuple #[]) ∧ w' = w := by
  go_enter Tryz.func89, Tryz.ntmps89
  go_wp2_with fail
  go_loopg [8] 0 (fun g1 va wr => va = .int .i64 1 ∧ wr = w)
  case atStart => exact ⟨rfl, rfl⟩
  case round =>
    obtain ⟨rfl, rfl⟩ := hrel
    go_wp2
    go_end0
    exact ⟨rfl, rfl⟩
theorem ostb_none (A : Option Addr) (cap : Nat) (fv : Value) (w : World) : Calls Tryz.prog 60 #[.slice A 0 cap, .int .i64 0, fv] w fun e w' => e = .returned (.tuple #[]) ∧ w' = w := by
  go_enter Tryz.func60, Tryz.ntmps60
  go_wp2_with fail
  go_loopg [7, 8] 0 (fun g1 va vb wr => va = .int .i64 0 ∧ vb = .int .i64 20 ∧ wr = w)
  case atStart => exact ⟨rfl, rfl, rfl⟩
  case round =>
    obtain ⟨rfl, rfl, rfl⟩ := hrel
    go_wp2_with fail
    refine (oins_none A cap fv _).mono ?_
    rintro e w' ⟨rfl, rfl⟩
    go_wp2_with fail
    go_loopg [6] 0 (fun g1 va wr => va = .int .i64 20 ∧ wr = w')
    case atStart => exact ⟨rfl, rfl⟩
    case round =>
      obtain ⟨rfl, rfl⟩ := hrel
      go_wp2
      go_end0
      exact ⟨rfl, rfl⟩
theorem osrt_none (A : Option Addr) (cap : Nat) (fv : Value) (w : World) : Calls Tryz.prog 29 #[.slice A 0 cap, fv] w fun e w' => e = .returned (.tuple #[]) ∧ w' = w := by
  have HN := Lib.hid (fun w => ostb_none A cap fv w)
  go_enter Tryz.func29, Tryz.ntmps29
  go_wp2_with fail
  refine (HN.out _).mono ?_
  rintro e w' ⟨rfl, rfl⟩
  go_wp2
  go_end0
  exact ⟨rfl, rfl⟩

/-- elsewhere all lies as it lay -/
def Elsewhere (w : World) (A : Option Addr) (W : World) : Prop := w.heap.size ≤ W.heap.size ∧ ∀ b, b < w.heap.size → (∀ g, A = some ⟨g, 0, none⟩ → b ≠ g) → W.heap[b]? = w.heap[b]?
theorem sortWorldK_else {β : Type} [Inhabited β] (enc : β → List Value) (k : Nat) (w : World) (g n : Nat) (d' : Array β) (os : Array Obj) : Elsewhere w (some ⟨g, 0, none⟩) (sortWorldK enc k w g 0 n d' os) := by
  refine ⟨by simp [sortWorldK, putRowK, putRow, mapBlock, Sort.ahead], fun b hb hne => ?_⟩
  have hne := hne g rfl
  unfold sortWorldK putRowK
  rw [heap_grow_old _ _ (by simpa [putRow, mapBlock, Sort.ahead] using hb)]
  have : g ≠ b := Ne.symm hne
  simp [putRow, mapBlock, Sort.ahead, Array.getElem?_modify, this]
theorem Own.otag {β : Type} {enc : β → Value} {e : Nat} {w : World} {base : Nat} {A : Option Addr} {c : Nat} {l : List β} (t : List (β × Nat)) (ht : t.map Prod.fst = l) : Own e (fun x : β × Nat => [enc x.1]) 1 w base A c t ↔ Own e (fun x => [enc x]) 1 w base A c l := by
  subst ht
  unfold Own
  have : t.flatMap (fun x : β × Nat => [enc x.1]) = (t.map Prod.fst).flatMap (fun x => [enc x]) := by
    induction t with
    | nil => rfl
    | cons x t ih => rw [List.flatMap_cons, ih]; rfl
  rw [this, List.length_map]

set_option maxHeartbeats 1000000 in
/-- THE LIBRARY's STABLE SORT ON INTS OF THE CALL's OWN. -/
theorem ostab_own {β : Type} [Inhabited β] {enc : β → Value} {w : World} {base : Nat} {A : Option Addr} {c : Nat} {l : List β} (h1 : OneCell enc) (hE : Enc (fun x : β => [enc x]) 1) (cf : β → β → Int) (hO : SWO (ltOf cf)) (g : Nat) (cb : Array Value)
    (eg : ∀ args w, (callFunc g args).run Tryz.prog w = .ok (.enter g args) w) (hcmp : ∀ (W : World) (_ : Elsewhere w A W) (x y : β), Calls Tryz.prog g (#[enc x, enc y] ++ cb) W fun e w' => e = .returned (.int .i64 (cf x y)) ∧ Gr W w')
    (h : Own 3 (fun x => [enc x]) 1 w base A c l) (hb : base ≤ w.heap.size) (hsz : l.length < 1000000000000000000) :
    Calls Tryz.prog 29 #[.slice A l.length c, .func (.func g) #[] cb] w fun en w' => en = .returned (.tuple #[]) ∧ ∃ l' : List β, StabOf (ltOf cf) l l' ∧ Own 3 (fun x => [enc x]) 1 w' base A c l' ∧ Below base w w' ∧ Elsewhere w A w' := by
  rcases h.form with ⟨rfl, rfl, rfl⟩ | ⟨g0, hA, hg1, hg2⟩
  · refine (osrt_none none 0 _ w).mono ?_
    rintro e w' ⟨rfl, rfl⟩
    exact ⟨rfl, [], StabOf.nil, h, Below.refl _ _, Nat.le_refl _, fun _ _ _ => rfl⟩
  · have hT : Own 3 (fun x : β × Nat => [enc x.1]) 1 w base A c l.zipIdx := (Own.otag l.zipIdx (List.zipIdx_map_fst 0 l)).2 h
    have hlz : l.zipIdx.length = l.length := List.length_zipIdx
    have hET : Enc (fun x : β × Nat => [enc x.1]) 1 := ⟨fun x => hE.1 x.1, fun x => hE.2 x.1⟩
    have R : Row1 (fun x : β × Nat => enc x.1) w g0 0 l.zipIdx.toArray := ⟨fun x => h1 x.1, holds1 (hT.holds hET hA), hg2⟩
    have hC : CmpLays1 Tryz.prog g cb (fun x : β × Nat => enc x.1) (tagC cf) g0 0 l.zipIdx.toArray.size w := fun m os dk _ x y => hcmp _ (by rw [sortWorld1, hA]; exact sortWorldK_else _ _ _ _ _ _ _) x.1 y.1
    have hS2 : SWO (ltOf (tagC cf)) := ⟨fun x => hO.irrefl x.1, fun x y z => hO.trans x.1 y.1 z.1, fun x y z => hO.ntrans x.1 y.1 z.1⟩
    have hsz2 : l.zipIdx.toArray.size < 1000000000000000000 := by simpa [hlz] using hsz
    have hIns : InsOk Tryz.prog (fun x : β × Nat => enc x.1) w g0 0 c g cb cf l.zipIdx.toArray := by
      intro a b d W h1 h2 h3 h4
      have := Any.insertionSortCmpFunc_s (P := Tryz.prog) Tryz.lay_ins_f89 (fun x : β × Nat => enc x.1) (tagC cf) g cb g0 0 c a b l.zipIdx.toArray d w W eg hC R h1.symm h4 h2 h3 (by omega)
      rw [h1] at this
      exact this
    have hst := stable_any stF R hsz2 c g cb cf hC eg hO hIns (enters_of Tryz.func89 (by kernel_rfl) rfl) (by
      intro i hi
      have hi' : i < l.zipIdx.length := by simpa using hi
      rw [getElem!_pos _ i hi]
      simp)
    have HST := Lib.hid hst
    have hss : l.zipIdx.toArray.size = l.length := by simp
    rw [hss] at HST
    have HB := Lib.hid (fun n os (d' : Array (β × Nat)) (hd : d'.size = l.zipIdx.length) => hT.sorted hET (g := g0) (n := n) (os := os) (d' := d') hA hd)
    clear hC hS2 hIns hst R hT
    subst hA
    clear h
    go_enter Tryz.func29, Tryz.ntmps29
    go_wp2_with fail
    refine (HST.out).mono ?_
    rintro e w' ⟨rfl, d', hp, hs, n, os, rfl⟩
    have hd : d'.size = l.zipIdx.length := by rw [hp.1]; simp
    rw [sortWorld1]
    have HX : Hid (∃ l' : List β, StabOf (ltOf cf) l l' ∧ Own 3 (fun x => [enc x]) 1 (sortWorldK (fun x : β × Nat => [enc x.1]) 1 w g0 0 n d' os) base (some ⟨g0, 0, none⟩) c l' ∧ Below base w (sortWorldK (fun x : β × Nat => [enc x.1]) 1 w g0 0 n d' os) ∧ Elsewhere w (some ⟨g0, 0, none⟩) (sortWorldK (fun x : β × Nat => [enc x.1]) 1 w g0 0 n d' os)) := by
      obtain ⟨h1, h2⟩ := HB.out n os d' hd
      refine ⟨d'.toList.map Prod.fst, ⟨d'.toList, ?_, ?_, rfl⟩, (Own.otag d'.toList rfl).1 h1, h2, sortWorldK_else _ _ _ _ _ _ _⟩
      · have := hp.2.2
        have e1 : d'.extract 0 l.length = d' := by rw [show l.length = d'.size by rw [hd, hlz]]; exact Array.extract_size
        have e2 : l.zipIdx.toArray.extract 0 l.length = l.zipIdx.toArray := by rw [← hss]; exact Array.extract_size
        rw [e1, e2] at this
        simpa using this
      · rw [List.pairwise_iff_getElem]
        intro i j hi hj hij
        have hi' : i < d'.size := by simpa using hi
        have hj' : j < d'.size := by simpa using hj
        have := hs i j (Nat.zero_le _) hij (by omega)
        rw [getElem!_pos d' j hj', getElem!_pos d' i hi'] at this
        simpa using this
    clear hp hs
    go_wp2
    go_end0
    exact ⟨rfl, HX.out⟩

end Go.Proofs.YtelchfijalkibaaGreatDoor
