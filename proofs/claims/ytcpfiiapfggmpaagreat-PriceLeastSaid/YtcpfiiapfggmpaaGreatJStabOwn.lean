/- Joined texts: StabOwn, PrcSort, PrcAwake. -/
import Derived.Test.YtcpfiiapfggmpaaGreatJStabBlocks
import Derived.Test.YtcpfiiapfggmpaaGreatJDisPAll
import Derived.Test.YtcpfiiapfggmpaaGreatJDetMath
import Derived.Test.YtcpfiiapfggmpaaGreatJRelMath
import Derived.Test.YtcpfiiapfggmpaaGreatJPrcTot
import Derived.Test.YtcpfiiapfggmpaaGreatJPrcBase
import Derived.Deep.DeepCutAuto
/- slices.SortStableFunc on a slice of the call's own. -/

namespace Go.Proofs.YtcpfiiapfggmpaaGreat
open Go.RowKit Go.Lib Go.Sort Go.Shelf

def encT {β : Type} (enc : β → List Value) (x : β × Nat) : List Value := enc x.1
theorem encT_ok {β : Type} {enc : β → List Value} {k : Nat} (h : Enc enc k) : Enc (encT enc) k := ⟨fun x => h.1 x.1, fun x => h.2 x.1⟩
theorem flat_tag {β : Type} (enc : β → List Value) (t : List (β × Nat)) : t.flatMap (encT enc) = (t.map Prod.fst).flatMap enc := by
  induction t with
  | nil => rfl
  | cons x t ih => rw [List.flatMap_cons, ih]; rfl
theorem Own.tag {β : Type} {enc : β → List Value} {e k : Nat} {w : World} {base : Nat} {A : Option Addr} {c : Nat} {l : List β} (t : List (β × Nat)) (ht : t.map Prod.fst = l) : Own e (encT enc) k w base A c t ↔ Own e enc k w base A c l := by
  subst ht
  unfold Own
  rw [flat_tag, List.length_map]

theorem sortWorldK_other {β : Type} [Inhabited β] (enc : β → List Value) (k : Nat) (w : World) (g n : Nat) (d' : Array β) (os : Array Obj) (b : Nat) (hb : b < w.heap.size) (hne : b ≠ g) : (sortWorldK enc k w g 0 n d' os).heap[b]? = w.heap[b]? := by
  unfold sortWorldK putRowK
  rw [heap_grow_old _ _ (by simpa [putRow, mapBlock, Sort.ahead] using hb)]
  have : g ≠ b := Ne.symm hne
  simp [putRow, mapBlock, Sort.ahead, Array.getElem?_modify, this]

theorem stF : StF Tryz.prog 7 where
  mixed := by kernel_rfl
  t0 := Tryz.underlying0
  a0 := Tryz.isAgg0
  z0 := Tryz.sizeOf0
  v0 := Tryz.zeroValue0
  t3 := Tryz.underlying3
  a3 := Tryz.isAgg3
  z3 := Tryz.sizeOf3
  v3 := Tryz.zeroValue3
  t4 := Tryz.underlying4
  a4 := Tryz.isAgg4
  z4 := Tryz.sizeOf4
  v4 := Tryz.zeroValue4
  t22 := Tryz.underlying110
  a22 := Tryz.isAgg110
  z22 := Tryz.sizeOf110
  v22 := Tryz.zeroValue110
  t78 := Tryz.underlying161
  a78 := Tryz.isAgg161
  z78 := Tryz.sizeOf161
  v78 := Tryz.zeroValue161
  t96 := Tryz.underlying89
  a96 := Tryz.isAgg89
  z96 := Tryz.sizeOf89
  v96 := Tryz.zeroValue89
  aE := Tryz.isAgg66
  zE := Tryz.sizeOf66
  fsw := Tryz.func172
  fro := Tryz.func165
  fsy := Tryz.func148
  fst := Tryz.func109
  fso := Tryz.func70

theorem ins_none (cap : Nat) (fv : Value) (w : World) : Calls Tryz.prog 147 #[.slice none 0 cap, .int .i64 0, .int .i64 0, fv] w fun e w' => e = .returned (.tuple #[]) ∧ w' = w := by
  go_enter Tryz.func147, Tryz.ntmps147
  go_wp2_with fail
  go_loopg [8] 0 (fun g1 va wr => va = .int .i64 1 ∧ wr = w)
  case atStart => exact ⟨rfl, rfl⟩
  case round =>
    obtain ⟨rfl, rfl⟩ := hrel
    go_wp2
    go_end0
    exact ⟨rfl, rfl⟩
theorem stb_none (cap : Nat) (fv : Value) (w : World) : Calls Tryz.prog 109 #[.slice none 0 cap, .int .i64 0, fv] w fun e w' => e = .returned (.tuple #[]) ∧ w' = w := by
  go_enter Tryz.func109, Tryz.ntmps109
  go_wp2_with fail
  go_loopg [7, 8] 0 (fun g1 va vb wr => va = .int .i64 0 ∧ vb = .int .i64 20 ∧ wr = w)
  case atStart => exact ⟨rfl, rfl, rfl⟩
  case round =>
    obtain ⟨rfl, rfl, rfl⟩ := hrel
    go_wp2_with fail
    refine (ins_none cap fv _).mono ?_
    rintro e w' ⟨rfl, rfl⟩
    go_wp2_with fail
    go_loopg [6] 0 (fun g1 va wr => va = .int .i64 20 ∧ wr = w')
    case atStart => exact ⟨rfl, rfl⟩
    case round =>
      obtain ⟨rfl, rfl⟩ := hrel
      go_wp2
      go_end0
      exact ⟨rfl, rfl⟩

/-- THE LIBRARY's STABLE SORT ON A SLICE OF THE CALL's OWN. -/
theorem stab_own {β : Type} [Inhabited β] {enc : β → List Value} {w : World} {base : Nat} {A : Option Addr} {c : Nat} {l : List β} (hE : Enc enc 7) (cf : β → β → Int) (hO : SWO (ltOf cf)) (g : Nat) (cb : Array Value)
    (eg : ∀ args w, (callFunc g args).run Tryz.prog w = .ok (.enter g args) w) (hcmp : ∀ (W : World) (x y : β), Calls Tryz.prog g (#[.agg (enc x).toArray, .agg (enc y).toArray] ++ cb) W fun e w' => e = .returned (.int .i64 (cf x y)) ∧ Gr W w')
    (h : Own 66 enc 7 w base A c l) (hb : base ≤ w.heap.size) (hsz : l.length < 1000000000000000000) :
    Calls Tryz.prog 70 #[.slice A l.length c, .func (.func g) #[] cb] w fun en w' => en = .returned (.tuple #[]) ∧ ∃ l' : List β, StabOf (ltOf cf) l l' ∧ Own 66 enc 7 w' base A c l' ∧ Below base w w' ∧ w.heap.size ≤ w'.heap.size ∧ ∀ b, b < w.heap.size → (∀ g, A = some ⟨g, 0, none⟩ → b ≠ g) → w'.heap[b]? = w.heap[b]? := by
  rcases h.form with ⟨rfl, rfl, rfl⟩ | ⟨g0, hA, hg1, hg2⟩
  · have HN := Lib.hid (fun w => stb_none 0 (.func (.func g) #[] cb) w)
    have HW := Lib.hid h
    go_enter Tryz.func70, Tryz.ntmps70
    go_wp2_with fail
    refine (HN.out _).mono ?_
    rintro e w' ⟨rfl, rfl⟩
    go_wp2
    go_end0
    exact ⟨rfl, [], StabOf.nil, HW.out, Below.refl _ _, Nat.le_refl _, fun _ _ _ => rfl⟩
  · have hT : Own 66 (encT enc) 7 w base A c l.zipIdx := (Own.tag l.zipIdx (List.zipIdx_map_fst 0 l)).2 h
    have hlz : l.zipIdx.length = l.length := List.length_zipIdx
    have R : RowK (encT enc) 7 w g0 0 l.zipIdx.toArray := ⟨(encT_ok hE).1, (encT_ok hE).2, hT.holds (encT_ok hE) hA, hg2⟩
    have hC : CmpLays Tryz.prog g cb (encT enc) 7 (tagC cf) g0 0 l.zipIdx.toArray.size w := fun _ _ _ _ x y => hcmp _ x.1 y.1
    have hS2 : SWO (ltOf (tagC cf)) := ⟨fun x => hO.irrefl x.1, fun x y z => hO.trans x.1 y.1 z.1, fun x y z => hO.ntrans x.1 y.1 z.1⟩
    have hsz2 : l.zipIdx.toArray.size < 1000000000000000000 := by simpa [hlz] using hsz
    have hIns : InsOk Tryz.prog (encT enc) 7 w g0 0 c g cb cf l.zipIdx.toArray := by
      intro a b d W h1 h2 h3 h4
      have := AnyQ.insertionSortCmpFunc_w (P := Tryz.prog) Tryz.lay_ins_f147 7 Tryz.isAgg66 Tryz.sizeOf66 (encT enc) (tagC cf) g cb g0 0 c a b l.zipIdx.toArray d w W eg hC R h1.symm h4 hS2 h2 h3 (by omega)
      rw [h1] at this
      exact this
    have hst := stable_any stF R hsz2 c g cb cf hC eg hO hIns (enters_of Tryz.func147 (by kernel_rfl) rfl) (by
      intro i hi
      have hi' : i < l.zipIdx.length := by simpa using hi
      rw [getElem!_pos _ i hi]
      simp)
    have HST := Lib.hid hst
    have hss : l.zipIdx.toArray.size = l.length := by simp
    rw [hss] at HST
    have HB := Lib.hid (fun n os (d' : Array (β × Nat)) (hd : d'.size = l.zipIdx.length) => hT.sorted (encT_ok hE) (g := g0) (n := n) (os := os) (d' := d') hA hd)
    clear hC hS2 hIns hst R hT
    have HA := Lib.hid hA
    subst hA
    clear h
    go_enter Tryz.func70, Tryz.ntmps70
    go_wp2_with fail
    refine (HST.out).mono ?_
    rintro e w' ⟨rfl, d', hp, hs, n, os, rfl⟩
    have hd : d'.size = l.zipIdx.length := by rw [hp.1]; simp
    have HX : Hid (∃ l' : List β, StabOf (ltOf cf) l l' ∧ Own 66 enc 7 (sortWorldK (encT enc) 7 w g0 0 n d' os) base (some ⟨g0, 0, none⟩) c l' ∧ Below base w (sortWorldK (encT enc) 7 w g0 0 n d' os) ∧ w.heap.size ≤ (sortWorldK (encT enc) 7 w g0 0 n d' os).heap.size ∧ ∀ b, b < w.heap.size → (∀ g, some (⟨g0, 0, none⟩ : Addr) = some ⟨g, 0, none⟩ → b ≠ g) → (sortWorldK (encT enc) 7 w g0 0 n d' os).heap[b]? = w.heap[b]?) := by
      obtain ⟨h1, h2⟩ := HB.out n os d' hd
      refine ⟨d'.toList.map Prod.fst, ⟨d'.toList, ?_, ?_, rfl⟩, (Own.tag d'.toList rfl).1 h1, h2, size_sortWorldK_c _ _ _ _ _ _ _ _, fun b hb hne => sortWorldK_other _ _ _ _ _ _ _ _ hb (hne g0 rfl)⟩
      · have := hp.2.2
        have e1 : d'.extract 0 l.length = d' := by rw [show l.length = d'.size by rw [hd, hlz]]; exact Array.extract_size
        have e2 : l.zipIdx.toArray.extract 0 l.length = l.zipIdx.toArray := by rw [← hss]; exact Array.extract_size
        rw [e1, e2] at this
        simpa using this
      · rw [List.pairwise_iff_getElem]
        intro i j hi hj hij
        have hi' : i < d'.size := by simpa using hi
        have hj' : j < d'.size := by simpa using hj
        have := hs i j (Nat.zero_le _) hij (by omega)
        rw [getElem!_pos d' j hj', getElem!_pos d' i hi'] at this
        simpa using this
    clear hp hs
    go_wp2
    go_end0
    exact ⟨rfl, HX.out⟩
end Go.Proofs.YtcpfiiapfggmpaaGreat
/- price.Sort, walked. -/
set_option linter.unusedSimpArgs false
namespace Go.Proofs.YtcpfiiapfggmpaaGreat
open Go.RowKit Go.Lib Go.Sort Go.Shelf

set_option maxRecDepth 100000 in
set_option maxHeartbeats 8000000 in
theorem psort_any {A : Option Addr} (c : Nat) {l : List Cg} {w : World} (h : Rd encCg 7 w w.heap.size A l) (hr : CgRs w l) (hl : l.length ≤ 1000) :
    Calls Tryz.prog 32 #[.slice A l.length c] w fun e w' => ∃ A' c' r, e = .returned (.slice A' l.length c') ∧ Hid (r.length = l.length) ∧ Own 66 encCg 7 w' w.heap.size A' c' r ∧ SortC (cvs l) (cvs r) ∧ LList w' w.heap.size r ∧ Below w.heap.size w w' := by
  have HR := Lib.hid h
  have HL := Lib.hid hr
  clear h hr
  have eg : ∀ args w, (callFunc 71 args).run Tryz.prog w = .ok (.enter 71 args) w := enters_of Tryz.func71 (by kernel_rfl) rfl
  have CSort := Lib.hid (fun (X : World) (base : Nat) (A' : Option Addr) (c' : Nat) (o : List Cg) (ho : Own 66 encCg 7 X base A' c' o) (hX : base ≤ X.heap.size) (hlo : o.length ≤ 100000000) => stab_own (w := X) encCg_ok cmpCg cmpCg_pre.swo 71 #[] eg (fun W x y => cgCmp_any W x y) ho hX (by omega))
  clear eg
  go_enter Tryz.func32, Tryz.ntmps32
  go_wp2_with fail
  go_loopw [3, 8] (fun v i wr => ∃ (k : Nat) (A' : Option Addr) (c' : Nat) (o : List Cg), k ≤ l.length ∧ i = .int .i64 k ∧ v = .slice A' o.length c' ∧ Hid (o.length = k) ∧ Hid (cvs o = (cvs l).take k) ∧ Own 66 encCg 7 wr w.heap.size A' c' o ∧ Hid (LList wr w.heap.size o) ∧ Below w.heap.size w wr) (fun _ i _ => l.length - (RowKit.intOf i).toNat)
  case atStart => exact ⟨0, none, 0, [], Nat.zero_le _, rfl, rfl, rfl, rfl, Own.nil _ _, LList.nil _ _, Below.refl _ _⟩
  case round =>
    obtain ⟨k, A', c', o, hk, rfl, rfl, HOL, HV, hown, HLL, hwr⟩ := hrel
    by_cases hi : k < l.length
    · obtain ⟨b, off, x, rfl, hb, hx, d0, d1, d2, d3, d4, d5, d6⟩ := (HR.out.st hwr).cg hi
      have hlx := (HL.out x (List.mem_of_getElem? hx)).st hwr
      have HK := Lib.hid hi
      have HX := Lib.hid (cvs_at hx)
      have hol : o.length ≤ 1000 := by have := HOL.out; omega
      have hsz : w.heap.size ≤ wr.heap.size := hwr.size
      obtain ⟨⟨key, veh, sys, cls, tm, lns, cn⟩, lA, lc⟩ := x
      simp only at *
      obtain ⟨Y5, hY5⟩ : ∃ Y, wr.alloc (.cells #[.string key, .string veh, .string sys, .int .i64 cls, .int .i64 tm, .slice lA lns.length lc, .int .i64 cn] 66) = Y := ⟨_, rfl⟩
      have BX : Blk Y5 wr.heap.size #[.string key, .string veh, .string sys, .int .i64 cls, .int .i64 tm, .slice lA lns.length lc, .int .i64 cn] 66 := by rw [← hY5]; exact Blk.new wr _ _
      have b5 : Below wr.heap.size wr Y5 := by rw [← hY5]; exact (Below.refl _ wr).al _
      have s5 : Y5.heap.size = wr.heap.size + 1 := by rw [← hY5]; simp
      have x5 := BX.cell 5 (v := .slice lA lns.length lc) rfl
      have CL := Lib.hid (cloneL_any lc (hlx.1.st b5) (Nat.le_trans hlx.2 (by omega)))
      have S5 := Lib.hid s5
      clear hx hi hb hlx s5
      go_wp2_with fail
      refine CL.out.mono ?_
      rintro e W6 ⟨A9, c9, rfl, hown9, hbn⟩
      have b6 := b5.st hbn
      have BX := BX.below hbn BX.lt
      have x5 := BX.cell 5 (v := .slice lA lns.length lc) rfl
      have f5 := BX.frozen 5
      have BV : Blk (W6.setCell ⟨wr.heap.size, 5, none⟩ (.slice A9 lns.length c9)) wr.heap.size #[.string key, .string veh, .string sys, .int .i64 cls, .int .i64 tm, .slice A9 lns.length c9, .int .i64 cn] 66 := BX.set 5 (.slice A9 lns.length c9)
      have bV := b6.setCell (p := ⟨wr.heap.size, 5, none⟩) (Nat.le_refl _) (.slice A9 lns.length c9)
      have hV9 := hown9.other (p := ⟨wr.heap.size, 5, none⟩) (by have := S5.out; show wr.heap.size < Y5.heap.size; omega) (.slice A9 lns.length c9)
      obtain ⟨V1, hV1⟩ : ∃ V, W6.setCell ⟨wr.heap.size, 5, none⟩ (.slice A9 lns.length c9) = V := ⟨_, rfl⟩
      rw [hV1] at BV bV hV9
      have hownV := hown.st bV
      have hwV := hwr.st bV
      have HLV := Lib.hid (HLL.out.snoc (x := ⟨(⟨key, veh, sys, cls, tm, lns, cn⟩ : CV), A9, c9⟩) bV (hV9.mono (by have := S5.out; omega)) hsz)
      have HVn : Hid (cvs (o ++ [⟨(⟨key, veh, sys, cls, tm, lns, cn⟩ : CV), A9, c9⟩]) = (cvs l).take (k + 1)) := Lib.hid (by rw [cvs_app, HV.out, take_snoc HX.out]; rfl)
      have HVW := Lib.hid hV9
      clear hown9 hbn b6 BX hV9 hown HLL HV HX CL hY5 b5 bV
      go_wp2_with (first | (refine wpList_boxLoad rfl (ty := 66) (x := .tmp 5) (cs := #[.string key, .string veh, .string sys, .int .i64 cls, .int .i64 tm, .slice A9 lns.length c9, .int .i64 cn]) rfl BV rfl ⟨_, Tryz.underlying66, by kernel_rfl⟩ ?_) | (at_builtin; refine wpList_app1b rfl (.tmp 16) (.tmp 18) tyCg encCg_ok rfl (⟨(⟨key, veh, sys, cls, tm, lns, cn⟩ : CV), A9, c9⟩ : Cg) rfl _ rfl (by simp) hownV rfl (by first | rfl | simp) (by first | omega | (simp; omega)) (by first | omega | (simp; omega)) (by first | exact hwV.size | (have := hwV.size; omega)) ?_; intro A8 c8 w8 hown8 hb8 hs8 hf8; have hbel8 := hwV.trans hb8))
      have HLL8 := Lib.hid (HLV.out.keepA hownV (by decide) hf8)
      clear hownV hb8 hf8 HLV HVW
      go_wp2_with fail
      go_roundw
      case rel => exact ⟨k + 1, A8, c8, _, HK.out, by go_num, by simp, Lib.hid (by have := HOL.out; simp; omega), HVn, hown8, HLL8, hbel8⟩
      case measure => have := HK.out; simp [RowKit.intOf]; omega
    · obtain rfl : k = l.length := by omega
      have CS2 := Lib.hid (CSort.out wr w.heap.size A' c' o hown hwr.size (by have := HOL.out; omega))
      have hol : o.length = l.length := HOL.out
      have HCV : Hid (cvs o = cvs l) := Lib.hid (by have := HV.out; rwa [← cvs_len, List.take_length] at this)
      have HX : Hid (∀ (w2 : World) (r : List Cg), StabOf (ltOf cmpCg) o r → (∀ b, b < wr.heap.size → (∀ g, A' = some ⟨g, 0, none⟩ → b ≠ g) → w2.heap[b]? = wr.heap[b]?) → LList w2 w.heap.size r ∧ SortC (cvs l) (cvs r) ∧ r.length = o.length) := by
        intro w2 r hst hk
        refine ⟨(HLL.out.keepA hown (by decide) hk).perm fun x hx => hst.perm.subset hx, ?_, hst.perm.length_eq⟩
        rw [← HCV.out]
        exact hst.sortC
      rw [hol] at CS2 ⊢
      have HOL2 := Lib.hid hol
      clear HV HLL hown HCV hol
      go_wp2_with fail
      refine CS2.out.mono ?_
      rintro e w2 ⟨rfl, r, hst, hown2, hbel, hsz, hk2⟩
      obtain ⟨x1, x2, x3⟩ := HX.out w2 r hst hk2
      have X1 := Lib.hid x1
      have X2 := Lib.hid x2
      have X3 := Lib.hid (x3.trans HOL2.out)
      have hb9 := hwr.trans hbel
      clear x1 x2 x3 hst hk2 HX
      go_wp2_with fail
      go_ret
      exact ⟨A', c', r, rfl, X3, hown2, X2.out, X1.out, hb9⟩
end Go.Proofs.YtcpfiiapfggmpaaGreat
/- The law's awake, walked. -/
set_option linter.unusedSimpArgs false
set_option linter.unusedSimpArgs false
namespace Go.Proofs.YtcpfiiapfggmpaaGreat
open Go.RowKit Go.Lib

theorem cell_belowP {w w' : World} {b i : Nat} {v : Value} (h : w.cell? ⟨b, i, none⟩ = some v) (hb : Below w.heap.size w w') (hl : b < w.heap.size) : w'.cell? ⟨b, i, none⟩ = some v := (World.cell?_of_block (hb.block b hl)).trans h
def cv3 (k : ByteArray) (t : Int) : Cg := ⟨⟨k, ⟨#[]⟩, ⟨#[]⟩, 0, t, [], 0⟩, none, 0⟩
def ex3 : List Cg := [cv3 ⟨#[98]⟩ 2, cv3 ⟨#[97]⟩ 2, cv3 ⟨#[99]⟩ 1]
def ct2 (n : Int) : Cg := ⟨⟨⟨#[]⟩, ⟨#[]⟩, ⟨#[]⟩, 0, 0, [], n⟩, none, 0⟩
theorem lt_ab : ltC (cv3 ⟨#[97]⟩ 2).c (cv3 ⟨#[98]⟩ 2).c = true := by
  rw [ltC_iff]
  have : sltB ⟨#[97]⟩ ⟨#[98]⟩ = true := by unfold sltB; rw [ByteArray.toList_eq, ByteArray.toList_eq]; decide
  simp [cv3, this]
theorem lt_ca : ltC (cv3 ⟨#[99]⟩ 1).c (cv3 ⟨#[97]⟩ 2).c = true := by rw [ltC_iff]; simp [cv3]
theorem ex3_sort {r : List Cg} (h : SortC (cvs ex3) (cvs r)) : (cvs r)[0]? = some (cv3 ⟨#[99]⟩ 1).c ∧ (cvs r)[1]? = some (cv3 ⟨#[97]⟩ 2).c := by
  have k : StabOf ltC (cvs ex3) (insS ltC (cv3 ⟨#[99]⟩ 1).c (insS ltC (cv3 ⟨#[97]⟩ 2).c (insS ltC (cv3 ⟨#[98]⟩ 2).c []))) := ((StabOf.nil (lt := ltC)).snoc swoC (cv3 ⟨#[98]⟩ 2).c).snoc swoC (cv3 ⟨#[97]⟩ 2).c |>.snoc swoC (cv3 ⟨#[99]⟩ 1).c
  have e := StabOf.unique h k
  have e1 : insS ltC (cv3 ⟨#[98]⟩ 2).c [] = [(cv3 ⟨#[98]⟩ 2).c] := rfl
  have e2 : insS ltC (cv3 ⟨#[97]⟩ 2).c [(cv3 ⟨#[98]⟩ 2).c] = [(cv3 ⟨#[97]⟩ 2).c, (cv3 ⟨#[98]⟩ 2).c] := by rw [insS, if_pos lt_ab]
  have e3 : insS ltC (cv3 ⟨#[99]⟩ 1).c [(cv3 ⟨#[97]⟩ 2).c, (cv3 ⟨#[98]⟩ 2).c] = [(cv3 ⟨#[99]⟩ 1).c, (cv3 ⟨#[97]⟩ 2).c, (cv3 ⟨#[98]⟩ 2).c] := by rw [insS, if_pos lt_ca]
  rw [e1, e2, e3] at e
  rw [e]
  exact ⟨rfl, rfl⟩
theorem ex2_V : sumV (ctL (cvs [ct2 3, ct2 4])) = 7 ∧ sumE (ctL (cvs [ct2 3, ct2 4])) = 0 := by constructor <;> kernel_rfl
def chA : CV := ⟨⟨#[112, 58, 115]⟩, ⟨#[65, 66, 49, 50]⟩, ⟨#[122]⟩, 0, 9, [], 0⟩
theorem chA_ok : chkE chA = 0 := by
  have h1 : emp chA.key = false := by kernel_rfl
  have h2 : emp chA.veh = false := by kernel_rfl
  exact (chk_T h1 h2 (by decide) (by decide)).trans (by kernel_rfl)
theorem zeroC_6 : chkE zeroC = 6 := chk_6 (.inl (by kernel_rfl))
set_option maxRecDepth 100000 in
set_option maxHeartbeats 16000000 in
theorem awake_any (w : World) : Calls Tryz.prog 10 #[] w fun e w' => e = .returned (.bool true) ∧ Below w.heap.size w w' := by
  obtain ⟨Y1, hY1⟩ : ∃ Y, w.alloc (.cells #[.string ⟨#[111]⟩, .string ⟨#[]⟩, .int .i64 1, .string ⟨#[]⟩, .int .i64 400] 107) = Y := ⟨_, rfl⟩
  obtain ⟨Y2, hY2⟩ : ∃ Y, Y1.alloc (.cells #[.int .i64 0, .int .i64 1000, .slice none 0 0, .slice (some ⟨w.heap.size, 0, none⟩) 1 1] 104) = Y := ⟨_, rfl⟩
  obtain ⟨Y3, hY3⟩ : ∃ Y, Y2.alloc (.cells #[.string ⟨#[122]⟩, .slice none 0 0, .slice none 0 0, .int .i64 0, .int .i64 0, .int .i64 0, .int .i64 0] 76) = Y := ⟨_, rfl⟩
  obtain ⟨Y4, hY4⟩ : ∃ Y, Y3.alloc (.cells #[.slice none 0 0, .slice none 0 0, .slice none 0 0, .slice none 0 0, .slice none 0 0, .slice none 0 0, .int .i64 0, .int .i64 0, .slice none 0 0, .int .i64 0, .slice none 0 0, .slice none 0 0, .slice none 0 0, .slice none 0 0, .slice none 0 0, .slice none 0 0, .slice none 0 0, .slice none 0 0, .slice none 0 0, .slice none 0 0, .slice none 0 0, .slice none 0 0, .int .i64 0, .slice none 0 0, .string ⟨#[]⟩] 46) = Y := ⟨_, rfl⟩
  have s1 : Y1.heap.size = (w.heap.size + 1) := by rw [← hY1]; simp
  have s2 : Y2.heap.size = (w.heap.size + 1 + 1) := by rw [← hY2, ← s1]; simp
  have s3 : Y3.heap.size = (w.heap.size + 1 + 1 + 1) := by rw [← hY3, ← s2]; simp
  have n1 : Below Y1.heap.size Y1 Y2 := by rw [← hY2]; exact (Below.refl _ _).al _
  have n2 : Below Y2.heap.size Y2 Y3 := by rw [← hY3]; exact (Below.refl _ _).al _
  have n3 : Below Y3.heap.size Y3 Y4 := by rw [← hY4]; exact (Below.refl _ _).al _
  have n0 : Below w.heap.size w Y1 := by rw [← hY1]; exact (Below.refl _ _).al _
  have BZ : Blk Y4 (w.heap.size + 1 + 1 + 1) #[.slice none 0 0, .slice none 0 0, .slice none 0 0, .slice none 0 0, .slice none 0 0, .slice none 0 0, .int .i64 0, .int .i64 0, .slice none 0 0, .int .i64 0, .slice none 0 0, .slice none 0 0, .slice none 0 0, .slice none 0 0, .slice none 0 0, .slice none 0 0, .slice none 0 0, .slice none 0 0, .slice none 0 0, .slice none 0 0, .slice none 0 0, .slice none 0 0, .int .i64 0, .slice none 0 0, .string ⟨#[]⟩] 46 := by rw [← hY4, ← s3]; exact Blk.new Y3 _ _
  have HALL : Hid (∀ V4, (∀ B w0, B ≤ (w.heap.size + 1 + 1 + 1) → Below B w0 Y4 → Below B w0 V4) → Below w.heap.size w V4 ∧ Blk V4 (w.heap.size + 1) #[.int .i64 0, .int .i64 1000, .slice none 0 0, .slice (some ⟨w.heap.size, 0, none⟩) 1 1] 104 ∧ Rd encRt 5 V4 V4.heap.size (some ⟨w.heap.size, 0, none⟩) [⟨⟨#[111]⟩, ⟨#[]⟩, 1, ⟨#[]⟩, 400⟩] ∧ Rd encZ 7 V4 V4.heap.size (some ⟨(w.heap.size + 1 + 1), 0, none⟩) [z1]) := Lib.hid (by
    intro V4 hbz
    have n34 := hbz _ _ (by omega) n3
    have n24 := n2.st n34
    have n14 := n1.st n24
    refine ⟨n0.st n14, (show Blk Y2 (w.heap.size + 1) #[.int .i64 0, .int .i64 1000, .slice none 0 0, .slice (some ⟨w.heap.size, 0, none⟩) 1 1] 104 by rw [← hY2, ← s1]; exact Blk.new Y1 _ _).below n24 (by omega), (show Rd encRt 5 Y1 Y1.heap.size (some ⟨w.heap.size, 0, none⟩) [⟨⟨#[111]⟩, ⟨#[]⟩, 1, ⟨#[]⟩, 400⟩] by rw [← hY1]; exact Rd.lit w _ encRt_ok rfl (by simp)).st n14, (show Rd encZ 7 Y3 Y3.heap.size (some ⟨(w.heap.size + 1 + 1), 0, none⟩) [z1] by rw [← hY3, ← s2]; exact Rd.lit Y2 _ encZ_ok rfl (by simp)).st n34⟩)
  clear n0 n1 n2 n3
  go_enter Tryz.func10, Tryz.ntmps10
  go_wp2_with (first | (refine wpList_boxStore rfl (ty := 46) (x := .tmp 1) (y := .tmp 19) (cells := #[.slice none 0 0, .slice none 0 0, .slice none 0 0, .slice none 0 0, .slice none 0 0, .slice none 0 0, .int .i64 0, .int .i64 0, .slice (some ⟨w.heap.size + 1, 0, none⟩) 1 1, .int .i64 0, .slice none 0 0, .slice none 0 0, .slice none 0 0, .slice none 0 0, .slice none 0 0, .slice (some ⟨w.heap.size + 1 + 1, 0, none⟩) 1 1, .slice none 0 0, .slice none 0 0, .slice none 0 0, .slice none 0 0, .slice none 0 0, .slice none 0 0, .int .i64 0, .slice none 0 0, .string ⟨#[]⟩]) rfl BZ rfl rfl (by kernel_rfl) rfl (by kernel_rfl) ?_; intro V4 BC hoz hbz; have BCx := BC.alloc (.cells #[.string ⟨#[111]⟩, .int .i64 100, .string ⟨#[99, 49, 46, 53]⟩] 109); have BCy := BCx.alloc (.cells #[.string ⟨#[99, 49, 46, 53]⟩, .string ⟨#[65, 66, 49, 50]⟩, .string ⟨#[109]⟩, .int .i64 1, .slice (some ⟨V4.heap.size, 0, none⟩) 1 1] 49)) | (refine wpList_boxLoad rfl (ty := 46) (x := .tmp 1) (cs := #[.slice none 0 0, .slice none 0 0, .slice none 0 0, .slice none 0 0, .slice none 0 0, .slice none 0 0, .int .i64 0, .int .i64 0, .slice (some ⟨w.heap.size + 1, 0, none⟩) 1 1, .int .i64 0, .slice none 0 0, .slice none 0 0, .slice none 0 0, .slice none 0 0, .slice none 0 0, .slice (some ⟨w.heap.size + 1 + 1, 0, none⟩) 1 1, .slice none 0 0, .slice none 0 0, .slice none 0 0, .slice none 0 0, .slice none 0 0, .slice none 0 0, .int .i64 0, .slice none 0 0, .string ⟨#[]⟩]) rfl BCy rfl ⟨_, Tryz.underlying46, by kernel_rfl⟩ ?_))
  obtain ⟨bW, BF, rR, rZ⟩ := HALL.out V4 hbz
  clear hoz hbz HALL BZ hY1 hY2 hY3 hY4 BCx BCy s1 s2 s3
  obtain ⟨Y5, hY5⟩ : ∃ Y, V4.alloc (.cells #[.string ⟨#[111]⟩, .int .i64 100, .string ⟨#[99, 49, 46, 53]⟩] 109) = Y := ⟨_, rfl⟩
  obtain ⟨Y6, hY6⟩ : ∃ Y, Y5.alloc (.cells #[.string ⟨#[99, 49, 46, 53]⟩, .string ⟨#[65, 66, 49, 50]⟩, .string ⟨#[109]⟩, .int .i64 1, .slice (some ⟨V4.heap.size, 0, none⟩) 1 1] 49) = Y := ⟨_, rfl⟩
  have s5 : Y5.heap.size = V4.heap.size + 1 := by rw [← hY5]; simp
  rw [hY5, hY6]
  have n4 : Below V4.heap.size V4 Y5 := by rw [← hY5]; exact (Below.refl _ _).al _
  have n5 : Below Y5.heap.size Y5 Y6 := by rw [← hY6]; exact (Below.refl _ _).al _
  have n46 := n4.st n5
  have bW := bW.st n46
  have BT : Blk Y6 (V4.heap.size + 1) #[.string ⟨#[99, 49, 46, 53]⟩, .string ⟨#[65, 66, 49, 50]⟩, .string ⟨#[109]⟩, .int .i64 1, .slice (some ⟨V4.heap.size, 0, none⟩) 1 1] 49 := by rw [← hY6, ← s5]; exact Blk.new Y5 _ _
  have BS : Blk Y6 V4.heap.size #[.string ⟨#[111]⟩, .int .i64 100, .string ⟨#[99, 49, 46, 53]⟩] 109 := (show Blk Y5 V4.heap.size #[.string ⟨#[111]⟩, .int .i64 100, .string ⟨#[99, 49, 46, 53]⟩] 109 by rw [← hY5]; exact Blk.new V4 _ _).below n5 (by omega)
  have BC := BC.below n46 BC.lt
  have BF := BF.below n46 BF.lt
  have rR := rR.st n46
  have rZ := rZ.st n46
  have CB := Lib.hid (fun (X : World) (hX : Below Y6.heap.size Y6 X) => pbase_one (tb := (w.heap.size + 1)) (sb := V4.heap.size) (ra := ⟨w.heap.size, 0, none⟩) (zA := some ⟨(w.heap.size + 1 + 1), 0, none⟩) (tc := 1) (sc := 1) (zc := 1) (rc := 1) (BF.below hX BF.lt).lt (BS.below hX BS.lt).lt ((BF.below hX BF.lt).cell 0 rfl) ((BF.below hX BF.lt).cell 1 rfl) ((BF.below hX BF.lt).cell 2 rfl) ((BF.below hX BF.lt).cell 3 rfl) ((BS.below hX BS.lt).cell 0 rfl) ((BS.below hX BS.lt).cell 1 rfl) ((BS.below hX BS.lt).cell 2 rfl) (rR.st hX))
  have CN := Lib.hid (fun (X : World) => pbase_none (tA := some ⟨(w.heap.size + 1), 0, none⟩) (zA := some ⟨(w.heap.size + 1 + 1), 0, none⟩) (tc := 1) (zc := 1) X)
  have CS := Lib.hid (fun (X : World) (hX : Below Y6.heap.size Y6 X) => pstay_one (zb := (w.heap.size + 1 + 1)) (tA := some ⟨(w.heap.size + 1), 0, none⟩) (tc := 1) (zc_ := 1) (rZ.st hX))
  have HW := Lib.hid bW
  have bY := Below.refl Y6.heap.size Y6
  clear s5 n4 n5 n46 bW BF BS rR rZ hY5 hY6
  refine (CB.out _ bY).mono ?_
  rintro e W1 ⟨rfl, hbn⟩
  have bY := bY.st hbn; have BC := BC.below hbn BC.lt; have BT := BT.below hbn BT.lt; clear hbn
  go_wp2_with (first | (refine wpList_boxLoad rfl (ty := 46) (x := .tmp 1) (cs := #[.slice none 0 0, .slice none 0 0, .slice none 0 0, .slice none 0 0, .slice none 0 0, .slice none 0 0, .int .i64 0, .int .i64 0, .slice (some ⟨w.heap.size + 1, 0, none⟩) 1 1, .int .i64 0, .slice none 0 0, .slice none 0 0, .slice none 0 0, .slice none 0 0, .slice none 0 0, .slice (some ⟨w.heap.size + 1 + 1, 0, none⟩) 1 1, .slice none 0 0, .slice none 0 0, .slice none 0 0, .slice none 0 0, .slice none 0 0, .slice none 0 0, .int .i64 0, .slice none 0 0, .string ⟨#[]⟩]) rfl BC rfl ⟨_, Tryz.underlying46, by kernel_rfl⟩ ?_) | (refine wpList_boxLoad rfl (ty := 49) (x := .tmp 2) (cs := #[.string ⟨#[99, 49, 46, 53]⟩, .string ⟨#[65, 66, 49, 50]⟩, .string ⟨#[109]⟩, .int .i64 1, .slice (some ⟨V4.heap.size, 0, none⟩) 1 1]) rfl BT rfl ⟨_, Tryz.underlying49, by kernel_rfl⟩ ?_))
  refine (CN.out _).mono ?_
  rintro e W2 ⟨rfl, hbn⟩
  have bY := bY.st hbn; have BC := BC.below hbn BC.lt; have BT := BT.below hbn BT.lt; clear hbn
  go_wp2_with (first | (refine wpList_boxLoad rfl (ty := 46) (x := .tmp 1) (cs := #[.slice none 0 0, .slice none 0 0, .slice none 0 0, .slice none 0 0, .slice none 0 0, .slice none 0 0, .int .i64 0, .int .i64 0, .slice (some ⟨w.heap.size + 1, 0, none⟩) 1 1, .int .i64 0, .slice none 0 0, .slice none 0 0, .slice none 0 0, .slice none 0 0, .slice none 0 0, .slice (some ⟨w.heap.size + 1 + 1, 0, none⟩) 1 1, .slice none 0 0, .slice none 0 0, .slice none 0 0, .slice none 0 0, .slice none 0 0, .slice none 0 0, .int .i64 0, .slice none 0 0, .string ⟨#[]⟩]) rfl BC rfl ⟨_, Tryz.underlying46, by kernel_rfl⟩ ?_) | (refine wpList_boxLoad rfl (ty := 49) (x := .tmp 2) (cs := #[.string ⟨#[99, 49, 46, 53]⟩, .string ⟨#[65, 66, 49, 50]⟩, .string ⟨#[109]⟩, .int .i64 1, .slice (some ⟨V4.heap.size, 0, none⟩) 1 1]) rfl BT rfl ⟨_, Tryz.underlying49, by kernel_rfl⟩ ?_))
  refine (CS.out _ bY).mono ?_
  rintro e W3 ⟨rfl, hbn⟩
  have bY := bY.st hbn; have BC := BC.below hbn BC.lt; have BT := BT.below hbn BT.lt; clear hbn
  clear CB CN CS BC BT
  go_upto_region 6 with fail
  obtain ⟨W4, hW4⟩ : ∃ Y, W3.alloc (.cells #[.string ⟨#[112, 58, 115]⟩, .string ⟨#[65, 66, 49, 50]⟩, .string ⟨#[122]⟩, .int .i64 0, .int .i64 9, .slice none 0 0, .int .i64 0] 66) = Y := ⟨_, rfl⟩
  rw [hW4]
  have hb4 : Below W3.heap.size W3 W4 := by rw [← hW4]; exact (Below.refl _ _).al _
  have b4 := bY.st hb4
  have BH : Blk W4 W3.heap.size #[.string ⟨#[112, 58, 115]⟩, .string ⟨#[65, 66, 49, 50]⟩, .string ⟨#[122]⟩, .int .i64 0, .int .i64 9, .slice none 0 0, .int .i64 0] 66 := by rw [← hW4]; exact Blk.new W3 _ _
  clear hW4 hb4 bY
  obtain ⟨W5, hW5⟩ : ∃ Y, W4.alloc (.cells #[.string ⟨#[98]⟩, .string ⟨#[]⟩, .string ⟨#[]⟩, .int .i64 0, .int .i64 2, .slice none 0 0, .int .i64 0, .string ⟨#[97]⟩, .string ⟨#[]⟩, .string ⟨#[]⟩, .int .i64 0, .int .i64 2, .slice none 0 0, .int .i64 0, .string ⟨#[99]⟩, .string ⟨#[]⟩, .string ⟨#[]⟩, .int .i64 0, .int .i64 1, .slice none 0 0, .int .i64 0] 66) = Y := ⟨_, rfl⟩
  have hb5 : Below W4.heap.size W4 W5 := by rw [← hW5]; exact (Below.refl _ _).al _
  have b5 := b4.st hb5
  have BH := BH.below hb5 BH.lt
  have r3 : Rd encCg 7 W5 W5.heap.size (some ⟨W4.heap.size, 0, none⟩) ex3 := by rw [← hW5]; exact Rd.lit W4 _ encCg_ok rfl (by simp [ex3])
  have CO := psort_any (l := ex3) 3 r3 (by intro x hx; simp only [ex3, List.mem_cons, List.not_mem_nil, or_false] at hx; rcases hx with rfl | rfl | rfl <;> exact ⟨Rd.nil, by simp [cv3]⟩) (by simp [ex3])
  rw [show ex3.length = 3 from rfl] at CO
  have CO := Lib.hid CO
  clear hb5 r3
  go_wp2_with fail
  refine CO.out.mono ?_
  rintro e W6 ⟨A6, c6, r, rfl, hrl, hown, hst, -, hbn⟩
  have b6 := b5.st hbn
  have BH := BH.below hbn BH.lt
  have hs3 := ex3_sort hst
  obtain ⟨g, off, x, hA, hg, hx, d0, -⟩ := (hown.rd encCg_ok).cg (i := 0) (by rw [hrl.out]; decide)
  obtain ⟨g', off', y, hA', -, hy, e0, -⟩ := (hown.rd encCg_ok).cg (i := 1) (by rw [hrl.out]; decide)
  subst hA
  injection hA' with hA'
  injection hA' with q1 q2
  subst q1 q2
  have hxc : x.c = (cv3 ⟨#[99]⟩ 1).c := Option.some.inj ((cvs_at hx).symm.trans hs3.1)
  have hyc : y.c = (cv3 ⟨#[97]⟩ 2).c := Option.some.inj ((cvs_at hy).symm.trans hs3.2)
  have d0 : W6.cell? ⟨g, off, none⟩ = some (.string ⟨#[99]⟩) := by rw [hxc] at d0; simpa [cv3] using d0
  have e0 : W6.cell? ⟨g, off + 7, none⟩ = some (.string ⟨#[97]⟩) := by rw [hyc] at e0; simpa [cv3] using e0
  clear hxc hyc hx hy hs3 hst hown hrl hbn CO hW5
  obtain ⟨W7, hW7⟩ : ∃ Y, W6.alloc (.cells #[.string ⟨#[]⟩, .string ⟨#[]⟩, .string ⟨#[]⟩, .int .i64 0, .int .i64 0, .slice none 0 0, .int .i64 3, .string ⟨#[]⟩, .string ⟨#[]⟩, .string ⟨#[]⟩, .int .i64 0, .int .i64 0, .slice none 0 0, .int .i64 4] 66) = Y := ⟨_, rfl⟩
  have hb7 : Below W6.heap.size W6 W7 := by rw [← hW7]; exact (Below.refl _ _).al _
  have b7 := b6.st hb7
  have BH := BH.below hb7 BH.lt
  have r2 : Rd encCg 7 W7 W7.heap.size (some ⟨W6.heap.size, 0, none⟩) [ct2 3, ct2 4] := by rw [← hW7]; exact Rd.lit W6 _ encCg_ok rfl (by simp)
  have CT := ptot_any (l := [ct2 3, ct2 4]) 2 r2 (by simp)
  rw [ex2_V.1, ex2_V.2, show [ct2 3, ct2 4].length = 2 from rfl] at CT
  have CT := Lib.hid CT
  clear r2
  go_wp2_with fail
  refine CT.out.mono ?_
  rintro e W8 ⟨rfl, hbn⟩
  have b8 := b7.st hbn
  have BH := BH.below hbn BH.lt
  have hg7 : g < W7.heap.size := Nat.lt_of_lt_of_le hg hb7.size
  have d0 := cell_belowP (cell_belowP d0 hb7 hg) hbn hg7
  have e0 := cell_belowP (cell_belowP e0 hb7 hg) hbn hg7
  have h0 := BH.cell 0 (v := .string ⟨#[112, 58, 115]⟩) rfl
  have h1 := BH.cell 1 (v := .string ⟨#[65, 66, 49, 50]⟩) rfl
  have h2 := BH.cell 2 (v := .string ⟨#[122]⟩) rfl
  have h3 := BH.cell 3 (v := .int .i64 0) rfl
  have h4 := BH.cell 4 (v := .int .i64 9) rfl
  have h5 := BH.cell 5 (v := .slice none 0 0) rfl
  have h6 := BH.cell 6 (v := .int .i64 0) rfl
  have K1 := pchk_any chA (lA := none) 0 (w := W8) Rd.nil (by simp [chA])
  rw [chA_ok] at K1
  have K1 := Lib.hid K1
  have K2 := Lib.hid (fun (X : World) => by have := pchk_any zeroC (lA := none) 0 (w := X) Rd.nil (by simp [zeroC]); rw [zeroC_6] at this; exact this)
  simp only [CHV, chA, zeroC, List.length_nil] at K1 K2
  have t1 : (⟨#[99]⟩ : ByteArray).toList = [99] := by rw [ByteArray.toList_eq]
  have t2 : (⟨#[97]⟩ : ByteArray).toList = [97] := by rw [ByteArray.toList_eq]
  clear hbn hb7 hg hg7 CT hW7 b5 b6 b7
  go_wp2_with fail
  refine K1.out.mono ?_
  rintro e W9 ⟨rfl, hbn⟩
  have b9 := b8.st hbn
  clear hbn
  go_wp2_with fail
  refine (K2.out _).mono ?_
  rintro e W10 ⟨rfl, hbn⟩
  have b10 := HW.out.st (b9.st hbn)
  go_wp2_with fail
  go_ret
  exact ⟨rfl, b10⟩
end Go.Proofs.YtcpfiiapfggmpaaGreat
