/- Joined texts: StabOwn, PrcSort. -/
import Derived.Test.YtcpfiiapfggmpaaGreatStabTop
import Derived.Test.YtcpfiiapfggmpaaGreatJStabList
import Derived.Test.YtcpfiiapfggmpaaGreatJSort
import Derived.Test.YtcpfiiapfggmpaaGreatJShelf
import Derived.Test.YtcpfiiapfggmpaaGreatPrcOrd
/- slices.SortStableFunc on a slice of the call's own. -/

namespace Go.Proofs.YtcpfiiapfggmpaaGreat
open Go.RowKit Go.Lib Go.Sort Go.Shelf

def encT {β : Type} (enc : β → List Value) (x : β × Nat) : List Value := enc x.1
theorem encT_ok {β : Type} {enc : β → List Value} {k : Nat} (h : Enc enc k) : Enc (encT enc) k := ⟨fun x => h.1 x.1, fun x => h.2 x.1⟩
theorem flat_tag {β : Type} (enc : β → List Value) (t : List (β × Nat)) : t.flatMap (encT enc) = (t.map Prod.fst).flatMap enc := by
  induction t with
  | nil => rfl
  | cons x t ih => rw [List.flatMap_cons, ih]; rfl
theorem Own.tag {β : Type} {enc : β → List Value} {e k : Nat} {w : World} {base : Nat} {A : Option Addr} {c : Nat} {l : List β} (t : List (β × Nat)) (ht : t.map Prod.fst = l) : Own e (encT enc) k w base A c t ↔ Own e enc k w base A c l := by
  subst ht
  unfold Own
  rw [flat_tag, List.length_map]

theorem sortWorldK_other {β : Type} [Inhabited β] (enc : β → List Value) (k : Nat) (w : World) (g n : Nat) (d' : Array β) (os : Array Obj) (b : Nat) (hb : b < w.heap.size) (hne : b ≠ g) : (sortWorldK enc k w g 0 n d' os).heap[b]? = w.heap[b]? := by
  unfold sortWorldK putRowK
  rw [heap_grow_old _ _ (by simpa [putRow, mapBlock, Sort.ahead] using hb)]
  have : g ≠ b := Ne.symm hne
  simp [putRow, mapBlock, Sort.ahead, Array.getElem?_modify, this]

theorem stF : StF Tryz.prog 7 where
  mixed := by kernel_rfl
  t0 := Tryz.underlying0
  a0 := Tryz.isAgg0
  z0 := Tryz.sizeOf0
  v0 := Tryz.zeroValue0
  t3 := Tryz.underlying3
  a3 := Tryz.isAgg3
  z3 := Tryz.sizeOf3
  v3 := Tryz.zeroValue3
  t4 := Tryz.underlying4
  a4 := Tryz.isAgg4
  z4 := Tryz.sizeOf4
  v4 := Tryz.zeroValue4
  t22 := Tryz.underlying110
  a22 := Tryz.isAgg110
  z22 := Tryz.sizeOf110
  v22 := Tryz.zeroValue110
  t78 := Tryz.underlying161
  a78 := Tryz.isAgg161
  z78 := Tryz.sizeOf161
  v78 := Tryz.zeroValue161
  t96 := Tryz.underlying89
  a96 := Tryz.isAgg89
  z96 := Tryz.sizeOf89
  v96 := Tryz.zeroValue89
  aE := Tryz.isAgg66
  zE := Tryz.sizeOf66
  fsw := Tryz.func172
  fro := Tryz.func165
  fsy := Tryz.func148
  fst := Tryz.func109
  fso := Tryz.func70

theorem ins_none (cap : Nat) (fv : Value) (w : World) : Calls Tryz.prog 147 #[.slice none 0 cap, .int .i64 0, .int .i64 0, fv] w fun e w' => e = .returned (.tuple #[]) ∧ w' = w := by
  go_enter Tryz.func147, Tryz.ntmps147
  go_wp2_with fail
  go_loopg [8] 0 (fun g1 va wr => va = .int .i64 1 ∧ wr = w)
  case atStart => exact ⟨rfl, rfl⟩
  case round =>
    obtain ⟨rfl, rfl⟩ := hrel
    go_wp2
    go_end0
    exact ⟨rfl, rfl⟩
theorem stb_none (cap : Nat) (fv : Value) (w : World) : Calls Tryz.prog 109 #[.slice none 0 cap, .int .i64 0, fv] w fun e w' => e = .returned (.tuple #[]) ∧ w' = w := by
  go_enter Tryz.func109, Tryz.ntmps109
  go_wp2_with fail
  go_loopg [7, 8] 0 (fun g1 va vb wr => va = .int .i64 0 ∧ vb = .int .i64 20 ∧ wr = w)
  case atStart => exact ⟨rfl, rfl, rfl⟩
  case round =>
    obtain ⟨rfl, rfl, rfl⟩ := hrel
    go_wp2_with fail
    refine (ins_none cap fv _).mono ?_
    rintro e w' ⟨rfl, rfl⟩
    go_wp2_with fail
    go_loopg [6] 0 (fun g1 va wr => va = .int .i64 20 ∧ wr = w')
    case atStart => exact ⟨rfl, rfl⟩
    case round =>
      obtain ⟨rfl, rfl⟩ := hrel
      go_wp2
      go_end0
      exact ⟨rfl, rfl⟩

/-- THE LIBRARY's STABLE SORT ON A SLICE OF THE CALL's OWN. -/
theorem stab_own {β : Type} [Inhabited β] {enc : β → List Value} {w : World} {base : Nat} {A : Option Addr} {c : Nat} {l : List β} (hE : Enc enc 7) (cf : β → β → Int) (hO : SWO (ltOf cf)) (g : Nat) (cb : Array Value)
    (eg : ∀ args w, (callFunc g args).run Tryz.prog w = .ok (.enter g args) w) (hcmp : ∀ (W : World) (x y : β), Calls Tryz.prog g (#[.agg (enc x).toArray, .agg (enc y).toArray] ++ cb) W fun e w' => e = .returned (.int .i64 (cf x y)) ∧ Gr W w')
    (h : Own 66 enc 7 w base A c l) (hb : base ≤ w.heap.size) (hsz : l.length < 1000000000000000000) :
    Calls Tryz.prog 70 #[.slice A l.length c, .func (.func g) #[] cb] w fun en w' => en = .returned (.tuple #[]) ∧ ∃ l' : List β, StabOf (ltOf cf) l l' ∧ Own 66 enc 7 w' base A c l' ∧ Below base w w' ∧ w.heap.size ≤ w'.heap.size ∧ ∀ b, b < w.heap.size → (∀ g, A = some ⟨g, 0, none⟩ → b ≠ g) → w'.heap[b]? = w.heap[b]? := by
  rcases h.form with ⟨rfl, rfl, rfl⟩ | ⟨g0, hA, hg1, hg2⟩
  · have HN := Lib.hid (fun w => stb_none 0 (.func (.func g) #[] cb) w)
    have HW := Lib.hid h
    go_enter Tryz.func70, Tryz.ntmps70
    go_wp2_with fail
    refine (HN.out _).mono ?_
    rintro e w' ⟨rfl, rfl⟩
    go_wp2
    go_end0
    exact ⟨rfl, [], StabOf.nil, HW.out, Below.refl _ _, Nat.le_refl _, fun _ _ _ => rfl⟩
  · have hT : Own 66 (encT enc) 7 w base A c l.zipIdx := (Own.tag l.zipIdx (List.zipIdx_map_fst 0 l)).2 h
    have hlz : l.zipIdx.length = l.length := List.length_zipIdx
    have R : RowK (encT enc) 7 w g0 0 l.zipIdx.toArray := ⟨(encT_ok hE).1, (encT_ok hE).2, hT.holds (encT_ok hE) hA, hg2⟩
    have hC : CmpLays Tryz.prog g cb (encT enc) 7 (tagC cf) g0 0 l.zipIdx.toArray.size w := fun _ _ _ _ x y => hcmp _ x.1 y.1
    have hS2 : SWO (ltOf (tagC cf)) := ⟨fun x => hO.irrefl x.1, fun x y z => hO.trans x.1 y.1 z.1, fun x y z => hO.ntrans x.1 y.1 z.1⟩
    have hsz2 : l.zipIdx.toArray.size < 1000000000000000000 := by simpa [hlz] using hsz
    have hIns : InsOk Tryz.prog (encT enc) 7 w g0 0 c g cb cf l.zipIdx.toArray := by
      intro a b d W h1 h2 h3 h4
      have := AnyQ.insertionSortCmpFunc_w (P := Tryz.prog) Tryz.lay_ins_f147 7 Tryz.isAgg66 Tryz.sizeOf66 (encT enc) (tagC cf) g cb g0 0 c a b l.zipIdx.toArray d w W eg hC R h1.symm h4 hS2 h2 h3 (by omega)
      rw [h1] at this
      exact this
    have hst := stable_any stF R hsz2 c g cb cf hC eg hO hIns (enters_of Tryz.func147 (by kernel_rfl) rfl) (by
      intro i hi
      have hi' : i < l.zipIdx.length := by simpa using hi
      rw [getElem!_pos _ i hi]
      simp)
    have HST := Lib.hid hst
    have hss : l.zipIdx.toArray.size = l.length := by simp
    rw [hss] at HST
    have HB := Lib.hid (fun n os (d' : Array (β × Nat)) (hd : d'.size = l.zipIdx.length) => hT.sorted (encT_ok hE) (g := g0) (n := n) (os := os) (d' := d') hA hd)
    clear hC hS2 hIns hst R hT
    have HA := Lib.hid hA
    subst hA
    clear h
    go_enter Tryz.func70, Tryz.ntmps70
    go_wp2_with fail
    refine (HST.out).mono ?_
    rintro e w' ⟨rfl, d', hp, hs, n, os, rfl⟩
    have hd : d'.size = l.zipIdx.length := by rw [hp.1]; simp
    have HX : Hid (∃ l' : List β, StabOf (ltOf cf) l l' ∧ Own 66 enc 7 (sortWorldK (encT enc) 7 w g0 0 n d' os) base (some ⟨g0, 0, none⟩) c l' ∧ Below base w (sortWorldK (encT enc) 7 w g0 0 n d' os) ∧ w.heap.size ≤ (sortWorldK (encT enc) 7 w g0 0 n d' os).heap.size ∧ ∀ b, b < w.heap.size → (∀ g, some (⟨g0, 0, none⟩ : Addr) = some ⟨g, 0, none⟩ → b ≠ g) → (sortWorldK (encT enc) 7 w g0 0 n d' os).heap[b]? = w.heap[b]?) := by
      obtain ⟨h1, h2⟩ := HB.out n os d' hd
      refine ⟨d'.toList.map Prod.fst, ⟨d'.toList, ?_, ?_, rfl⟩, (Own.tag d'.toList rfl).1 h1, h2, size_sortWorldK_c _ _ _ _ _ _ _ _, fun b hb hne => sortWorldK_other _ _ _ _ _ _ _ _ hb (hne g0 rfl)⟩
      · have := hp.2.2
        have e1 : d'.extract 0 l.length = d' := by rw [show l.length = d'.size by rw [hd, hlz]]; exact Array.extract_size
        have e2 : l.zipIdx.toArray.extract 0 l.length = l.zipIdx.toArray := by rw [← hss]; exact Array.extract_size
        rw [e1, e2] at this
        simpa using this
      · rw [List.pairwise_iff_getElem]
        intro i j hi hj hij
        have hi' : i < d'.size := by simpa using hi
        have hj' : j < d'.size := by simpa using hj
        have := hs i j (Nat.zero_le _) hij (by omega)
        rw [getElem!_pos d' j hj', getElem!_pos d' i hi'] at this
        simpa using this
    clear hp hs
    go_wp2
    go_end0
    exact ⟨rfl, HX.out⟩
end Go.Proofs.YtcpfiiapfggmpaaGreat
/- price.Sort, walked. -/
set_option linter.unusedSimpArgs false
namespace Go.Proofs.YtcpfiiapfggmpaaGreat
open Go.RowKit Go.Lib Go.Sort Go.Shelf

set_option maxRecDepth 100000 in
set_option maxHeartbeats 8000000 in
theorem psort_any {A : Option Addr} (c : Nat) {l : List Cg} {w : World} (h : Rd encCg 7 w w.heap.size A l) (hr : CgRs w l) (hl : l.length ≤ 1000) :
    Calls Tryz.prog 32 #[.slice A l.length c] w fun e w' => ∃ A' c' r, e = .returned (.slice A' l.length c') ∧ Hid (r.length = l.length) ∧ Own 66 encCg 7 w' w.heap.size A' c' r ∧ SortC (cvs l) (cvs r) ∧ LList w' w.heap.size r ∧ Below w.heap.size w w' := by
  have HR := Lib.hid h
  have HL := Lib.hid hr
  clear h hr
  have eg : ∀ args w, (callFunc 71 args).run Tryz.prog w = .ok (.enter 71 args) w := enters_of Tryz.func71 (by kernel_rfl) rfl
  have CSort := Lib.hid (fun (X : World) (base : Nat) (A' : Option Addr) (c' : Nat) (o : List Cg) (ho : Own 66 encCg 7 X base A' c' o) (hX : base ≤ X.heap.size) (hlo : o.length ≤ 100000000) => stab_own (w := X) encCg_ok cmpCg cmpCg_pre.swo 71 #[] eg (fun W x y => cgCmp_any W x y) ho hX (by omega))
  clear eg
  go_enter Tryz.func32, Tryz.ntmps32
  go_wp2_with fail
  go_loopw [3, 8] (fun v i wr => ∃ (k : Nat) (A' : Option Addr) (c' : Nat) (o : List Cg), k ≤ l.length ∧ i = .int .i64 k ∧ v = .slice A' o.length c' ∧ Hid (o.length = k) ∧ Hid (cvs o = (cvs l).take k) ∧ Own 66 encCg 7 wr w.heap.size A' c' o ∧ Hid (LList wr w.heap.size o) ∧ Below w.heap.size w wr) (fun _ i _ => l.length - (RowKit.intOf i).toNat)
  case atStart => exact ⟨0, none, 0, [], Nat.zero_le _, rfl, rfl, rfl, rfl, Own.nil _ _, LList.nil _ _, Below.refl _ _⟩
  case round =>
    obtain ⟨k, A', c', o, hk, rfl, rfl, HOL, HV, hown, HLL, hwr⟩ := hrel
    by_cases hi : k < l.length
    · obtain ⟨b, off, x, rfl, hb, hx, d0, d1, d2, d3, d4, d5, d6⟩ := (HR.out.st hwr).cg hi
      have hlx := (HL.out x (List.mem_of_getElem? hx)).st hwr
      have HK := Lib.hid hi
      have HX := Lib.hid (cvs_at hx)
      have hol : o.length ≤ 1000 := by have := HOL.out; omega
      have hsz : w.heap.size ≤ wr.heap.size := hwr.size
      obtain ⟨⟨key, veh, sys, cls, tm, lns, cn⟩, lA, lc⟩ := x
      simp only at *
      obtain ⟨Y5, hY5⟩ : ∃ Y, wr.alloc (.cells #[.string key, .string veh, .string sys, .int .i64 cls, .int .i64 tm, .slice lA lns.length lc, .int .i64 cn] 66) = Y := ⟨_, rfl⟩
      have BX : Blk Y5 wr.heap.size #[.string key, .string veh, .string sys, .int .i64 cls, .int .i64 tm, .slice lA lns.length lc, .int .i64 cn] 66 := by rw [← hY5]; exact Blk.new wr _ _
      have b5 : Below wr.heap.size wr Y5 := by rw [← hY5]; exact (Below.refl _ wr).al _
      have s5 : Y5.heap.size = wr.heap.size + 1 := by rw [← hY5]; simp
      have x5 := BX.cell 5 (v := .slice lA lns.length lc) rfl
      have CL := Lib.hid (cloneL_any lc (hlx.1.st b5) (Nat.le_trans hlx.2 (by omega)))
      have S5 := Lib.hid s5
      clear hx hi hb hlx s5
      go_wp2_with fail
      refine CL.out.mono ?_
      rintro e W6 ⟨A9, c9, rfl, hown9, hbn⟩
      have b6 := b5.st hbn
      have BX := BX.below hbn BX.lt
      have x5 := BX.cell 5 (v := .slice lA lns.length lc) rfl
      have f5 := BX.frozen 5
      have BV : Blk (W6.setCell ⟨wr.heap.size, 5, none⟩ (.slice A9 lns.length c9)) wr.heap.size #[.string key, .string veh, .string sys, .int .i64 cls, .int .i64 tm, .slice A9 lns.length c9, .int .i64 cn] 66 := BX.set 5 (.slice A9 lns.length c9)
      have bV := b6.setCell (p := ⟨wr.heap.size, 5, none⟩) (Nat.le_refl _) (.slice A9 lns.length c9)
      have hV9 := hown9.other (p := ⟨wr.heap.size, 5, none⟩) (by have := S5.out; show wr.heap.size < Y5.heap.size; omega) (.slice A9 lns.length c9)
      obtain ⟨V1, hV1⟩ : ∃ V, W6.setCell ⟨wr.heap.size, 5, none⟩ (.slice A9 lns.length c9) = V := ⟨_, rfl⟩
      rw [hV1] at BV bV hV9
      have hownV := hown.st bV
      have hwV := hwr.st bV
      have HLV := Lib.hid (HLL.out.snoc (x := ⟨(⟨key, veh, sys, cls, tm, lns, cn⟩ : CV), A9, c9⟩) bV (hV9.mono (by have := S5.out; omega)) hsz)
      have HVn : Hid (cvs (o ++ [⟨(⟨key, veh, sys, cls, tm, lns, cn⟩ : CV), A9, c9⟩]) = (cvs l).take (k + 1)) := Lib.hid (by rw [cvs_app, HV.out, take_snoc HX.out]; rfl)
      have HVW := Lib.hid hV9
      clear hown9 hbn b6 BX hV9 hown HLL HV HX CL hY5 b5 bV
      go_wp2_with (first | (refine wpList_boxLoad rfl (ty := 66) (x := .tmp 5) (cs := #[.string key, .string veh, .string sys, .int .i64 cls, .int .i64 tm, .slice A9 lns.length c9, .int .i64 cn]) rfl BV rfl ⟨_, Tryz.underlying66, by kernel_rfl⟩ ?_) | (at_builtin; refine wpList_app1b rfl (.tmp 16) (.tmp 18) tyCg encCg_ok rfl (⟨(⟨key, veh, sys, cls, tm, lns, cn⟩ : CV), A9, c9⟩ : Cg) rfl _ rfl (by simp) hownV rfl (by first | rfl | simp) (by first | omega | (simp; omega)) (by first | omega | (simp; omega)) (by first | exact hwV.size | (have := hwV.size; omega)) ?_; intro A8 c8 w8 hown8 hb8 hs8 hf8; have hbel8 := hwV.trans hb8))
      have HLL8 := Lib.hid (HLV.out.keepA hownV (by decide) hf8)
      clear hownV hb8 hf8 HLV HVW
      go_wp2_with fail
      go_roundw
      case rel => exact ⟨k + 1, A8, c8, _, HK.out, by go_num, by simp, Lib.hid (by have := HOL.out; simp; omega), HVn, hown8, HLL8, hbel8⟩
      case measure => have := HK.out; simp [RowKit.intOf]; omega
    · obtain rfl : k = l.length := by omega
      have CS2 := Lib.hid (CSort.out wr w.heap.size A' c' o hown hwr.size (by have := HOL.out; omega))
      have hol : o.length = l.length := HOL.out
      have HCV : Hid (cvs o = cvs l) := Lib.hid (by have := HV.out; rwa [← cvs_len, List.take_length] at this)
      have HX : Hid (∀ (w2 : World) (r : List Cg), StabOf (ltOf cmpCg) o r → (∀ b, b < wr.heap.size → (∀ g, A' = some ⟨g, 0, none⟩ → b ≠ g) → w2.heap[b]? = wr.heap[b]?) → LList w2 w.heap.size r ∧ SortC (cvs l) (cvs r) ∧ r.length = o.length) := by
        intro w2 r hst hk
        refine ⟨(HLL.out.keepA hown (by decide) hk).perm fun x hx => hst.perm.subset hx, ?_, hst.perm.length_eq⟩
        rw [← HCV.out]
        exact hst.sortC
      rw [hol] at CS2 ⊢
      have HOL2 := Lib.hid hol
      clear HV HLL hown HCV hol
      go_wp2_with fail
      refine CS2.out.mono ?_
      rintro e w2 ⟨rfl, r, hst, hown2, hbel, hsz, hk2⟩
      obtain ⟨x1, x2, x3⟩ := HX.out w2 r hst hk2
      have X1 := Lib.hid x1
      have X2 := Lib.hid x2
      have X3 := Lib.hid (x3.trans HOL2.out)
      have hb9 := hwr.trans hbel
      clear x1 x2 x3 hst hk2 HX
      go_wp2_with fail
      go_ret
      exact ⟨A', c', r, rfl, X3, hown2, X2.out, X1.out, hb9⟩
end Go.Proofs.YtcpfiiapfggmpaaGreat
