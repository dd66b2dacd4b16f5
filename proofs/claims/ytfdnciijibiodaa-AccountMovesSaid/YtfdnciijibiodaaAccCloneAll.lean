/- account.cloneAll, walked. -/
import Derived.Test.YtfdnciijibiodaaAccClone
namespace Go.Proofs.Ytfdnciijibiodaa
open Go.RowKit Go.Lib

/-- an account whose list of vehicles is the call's own -/
def OwnA (w : World) (base : Nat) (b : Ac) : Prop := ∃ g, b.oA = some ⟨g, 0, none⟩ ∧ Own 43 encOw 4 w base (some ⟨g, 0, none⟩) b.oc b.v.os
/-- accounts whose lists of vehicles are the call's own, each in a block of its own -/
def CList (w : World) (base : Nat) (l : List Ac) : Prop := (∀ b ∈ l, OwnA w base b) ∧ l.Pairwise fun a b => a.oA ≠ b.oA
theorem OwnA.lt {w : World} {base : Nat} {b : Ac} (h : OwnA w base b) : ∃ g, b.oA = some ⟨g, 0, none⟩ ∧ base ≤ g ∧ g < w.heap.size := by
  obtain ⟨g, hA, hown⟩ := h
  rcases hown.form with ⟨q, _⟩ | ⟨g', q, h1, h2⟩
  · cases q
  · injection q with q; injection q with q; subst q
    exact ⟨g, hA, h1, h2⟩
theorem OwnA.st {w w' : World} {base : Nat} {b : Ac} (h : OwnA w base b) (hb : Below w.heap.size w w') : OwnA w' base b := by
  obtain ⟨g, hA, hown⟩ := h
  exact ⟨g, hA, hown.st hb⟩
theorem OwnA.same {w w' : World} {base : Nat} {b : Ac} (h : OwnA w base b) (hk : ∀ g, base ≤ g → w'.heap[g]? = w.heap[g]?) : OwnA w' base b := by
  obtain ⟨g, hA, hown⟩ := h
  exact ⟨g, hA, hown.same hk⟩
theorem OwnA.ok {w : World} {base : Nat} {b : Ac} (h : OwnA w base b) : AOk w b := by
  obtain ⟨g, hA, hown⟩ := h
  refine ⟨by rw [hA]; exact hown.rd encOw_ok, hown.cap, ?_⟩
  rcases hown.2 with ⟨h1, h2⟩ | ⟨g, cap, cur, hv, _, _, _, hm, _⟩
  · injection h1 with p q r; rw [r]; omega
  · injection hv with p q r; rw [r]; unfold maxLen at hm; exact hm
theorem CList.st {w w' : World} {base : Nat} {l : List Ac} (h : CList w base l) (hb : Below w.heap.size w w') : CList w' base l := ⟨fun b hb' => (h.1 b hb').st hb, h.2⟩
theorem CList.same {w w' : World} {base : Nat} {l : List Ac} (h : CList w base l) (hk : ∀ g, base ≤ g → w'.heap[g]? = w.heap[g]?) : CList w' base l := ⟨fun b hb => (h.1 b hb).same hk, h.2⟩
theorem CList.ok {w : World} {base : Nat} {l : List Ac} (h : CList w base l) : AsOk w l := fun b hb => (h.1 b hb).ok
theorem CList.nil (w : World) (base : Nat) : CList w base [] := ⟨by simp, by simp⟩
theorem CList.snoc {w w' : World} {base : Nat} {l : List Ac} {b : Ac} (h : CList w base l) (hb : Below w.heap.size w w') (hx : OwnA w' base b) (hn : ∀ g, b.oA = some ⟨g, 0, none⟩ → w.heap.size ≤ g) : CList w' base (l ++ [b]) := by
  refine ⟨fun x hx' => ?_, List.pairwise_append.2 ⟨h.2, by simp, fun x hx' y hy => ?_⟩⟩
  · rcases List.mem_append.1 hx' with q | q
    · exact (h.1 x q).st hb
    · simp at q; subst q; exact hx
  · simp at hy
    subst hy
    obtain ⟨g, hA, _, hg⟩ := (h.1 x hx').lt
    intro q
    rw [hA] at q
    have := hn g q.symm
    omega
theorem Own.maxc {α : Type} {e : Nat} {enc : α → List Value} {k : Nat} {w : World} {base : Nat} {A : Option Addr} {c : Nat} {l : List α} (h : Own e enc k w base A c l) : c ≤ 9223372036854775807 := by
  rcases h.2 with ⟨h1, h2⟩ | ⟨g, cap, cur, hv, _, _, _, hm, _⟩
  · injection h1 with p q r; rw [r]; omega
  · injection hv with p q r; rw [r]; unfold maxLen at hm; exact hm
theorem cut_get {cs l : List Ac} {k : Nat} (hk : cs.length = k) (hi : k < l.length) : (cs ++ l.drop k)[k]? = some l[k] := by
  rw [List.getElem?_append_right (by omega), hk, Nat.sub_self, List.getElem?_drop, Nat.add_zero, List.getElem?_eq_getElem hi]
theorem cut_set {cs l : List Ac} {k : Nat} (hk : cs.length = k) (hi : k < l.length) (b : Ac) : (cs ++ l.drop k).set k b = (cs ++ [b]) ++ l.drop (k + 1) := by
  rw [List.set_append_right _ _ (by omega), hk, Nat.sub_self, List.drop_eq_getElem_cons hi, List.set_cons_zero, List.append_assoc]
  rfl

set_option maxRecDepth 100000 in
set_option maxHeartbeats 8000000 in
theorem cloneall_any {A : Option Addr} (c : Nat) {l : List Ac} {w : World} (h : AL w A c l) (hsm : smL l) :
    Calls Try.prog 22 #[.slice A l.length c] w fun e w' => ∃ g cs, e = .returned (.slice (some ⟨g, 0, none⟩) cs.length cs.length) ∧ vals cs = vals l ∧ Own 39 encAc 9 w' w.heap.size (some ⟨g, 0, none⟩) cs.length cs ∧ CList w' (g + 1) cs ∧ Below w.heap.size w w' := by
  have H := Lib.hid h
  have hl1 : l.length ≤ 1000 := hsm.1
  have CC := Lib.hid (fun (a : Ac) (ha : a ∈ l) (X : World) (hX : Below w.heap.size w X) => clone_any a (h.2.1.st hX a ha) (hsm.2 a ha).1)
  clear h hsm
  go_enter Try.func22, Try.ntmps22
  go_wp2_with (first | (refine wpList_make rfl (.tmp 7) (.tmp 7) tyAc encAc_ok rfl w.heap.size zeroAc (by kernel_rfl) .i64 .i64 l.length rfl rfl (by omega) (by omega) (Nat.le_refl _) ?_; intro w3 hown hb3 hs3; have RD := Lib.hid (H.out.st hb3)) | (refine wpList_copyAll rfl (.tmp 9) (.tmp 10) tyAc encAc_ok rfl rfl List.length_replicate.symm hown rfl rfl RD.out.1 List.length_replicate.symm ?_; intro w4 hown4 hbz hoz hs4; have bW4 := hbz _ _ (Nat.le_refl _) hb3))
  clear RD hbz hoz
  go_loopw [14] (fun i wr => ∃ (k : Nat) (cs : List Ac), k ≤ l.length ∧ cs.length = k ∧ i = .int .i64 k ∧ vals cs = vals (l.take k) ∧ Own 39 encAc 9 wr w.heap.size (some ⟨w.heap.size, 0, none⟩) l.length (cs ++ l.drop k) ∧ CList wr (w.heap.size + 1) cs ∧ Below w.heap.size w wr) (fun i _ => l.length - (RowKit.intOf i).toNat)
  case atStart => exact ⟨0, [], Nat.zero_le _, rfl, rfl, rfl, by simpa using hown4, CList.nil _ _, bW4⟩
  case round =>
    clear hown hb3 hs3 hown4 bW4 hs4
    obtain ⟨k, cs, hk, hcs, rfl, hv, hown, hcl, bW⟩ := hrel
    by_cases hi : k < l.length
    · obtain ⟨a, hx⟩ : ∃ a, l[k]? = some a := ⟨_, List.getElem?_eq_getElem hi⟩
      have hla : l[k] = a := (List.getElem?_eq_some_iff.1 hx).2
      have hget := cut_get hcs hi
      rw [hla] at hget
      have cell := fun (j : Nat) (u : Value) (q : (encAc a)[j]? = some u) => hown.cells encAc_ok rfl hget (j := j) (u := u) q
      have d0 : World.cell? wr ⟨w.heap.size, k * 9, none⟩ = some (.string a.v.name) := cell 0 _ rfl
      have d1 := cell 1 _ rfl
      have d2 := cell 2 _ rfl
      have d3 := cell 3 _ rfl
      have d4 := cell 4 _ rfl
      have d5 := cell 5 _ rfl
      have d6 := cell 6 _ rfl
      have d7 := cell 7 _ rfl
      have d8 := cell 8 _ rfl
      have CCa := Lib.hid (CC.out a (List.mem_of_getElem? hx))
      obtain ⟨Y2, hY2⟩ : ∃ Y, wr.alloc (.cells #[.string a.v.name, .string a.v.ag, .bool a.v.pre, .slice a.oA a.v.os.length a.oc, .int .i64 a.v.r0, .int .i64 a.v.r1, .int .i64 a.v.r2, .int .i64 a.v.r3, .bool a.v.ex] 39) = Y := ⟨_, rfl⟩
      have BX : Blk Y2 wr.heap.size #[.string a.v.name, .string a.v.ag, .bool a.v.pre, .slice a.oA a.v.os.length a.oc, .int .i64 a.v.r0, .int .i64 a.v.r1, .int .i64 a.v.r2, .int .i64 a.v.r3, .bool a.v.ex] 39 := by rw [← hY2]; exact Blk.new wr _ _
      have bY : Below wr.heap.size wr Y2 := by rw [← hY2]; exact (Below.refl _ wr).al _
      have hlt : w.heap.size < wr.heap.size := by
        rcases hown.form with ⟨q, _⟩ | ⟨g', q, h1, h2⟩
        · cases q
        · injection q with q; injection q with q; subst q; exact h2
      have HX := Lib.hid hx
      have HK := Lib.hid hi
      have k1 : (0 : Int) ≤ (k : Int) := by omega
      have k2 : (k : Int) < (l.length : Int) := by omega
      have hget2 := Lib.hid hget
      have HCS := Lib.hid hcs
      have HV := Lib.hid hv
      clear cell hx hla hget hi hcs hv
      go_wp2_with (first | (refine wpList_boxLoad rfl (ty := 39) (x := .tmp 5) (cs := #[.string a.v.name, .string a.v.ag, .bool a.v.pre, .slice a.oA a.v.os.length a.oc, .int .i64 a.v.r0, .int .i64 a.v.r1, .int .i64 a.v.r2, .int .i64 a.v.r3, .bool a.v.ex]) rfl BX rfl ⟨_, Try.underlying39, by kernel_rfl⟩ ?_))
      refine (CCa.out _ (bW.st bY)).mono ?_
      rintro e w5 ⟨g, rfl, ho, hbn⟩
      have hown5 := (hown.st bY).st hbn
      have hcl5 := (hcl.st bY).st hbn
      have b5 := bY.st hbn
      have bW5 := bW.st b5
      have hsz := bY.size
      have hbs := hbn.size
      clear hown bW CCa
      go_wp2_with (first | (refine wpList_ownEl (i := k) rfl (ty := 39) (x := .tmp 23) (y := .tmp 22) rfl (⟨a.v, some ⟨g, 0, none⟩, a.v.os.length⟩ : Ac) rfl rfl rfl (by kernel_rfl) encAc_ok hown5 rfl (by rw [List.length_append, List.length_drop, HCS.out]; have := HK.out; omega) ?_; intro w6 hown6 hbz hs6 hoz))
      have hset := cut_set HCS.out HK.out (⟨a.v, some ⟨g, 0, none⟩, a.v.os.length⟩ : Ac)
      rw [hset] at hown6
      have hog : OwnA w5 (w.heap.size + 1) (⟨a.v, some ⟨g, 0, none⟩, a.v.os.length⟩ : Ac) := ⟨g, rfl, ho.mono (by omega)⟩
      have hnew : ∀ g', (⟨a.v, some ⟨g, 0, none⟩, a.v.os.length⟩ : Ac).oA = some ⟨g', 0, none⟩ → wr.heap.size ≤ g' := by
        intro g' q
        injection q with q
        injection q with q
        subst q
        rcases ho.form with ⟨q, _⟩ | ⟨g', q, h1, h2⟩
        · cases q
        · injection q with q; injection q with q; subst q; omega
      have RC := (hcl.snoc b5 hog hnew).same (fun g hg => hoz g (by omega))
      have RV := Lib.hid (show vals (cs ++ [(⟨a.v, some ⟨g, 0, none⟩, a.v.os.length⟩ : Ac)]) = vals (l.take (k + 1)) by
        rw [take_snoc HX.out]; unfold vals at *; rw [List.map_append, List.map_append, HV.out]; rfl)
      clear hog hnew hset hown5 hcl5
      go_wp2
      go_roundw
      case rel => exact ⟨k + 1, cs ++ [⟨a.v, some ⟨g, 0, none⟩, a.v.os.length⟩], HK.out, by rw [List.length_append, HCS.out]; rfl, by go_num, RV.out, hown6, RC, hbz _ _ (Nat.le_refl _) bW5⟩
      case measure => have := HK.out; simp [RowKit.intOf]; omega
    · obtain rfl : k = l.length := by omega
      have HV := Lib.hid hv
      have HCS := Lib.hid hcs
      clear hv hcs
      go_wp2
      go_ret
      rw [List.take_length] at HV
      rw [List.drop_length, List.append_nil] at hown
      rw [← HCS.out] at hown ⊢
      exact ⟨_, cs, rfl, HV.out, hown, hcl, bW⟩
end Go.Proofs.Ytfdnciijibiodaa
