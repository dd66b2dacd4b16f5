/- account.Find and the reference's Find, walked. -/
import Derived.Test.YtfdnciijibiodaaAccCloneAll
import Derived.Test.YtfdnciijibiodaaAccIdx
namespace Go.Proofs.Ytfdnciijibiodaa
open Go.RowKit Go.Lib

theorem findA_idx {l : List Ac} {s : ByteArray} {i : Int} (h : IdxR (fun a : Ac => eqS a.v.name s) l i) :
    (i = -1 ∧ (vals l).find? (named s) = none) ∨ ∃ (k : Nat) (a : Ac), i = (k : Int) ∧ l[k]? = some a ∧ eqS a.v.name s = true ∧ (∀ y ∈ l.take k, eqS y.v.name s = false) ∧ (vals l).find? (named s) = some a.v := by
  have e : (vals l).find? (named s) = (l.find? fun a : Ac => eqS a.v.name s).map Ac.v := by
    unfold vals
    rw [List.find?_map]; rfl
  rcases h with ⟨h1, h2⟩ | ⟨k, a, hx, h1, hp, hn⟩
  · exact Or.inl ⟨h1, by rw [e, (IdxR.any_no h2).2]; rfl⟩
  · exact Or.inr ⟨k, a, h1, hx, hp, hn, by rw [e, (IdxR.any_at hx hp hn).2]; rfl⟩
/-- what Find hands back -/
def FindAR (l : List Ac) (s : ByteArray) (w w' : World) (e : Ending) : Prop :=
  ∃ b : Ac, e = .returned (.tuple #[AcV b, .bool ((vals l).find? (named s)).isSome]) ∧ b.v = ((vals l).find? (named s)).getD zeroA ∧ AOk w' b ∧ Below w.heap.size w w'

set_option maxRecDepth 100000 in
set_option maxHeartbeats 8000000 in
theorem find_any {A : Option Addr} (c : Nat) {l : List Ac} (s : ByteArray) {w : World} (h : AL w A c l) (hsm : smL l) :
    Calls Try.prog 16 #[.slice A l.length c, .string s] w fun e w' => FindAR l s w w' e := by
  have H := Lib.hid h
  have hl1 : l.length ≤ 1000 := hsm.1
  obtain ⟨Y, hY⟩ : ∃ Y, w.alloc (.cells #[.string ⟨#[]⟩, .string ⟨#[]⟩, .bool false, .slice none 0 0, .int .i64 0, .int .i64 0, .int .i64 0, .int .i64 0, .bool false] 39) = Y := ⟨_, rfl⟩
  have bW : Below w.heap.size w Y := by rw [← hY]; exact (Below.refl _ w).al _
  have BZ : Blk Y w.heap.size #[.string ⟨#[]⟩, .string ⟨#[]⟩, .bool false, .slice none 0 0, .int .i64 0, .int .i64 0, .int .i64 0, .int .i64 0, .bool false] 39 := by rw [← hY]; exact Blk.new w _ _
  have CI := Lib.hid (index_any c s (h.1.st bW) (by omega))
  have CC := Lib.hid (fun (a : Ac) (ha : a ∈ l) (X : World) (hX : Below w.heap.size w X) => clone_any a (h.2.1.st hX a ha) (hsm.2 a ha).1)
  clear h hsm
  unfold FindAR
  generalize hr : (vals l).find? (named s) = r
  have HR := Lib.hid hr
  clear hr
  have ltZ := BZ.lt
  go_enter Try.func16, Try.ntmps16
  go_wp2_with fail
  refine CI.out.mono ?_
  rintro e w2 ⟨⟨i, rfl, hI⟩, hbn⟩
  have bW := bW.st hbn
  have BZ := BZ.below hbn BZ.lt
  rcases findA_idx hI with ⟨rfl, hn⟩ | ⟨k, a, rfl, hx, hp, hno, hn⟩
  · have R := Lib.hid (HR.out.symm.trans hn)
    clear hI hn HR
    go_wp2_with (first | (refine wpList_boxBuild rfl (cells := #[.string ⟨#[]⟩, .string ⟨#[]⟩, .bool false, .slice none 0 0, .int .i64 0, .int .i64 0, .int .i64 0, .int .i64 0, .bool false]) rfl (by kernel_rfl) ?_) | (refine wpList_boxStore rfl (ty := 39) (x := .tmp 4) (y := .tmp 12) (cells := #[.string ⟨#[]⟩, .string ⟨#[]⟩, .bool false, .slice none 0 0, .int .i64 0, .int .i64 0, .int .i64 0, .int .i64 0, .bool false]) rfl BZ rfl rfl (by kernel_rfl) rfl (by kernel_rfl) ?_; intro w6 BZ6 hoz6 hbz6))
    refine bodyPost_ret (v := .tuple #[.agg #[.string ⟨#[]⟩, .string ⟨#[]⟩, .bool false, .slice none 0 0, .int .i64 0, .int .i64 0, .int .i64 0, .int .i64 0, .bool false], .bool false]) (results_box_tmp Try.results16 _ (.bool false) rfl rfl BZ6 ⟨_, Try.underlying39, by kernel_rfl⟩) rfl ?_
    rw [R.out]
    exact ⟨zeroAc, rfl, rfl, ⟨Rd.nil, Nat.le_refl _, by show 0 ≤ _; omega⟩, hbz6 _ _ (Nat.le_refl _) bW⟩
  · have R := Lib.hid (HR.out.symm.trans hn)
    have hk := (List.getElem?_eq_some_iff.1 hx).1
    have CCa := Lib.hid (CC.out a (List.mem_of_getElem? hx) w2 bW)
    obtain ⟨b, off, a', rfl, hb, hx', d0, d1, d2, d3, d4, d5, d6, d7, d8⟩ := (H.out.1.st bW).ac hk
    rw [hx] at hx'
    obtain rfl := Option.some.inj hx'
    have k0 : (0 : Int) ≤ (k : Int) := by omega
    have k1 : (k : Int) < (l.length : Int) := by omega
    clear hI hn HR hx hp hno hx'
    go_wp2_with fail
    refine CCa.out.mono ?_
    rintro e w3 ⟨g, rfl, ho, hbn3⟩
    have bW := bW.st hbn3
    have BZ := BZ.below hbn3 BZ.lt
    have hs := hbn.size
    go_wp2_with (first | (refine wpList_boxStore rfl (ty := 39) (x := .tmp 4) (y := .tmp 17) (cells := #[.string a.v.name, .string a.v.ag, .bool a.v.pre, .slice (some ⟨g, 0, none⟩) a.v.os.length a.v.os.length, .int .i64 a.v.r0, .int .i64 a.v.r1, .int .i64 a.v.r2, .int .i64 a.v.r3, .bool a.v.ex]) rfl BZ rfl rfl (by kernel_rfl) rfl (by kernel_rfl) ?_; intro w6 BZ6 hoz6 hbz6))
    refine bodyPost_ret (v := .tuple #[.agg #[.string a.v.name, .string a.v.ag, .bool a.v.pre, .slice (some ⟨g, 0, none⟩) a.v.os.length a.v.os.length, .int .i64 a.v.r0, .int .i64 a.v.r1, .int .i64 a.v.r2, .int .i64 a.v.r3, .bool a.v.ex], .bool true]) (results_box_tmp Try.results16 _ (.bool true) rfl rfl BZ6 ⟨_, Try.underlying39, by kernel_rfl⟩) rfl ?_
    rw [R.out]
    refine ⟨⟨a.v, some ⟨g, 0, none⟩, a.v.os.length⟩, rfl, rfl, OwnA.ok (base := w2.heap.size + 2) ⟨g, rfl, ho.same (fun g hg => hoz6 g (by omega))⟩, hbz6 _ _ (Nat.le_refl _) bW⟩

set_option maxRecDepth 100000 in
set_option maxHeartbeats 8000000 in
theorem rFind_any {A : Option Addr} (c : Nat) {l : List Ac} (s : ByteArray) {w : World} (h : AL w A c l) (hsm : smL l) :
    Calls Try.prog 17 #[.slice A l.length c, .string s] w fun e w' => FindAR l s w w' e := by
  have H := Lib.hid h
  have hl1 : l.length ≤ 1000 := hsm.1
  obtain ⟨Y, hY⟩ : ∃ Y, w.alloc (.cells #[.string ⟨#[]⟩, .string ⟨#[]⟩, .bool false, .slice none 0 0, .int .i64 0, .int .i64 0, .int .i64 0, .int .i64 0, .bool false] 39) = Y := ⟨_, rfl⟩
  have bW : Below w.heap.size w Y := by rw [← hY]; exact (Below.refl _ w).al _
  have BZ : Blk Y w.heap.size #[.string ⟨#[]⟩, .string ⟨#[]⟩, .bool false, .slice none 0 0, .int .i64 0, .int .i64 0, .int .i64 0, .int .i64 0, .bool false] 39 := by rw [← hY]; exact Blk.new w _ _
  have CI := Lib.hid (rfind_any c s (h.1.st bW) (by omega))
  clear h hsm
  unfold FindAR
  generalize hr : (vals l).find? (named s) = r
  have HR := Lib.hid hr
  clear hr
  have ltZ := BZ.lt
  go_enter Try.func17, Try.ntmps17
  go_wp2_with fail
  refine CI.out.mono ?_
  rintro e w2 ⟨⟨i, rfl, hI⟩, rfl⟩
  rcases findA_idx hI with ⟨rfl, hn⟩ | ⟨k, a, rfl, hx, hp, hno, hn⟩
  · have R := Lib.hid (HR.out.symm.trans hn)
    clear hI hn HR
    go_wp2_with (first | (refine wpList_boxBuild rfl (cells := #[.string ⟨#[]⟩, .string ⟨#[]⟩, .bool false, .slice none 0 0, .int .i64 0, .int .i64 0, .int .i64 0, .int .i64 0, .bool false]) rfl (by kernel_rfl) ?_) | (refine wpList_boxStore rfl (ty := 39) (x := .tmp 4) (y := .tmp 12) (cells := #[.string ⟨#[]⟩, .string ⟨#[]⟩, .bool false, .slice none 0 0, .int .i64 0, .int .i64 0, .int .i64 0, .int .i64 0, .bool false]) rfl BZ rfl rfl (by kernel_rfl) rfl (by kernel_rfl) ?_; intro w6 BZ6 hoz6 hbz6))
    refine bodyPost_ret (v := .tuple #[.agg #[.string ⟨#[]⟩, .string ⟨#[]⟩, .bool false, .slice none 0 0, .int .i64 0, .int .i64 0, .int .i64 0, .int .i64 0, .bool false], .bool false]) (results_box_tmp Try.results17 _ (.bool false) rfl rfl BZ6 ⟨_, Try.underlying39, by kernel_rfl⟩) rfl ?_
    rw [R.out]
    exact ⟨zeroAc, rfl, rfl, ⟨Rd.nil, Nat.le_refl _, by show 0 ≤ _; omega⟩, hbz6 _ _ (Nat.le_refl _) bW⟩
  · have R := Lib.hid (HR.out.symm.trans hn)
    have hk := (List.getElem?_eq_some_iff.1 hx).1
    have hok := H.out.2.1 a (List.mem_of_getElem? hx)
    obtain ⟨b, off, a', rfl, hb, hx', d0, d1, d2, d3, d4, d5, d6, d7, d8⟩ := (H.out.1.st bW).ac hk
    rw [hx] at hx'
    obtain rfl := Option.some.inj hx'
    have k0 : (0 : Int) ≤ (k : Int) := by omega
    have k1 : (k : Int) < (l.length : Int) := by omega
    clear hI hn HR hx hp hno hx'
    go_wp2_with (first | (refine wpList_boxStore rfl (ty := 39) (x := .tmp 4) (y := .tmp 16) (cells := #[.string a.v.name, .string a.v.ag, .bool a.v.pre, .slice a.oA a.v.os.length a.oc, .int .i64 a.v.r0, .int .i64 a.v.r1, .int .i64 a.v.r2, .int .i64 a.v.r3, .bool a.v.ex]) rfl BZ rfl rfl (by kernel_rfl) rfl (by kernel_rfl) ?_; intro w6 BZ6 hoz6 hbz6))
    refine bodyPost_ret (v := .tuple #[.agg #[.string a.v.name, .string a.v.ag, .bool a.v.pre, .slice a.oA a.v.os.length a.oc, .int .i64 a.v.r0, .int .i64 a.v.r1, .int .i64 a.v.r2, .int .i64 a.v.r3, .bool a.v.ex], .bool true]) (results_box_tmp Try.results17 _ (.bool true) rfl rfl BZ6 ⟨_, Try.underlying39, by kernel_rfl⟩) rfl ?_
    rw [R.out]
    have bW6 := hbz6 _ _ (Nat.le_refl _) bW
    exact ⟨a, rfl, rfl, hok.st bW6, bW6⟩
end Go.Proofs.Ytfdnciijibiodaa
