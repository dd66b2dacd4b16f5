/- permit.Covered and the law's within, walked. -/
import Derived.Test.YtbeoopofckbijaaPerAllow
namespace Go.Proofs.Ytbeoopofckbijaa
open Go.RowKit Go.Lib

/-- the times of an interval at which a permit of the zone is valid -/
def Co (l : List Pm) (s zn : ByteArray) (i : Iv) (t : Int) : Prop := ∃ p ∈ l, eqS p.zone zn = true ∧ Pa p s i t
theorem co_yes {l : List Pm} {s zn : ByteArray} {i : Iv} {k : Nat} {p : Pm} (hx : l[k]? = some p) (h : eqS p.zone zn = true) (t : Int) : (Co (l.take k) s zn i t ∨ Pa p s i t) ↔ Co (l.take (k + 1)) s zn i t := by
  unfold Co
  rw [take_snoc hx]
  simp only [List.mem_append, List.mem_singleton]
  constructor
  · rintro (⟨y, h1, h2⟩ | h2)
    · exact ⟨y, .inl h1, h2⟩
    · exact ⟨p, .inr rfl, h, h2⟩
  · rintro ⟨y, h1 | rfl, h2⟩
    · exact .inl ⟨y, h1, h2⟩
    · exact .inr h2.2
theorem co_no {l : List Pm} {s zn : ByteArray} {i : Iv} {k : Nat} {p : Pm} (hx : l[k]? = some p) (h : eqS p.zone zn = false) (t : Int) : Co (l.take k) s zn i t ↔ Co (l.take (k + 1)) s zn i t := by
  unfold Co
  rw [take_snoc hx]
  simp only [List.mem_append, List.mem_singleton]
  constructor
  · rintro ⟨y, h1, h2⟩
    exact ⟨y, .inl h1, h2⟩
  · rintro ⟨y, h1 | rfl, h2⟩
    · exact ⟨y, h1, h2⟩
    · rw [h] at h2; cases h2.1

set_option maxRecDepth 100000 in
set_option maxHeartbeats 8000000 in
theorem covered_any {A : Option Addr} (c : Nat) {l : List Pm} (s zn : ByteArray) (f u : Int) (hs0 : s.size ≤ 1000000) {w : World} (h : Rd encPm 7 w w.heap.size A l) (ho : PsOk w l) (hll : l.length ≤ 1000000) (hl : ∀ p ∈ l, p.ps.length ≤ 100000)
    (h0 : 0 ≤ f) (h1 : f < u) (h2 : u ≤ 68719476736) (h3 : (u - 1) / 86400 - f / 86400 + 1 ≤ 366) :
    Calls Try.prog 9 #[.slice A l.length c, .string s, .string zn, .agg #[.int .i64 f, .int .i64 u]] w fun e w' => AllR (Co l s zn (f, u)) w w' e := by
  have CS := Lib.hid (fun (x y z : Int) (X : World) => spans_any x y z f u (w := X) h0 h1 h2 h3)
  have CA := Lib.hid (fun (p : Pm) (hp : p ∈ l) (X : World) (hX : Below w.heap.size w X) => allowed_any p s f u hs0 ((ho p hp).st hX) (hl p hp) h0 h1 h2 h3)
  have CU := Lib.hid (fun (A B : Option Addr) (c d : Nat) (a b : List Iv) (X : World) (ha : Rd encIv 2 X X.heap.size A a) (hb : Rd encIv 2 X X.heap.size B b) (na : NF a) (nb : NF b) => union_any c d ha hb (by have := na.length_max; omega) (by have := nb.length_max; omega))
  have HL := Lib.hid (show ∀ t, Co (l.take l.length) s zn (f, u) t ↔ Co l s zn (f, u) t by rw [List.take_length]; exact fun _ => Iff.rfl)
  have HY := Lib.hid (fun (k : Nat) (p : Pm) (q : l[k]? = some p) q1 (t : Int) => co_yes (s := s) (zn := zn) (i := (f, u)) q q1 t)
  have HN := Lib.hid (fun (k : Nat) (p : Pm) (q : l[k]? = some p) q1 (t : Int) => co_no (s := s) (zn := zn) (i := (f, u)) q q1 t)
  clear h0 h1 h2 h3 ho hl
  obtain ⟨Y, hY⟩ : ∃ Y, w.alloc (.cells #[.int .i64 f, .int .i64 u] 26) = Y := ⟨_, rfl⟩
  have BI : Blk Y w.heap.size #[.int .i64 f, .int .i64 u] 26 := by rw [← hY]; exact Blk.new w _ _
  have bW : Below w.heap.size w Y := by rw [← hY]; exact (Below.refl _ w).al _
  have i0 := BI.cell 0 (v := .int .i64 f) rfl; have i1 := BI.cell 1 (v := .int .i64 u) rfl
  go_enter Try.func9, Try.ntmps9
  go_wp2_with fail
  refine (CS.out _ _ _ _).mono ?_
  rintro e wn ⟨A0, c0, n0, rfl, -, -, -, -, hbn⟩
  have bW := bW.st hbn
  have BI := BI.below hbn BI.lt
  have BI0 := Lib.hid BI
  have b0 := Lib.hid (Below.refl wn.heap.size wn)
  clear i0 i1 BI hY hbn
  go_wp2_with fail
  go_loopw [12, 28] (fun o i wr => ∃ (k : Nat) (A : Option Addr) (c : Nat) (n : List Iv), k ≤ l.length ∧ o = .slice A n.length c ∧ i = .int .i64 k ∧ Hid (NF n) ∧ Hid (∀ t, Mem n t ↔ Co (l.take k) s zn (f, u) t) ∧ Rd encIv 2 wr wr.heap.size A n ∧ Below wn.heap.size wn wr) (fun _ i _ => l.length - (RowKit.intOf i).toNat)
  case atStart => exact ⟨0, none, 0, [], Nat.zero_le _, rfl, rfl, Lib.hid NF.nil, (by unfold Hid Co; simp [Mem.nil]), Rd.nil, b0.out⟩
  case round =>
    obtain ⟨k, A5, c5, n5, hk, rfl, rfl, HN5, HM5, HR5, hb5⟩ := hrel
    by_cases hi : k < l.length
    · obtain ⟨b, off, p, hA1, hb, hx, d0, d1, d2, d3, d4, d5, d6⟩ := (h.st (bW.st hb5)).pm hi
      have HK := Lib.hid hi
      have CAp := Lib.hid (CA.out p (List.mem_of_getElem? hx))
      have HYp := Lib.hid (HY.out k p hx)
      have HNp := Lib.hid (HN.out k p hx)
      subst hA1
      obtain ⟨nm, zo, pA, pc, ps, v0, v1, hA, hc, hs2, mo⟩ := p
      simp only [PmV] at *
      obtain ⟨hs, rfl⟩ : ∃ hs, hs = hs2 := ⟨_, rfl⟩
      have BI := BI0.out.below hb5 BI0.out.lt
      obtain ⟨Y5, hY5⟩ : ∃ Y, wr.alloc (.cells #[.string nm, .string zo, .slice pA ps.length pc, .int .i64 v0, .int .i64 v1, .slice hA hs.length hc, .int .i64 mo] 31) = Y := ⟨_, rfl⟩
      have BP : Blk Y5 wr.heap.size #[.string nm, .string zo, .slice pA ps.length pc, .int .i64 v0, .int .i64 v1, .slice hA hs.length hc, .int .i64 mo] 31 := by rw [← hY5]; exact Blk.new _ _ _
      have hbn : Below wr.heap.size wr Y5 := by rw [← hY5]; exact (Below.refl _ _).al _
      have BI := BI.below hbn BI.lt
      have HR5 := HR5.st hbn
      have bW5 := hb5.st hbn
      have p0 := BP.cell 0 (v := .string nm) rfl
      have p1 := BP.cell 1 (v := .string zo) rfl
      have p2 := BP.cell 2 (v := .slice pA ps.length pc) rfl
      have p3 := BP.cell 3 (v := .int .i64 v0) rfl
      have p4 := BP.cell 4 (v := .int .i64 v1) rfl
      have p5 := BP.cell 5 (v := .slice hA hs.length hc) rfl
      have p6 := BP.cell 6 (v := .int .i64 mo) rfl
      have i0 := BI.cell 0 (v := .int .i64 f) rfl; have i1 := BI.cell 1 (v := .int .i64 u) rfl
      have bWY := Lib.hid (bW.st bW5)
      clear hx hi hbn hb5 BP
      cases hz : eqS zo zn
      · have hz2 : (zo.toList == zn.toList) = false := hz
        have R := Lib.hid (HNp.out hz)
        clear hz HNp HYp CAp
        go_wp2_with fail
        go_roundw
        case rel => exact ⟨k + 1, A5, c5, n5, HK.out, rfl, by go_num, HN5, Lib.hid (fun t => (HM5.out t).trans (R.out t)), HR5, bW5⟩
        case measure => have := HK.out; simp [RowKit.intOf]; omega
      · have hz2 : (zo.toList == zn.toList) = true := hz
        have R := Lib.hid (HYp.out hz)
        clear hz HNp HYp
        go_wp2_with fail
        refine (CAp.out _ bWY.out).mono ?_
        rintro e w6 ⟨A6, c6, n6, rfl, nf6, hm6, HR6, hbn⟩
        have HN6 := Lib.hid nf6
        have HM6 := Lib.hid hm6
        have HR5 := HR5.st hbn
        have bW6 := bW5.st hbn
        clear nf6 hm6 bW5 hbn
        go_wp2_with fail
        refine (CU.out _ _ c5 c6 _ _ _ HR5 HR6 HN5.out HN6.out).mono ?_
        rintro e w7 ⟨A7, c7, n7, rfl, nf7, hm7, ho7, hbn⟩
        have HN7 := Lib.hid nf7
        have HM7 := Lib.hid hm7
        have HR7 := ho7.rd encIv_ok
        have bW7 := bW6.st hbn
        clear nf7 hm7 ho7 bW6 hbn
        go_wp2_with fail
        go_roundw
        case rel => exact ⟨k + 1, A7, c7, n7, HK.out, rfl, by go_num, HN7, Lib.hid (fun t => (HM7.out t).trans (Iff.trans (or_congr (HM5.out t) (HM6.out t)) (R.out t))), HR7, bW7⟩
        case measure => have := HK.out; simp [RowKit.intOf]; omega
    · obtain rfl : k = l.length := by omega
      have bW7 := bW.st hb5
      go_wp2_with fail
      go_ret2
      exact ⟨A5, c5, n5, rfl, HN5.out, fun t => (HM5.out t).trans (HL.out t), HR5, bW7⟩
end Go.Proofs.Ytbeoopofckbijaa
