/- account.Owner, walked. -/
import Derived.Test.YtfdnciijibiodaaAccOwns
namespace Go.Proofs.Ytfdnciijibiodaa
open Go.RowKit Go.Lib

theorem find_at {α : Type} {p : α → Bool} {l : List α} {k : Nat} {x : α} (hx : l[k]? = some x) (hp : p x = true) (h : ∀ y ∈ l.take k, p y = false) : l.find? p = some x := (IdxR.any_at hx hp h).2
theorem owner_at {l : List Ac} {k : Nat} {a : Ac} {v : ByteArray} {t : Int} (hx : l[k]? = some a) (hp : ownA v t a.v = true) (h : ∀ y ∈ l.take k, ownA v t y.v = false) : ownerN (vals l) v t = a.v.name ∧ ownerB (vals l) v t = true := by
  have h1 : (vals l).find? (ownA v t) = some a.v := by
    refine find_at (k := k) (by unfold vals; rw [List.getElem?_map, hx]; rfl) hp fun y hy => ?_
    unfold vals at hy
    rw [← List.map_take, List.mem_map] at hy
    obtain ⟨z, hz, rfl⟩ := hy
    exact h z hz
  refine ⟨by unfold ownerN; rw [h1], ?_⟩
  unfold ownerB
  exact List.any_eq_true.2 ⟨a.v, List.mem_of_find?_eq_some h1, hp⟩
theorem owner_none {l : List Ac} {v : ByteArray} {t : Int} (h : ∀ y ∈ l.take l.length, ownA v t y.v = false) : ownerN (vals l) v t = ⟨#[]⟩ ∧ ownerB (vals l) v t = false := by
  rw [List.take_length] at h
  have hh : ∀ y ∈ vals l, ownA v t y = false := fun y hy => by
    unfold vals at hy
    rw [List.mem_map] at hy
    obtain ⟨z, hz, rfl⟩ := hy
    exact h z hz
  refine ⟨?_, ?_⟩
  · unfold ownerN
    rw [List.find?_eq_none.2 fun y hy => by rw [hh y hy]; simp]
  · unfold ownerB
    rw [List.any_eq_false]
    intro y hy
    rw [hh y hy]; simp
theorem ownA_idx {a : Ac} {v : ByteArray} {t : Int} {i : Int} (h : IdxR (ownsB v t) a.v.os i) : (ownA v t a.v = false ∧ i = -1) ∨ (ownA v t a.v = true ∧ ∃ k : Nat, i = (k : Int)) := by
  rcases h with ⟨h1, h2⟩ | ⟨k, x, hx, h1, hp, hn⟩
  · exact Or.inl ⟨(IdxR.any_no h2).1, h1⟩
  · exact Or.inr ⟨(IdxR.any_at hx hp hn).1, k, h1⟩

set_option maxRecDepth 100000 in
set_option maxHeartbeats 8000000 in
theorem owner_any {A : Option Addr} (c : Nat) {l : List Ac} (v : ByteArray) (t : Int) {w : World} (h : AL w A c l) (hsm : smL l) :
    Calls Try.prog 13 #[.slice A l.length c, .string v, .int .i64 t] w fun e w' => e = .returned (.tuple #[.string (ownerN (vals l) v t), .bool (ownerB (vals l) v t)]) ∧ Below w.heap.size w w' := by
  have H := Lib.hid h
  have CO := Lib.hid (fun (a : Ac) (ha : a ∈ l) (X : World) (hX : Below w.heap.size w X) => owned_any a.oc v t (h.2.1.st hX a ha).1 (by have := (hsm.2 a ha).1; omega))
  have HAT := Lib.hid (fun (k : Nat) (a : Ac) (hx : l[k]? = some a) q1 q2 => owner_at (v := v) (t := t) hx q1 q2)
  have HNO := Lib.hid (owner_none (l := l) (v := v) (t := t))
  have hlen : l.length ≤ 1000 := hsm.1
  generalize ownerN (vals l) v t = rn at *
  generalize ownerB (vals l) v t = rb at *
  clear h hsm
  go_enter Try.func13, Try.ntmps13
  go_wp2
  go_loopw [12] (fun i wr => ∃ k : Nat, k ≤ l.length ∧ i = .int .i64 k ∧ Hid (∀ y ∈ l.take k, ownA v t y.v = false) ∧ Below w.heap.size w wr) (fun i _ => l.length - (RowKit.intOf i).toNat)
  case atStart => exact ⟨0, Nat.zero_le _, rfl, (by unfold Hid; simp), Below.refl _ _⟩
  case round =>
    obtain ⟨k, hk, rfl, HN, bW⟩ := hrel
    by_cases hi : k < l.length
    · obtain ⟨b, off, a, rfl, hb, hx, d0, d1, d2, d3, d4, d5, d6, d7, d8⟩ := (H.out.1.st bW).ac hi
      obtain ⟨Y2, hY2⟩ : ∃ Y, wr.alloc (.cells #[.string a.v.name, .string a.v.ag, .bool a.v.pre, .slice a.oA a.v.os.length a.oc, .int .i64 a.v.r0, .int .i64 a.v.r1, .int .i64 a.v.r2, .int .i64 a.v.r3, .bool a.v.ex] 39) = Y := ⟨_, rfl⟩
      have BX : Blk Y2 wr.heap.size #[.string a.v.name, .string a.v.ag, .bool a.v.pre, .slice a.oA a.v.os.length a.oc, .int .i64 a.v.r0, .int .i64 a.v.r1, .int .i64 a.v.r2, .int .i64 a.v.r3, .bool a.v.ex] 39 := by rw [← hY2]; exact Blk.new wr _ _
      have bW2 : Below w.heap.size w Y2 := by rw [← hY2]; exact bW.al _
      have x3 : World.cell? Y2 ⟨wr.heap.size, 3, none⟩ = some (.slice a.oA a.v.os.length a.oc) := BX.cell 3 rfl
      have HK := Lib.hid hi
      have HX := Lib.hid hx
      have COa := Lib.hid (CO.out a (List.mem_of_getElem? hx) Y2 bW2)
      clear hx hi
      go_wp2_with fail
      refine COa.out.mono ?_
      rintro e w5 ⟨⟨i, rfl, hI⟩, hbn⟩
      have bW5 := bW2.st hbn
      have B5 := BX.below hbn BX.lt
      have y0 : World.cell? w5 ⟨wr.heap.size, 0, none⟩ = some (.string a.v.name) := B5.cell 0 rfl
      rcases ownA_idx hI with ⟨hq, rfl⟩ | ⟨hq, j, rfl⟩
      · have R := Lib.hid (all_succ' (p := fun y : Ac => ownA v t y.v) HX.out HN.out hq)
        clear hq hI
        go_wp2_with fail
        go_roundw
        case rel => exact ⟨k + 1, HK.out, by go_num, R, bW5⟩
        case measure => have := HK.out; simp [RowKit.intOf]; omega
      · have R := Lib.hid (HAT.out k a HX.out hq HN.out)
        have j0 : (0 : Int) ≤ (j : Int) := by omega
        clear hq hI
        go_wp2_with fail
        go_ret2
        obtain ⟨rfl, rfl⟩ := R.out
        exact ⟨rfl, bW5⟩
    · obtain rfl : k = l.length := by omega
      have R := Lib.hid (HNO.out HN.out)
      go_wp2
      go_ret2
      obtain ⟨rfl, rfl⟩ := R.out
      exact ⟨rfl, bW⟩
end Go.Proofs.Ytfdnciijibiodaa
