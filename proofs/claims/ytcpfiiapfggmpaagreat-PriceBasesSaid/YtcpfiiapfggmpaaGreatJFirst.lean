/- Joined texts: First, Iv, More, Blk. -/
import Derived.WalkKit
import Derived.Test.YtcpfiiapfggmpaaGreatProg
import Derived.Test.YtcpfiiapfggmpaaGreatBase
import Derived.Test.YtcpfiiapfggmpaaGreatSpanMath
import Derived.Outline
import Derived.RangeFuncNested
import Derived.Laws.Rows
import Derived.RangeFuncBound
import Derived.RangeFuncCalls
import Derived.RangeFuncLeaves
import Derived.RangeFuncFrom
import Derived.RangeFuncBox
/- Lists, element by element; the first error. No program in sight. -/
namespace Go.Proofs.YtcpfiiapfggmpaaGreat

theorem take_snoc {α : Type} {l : List α} {k : Nat} {x : α} (h : l[k]? = some x) : l.take (k + 1) = l.take k ++ [x] := by
  rw [List.take_add_one, h]; rfl
theorem all_succ' {α : Type} {p : α → Bool} {l : List α} {k : Nat} {x : α} (hx : l[k]? = some x) (h : ∀ y ∈ l.take k, p y = false) (hp : p x = false) : ∀ y ∈ l.take (k + 1), p y = false := by
  intro y hy
  rw [take_snoc hx, List.mem_append] at hy
  rcases hy with hy | hy
  · exact h y hy
  · simp at hy; subst hy; exact hp
theorem all_succ {α : Type} {p : α → Bool} {l : List α} {k : Nat} {x : α} (hx : l[k]? = some x) (h : ∀ y ∈ l.take k, p y = true) (hp : p x = true) : ∀ y ∈ l.take (k + 1), p y = true := by
  intro y hy
  rw [take_snoc hx, List.mem_append] at hy
  rcases hy with hy | hy
  · exact h y hy
  · simp at hy; subst hy; exact hp
theorem all_yes {α : Type} {p : α → Bool} {l : List α} (h : ∀ y ∈ l.take l.length, p y = true) : l.all p = true := by
  rw [List.take_length] at h
  exact List.all_eq_true.2 h
theorem all_no {α : Type} {p : α → Bool} {l : List α} {k : Nat} {x : α} (hx : l[k]? = some x) (hp : p x = false) : l.all p = false := by
  cases h : l.all p
  · rfl
  · have := List.all_eq_true.1 h x (List.mem_of_getElem? hx)
    rw [hp] at this; cases this

def firstE (f : Nat → Int) (n : Nat) : Int := (((List.range n).map f).find? fun e => decide (e ≠ 0)).getD 0
theorem firstE_none {f : Nat → Int} {n : Nat} (h : ∀ j, j < n → f j = 0) : firstE f n = 0 := by
  unfold firstE
  rw [List.find?_eq_none.2]
  · rfl
  · intro e he
    simp only [List.mem_map, List.mem_range] at he
    obtain ⟨j, hj, rfl⟩ := he
    simp [h j hj]
theorem firstE_some {f : Nat → Int} {n k : Nat} (h : ∀ j, j < k → f j = 0) (hk : k < n) (hne : f k ≠ 0) : firstE f n = f k := by
  have key : ∀ (m : Nat), k < m → (((List.range m).map f).find? fun e => decide (e ≠ 0)) = some (f k) := by
    intro m
    induction m with
    | zero => intro hm; omega
    | succ m ih =>
      intro hm
      rw [List.range_succ, List.map_append, List.find?_append]
      rcases (by omega : k < m ∨ k = m) with e | rfl
      · rw [ih e]; rfl
      · rw [List.find?_eq_none.2]
        · simp [hne]
        · intro e he
          simp only [List.mem_map, List.mem_range] at he
          obtain ⟨j, hj, rfl⟩ := he
          simp [h j hj]
  unfold firstE
  rw [key n hk]
  rfl
theorem firstE_up {f : Nat → Int} {k : Nat} (h : ∀ j, j < k → f j = 0) (hk : f k = 0) : ∀ j, j < k + 1 → f j = 0 := fun j hj => by
  rcases (by omega : j < k ∨ j = k) with q | rfl
  · exact h j q
  · exact hk
theorem take_get {α : Type} {l : List α} {i k : Nat} {x : α} (h : l[k]? = some x) (hk : k < i) : (l.take i)[k]? = some x := by
  rw [List.getElem?_take_of_lt hk]; exact h
end Go.Proofs.YtcpfiiapfggmpaaGreat
/- Intervals as elements of slices. -/
namespace Go.Proofs.YtcpfiiapfggmpaaGreat
open Go.RowKit Go.Lib

def encIv (x : Iv) : List Value := [.int .i64 x.1, .int .i64 x.2]
theorem encIv_ok : Enc encIv 2 := ⟨fun _ => rfl, fun x u hu => by simp [encIv] at hu; rcases hu with rfl | rfl <;> rfl⟩
theorem tyIv : TyS Tryz.prog 62 59 2 16 := TyS.mk' (z := .agg #[.int .i64 0, .int .i64 0]) Tryz.underlying62 (by kernel_rfl) rfl (by omega)
theorem Rd.iv {w : World} {B : Nat} {A : Option Addr} {l : List Iv} (h : Rd encIv 2 w B A l) {i : Nat} (hi : i < l.length) :
    ∃ b off f t, A = some ⟨b, off, none⟩ ∧ b < B ∧ l[i]? = some (f, t) ∧ w.cell? ⟨b, off + i * 2, none⟩ = some (.int .i64 f) ∧ w.cell? ⟨b, off + i * 2 + 1, none⟩ = some (.int .i64 t) := by
  obtain ⟨b, off, ⟨f, t⟩, hA, hb, hx, hc⟩ := h.at_ hi
  exact ⟨b, off, f, t, hA, hb, hx, hc 0 _ rfl, hc 1 _ rfl⟩
end Go.Proofs.YtcpfiiapfggmpaaGreat
/- More words on own slices and on what lies below. -/
namespace Go.Proofs.YtcpfiiapfggmpaaGreat
open Go.RowKit Go.Lib

theorem Own.st {α : Type} {e : Nat} {enc : α → List Value} {k : Nat} {w w' : World} {base : Nat} {A : Option Addr} {c : Nat} {l : List α} (h : Own e enc k w base A c l) (hb : Below w.heap.size w w') : Own e enc k w' base A c l := h.keep hb (Nat.le_refl _)
theorem _root_.Go.RowKit.Below.st {a b c : World} (h : Below a.heap.size a b) (k : Below b.heap.size b c) : Below a.heap.size a c := h.trans (k.mono h.size)
theorem Own.cap {α : Type} {e : Nat} {enc : α → List Value} {k : Nat} {w : World} {base : Nat} {A : Option Addr} {c : Nat} {l : List α} (h : Own e enc k w base A c l) : l.length ≤ c := by
  rcases h.2 with ⟨h1, h2⟩ | ⟨g, cap, cur, hv, _, _, hn, _⟩
  · rw [h2]; exact Nat.zero_le _
  · injection hv with p q r
    rw [r]; exact hn

end Go.Proofs.YtcpfiiapfggmpaaGreat
/- Blocks of cells, whole; own slices across stores elsewhere and across the book-keeping of a range over a function. -/
namespace Go.Proofs.YtcpfiiapfggmpaaGreat
open Go.RowKit Go.Lib

theorem Own.same {α : Type} {e : Nat} {enc : α → List Value} {k : Nat} {w w' : World} {base : Nat} {A : Option Addr} {c : Nat} {l : List α} (h : Own e enc k w base A c l) (hk : ∀ g, base ≤ g → w'.heap[g]? = w.heap[g]?) : Own e enc k w' base A c l := by
  refine ⟨h.1, ?_⟩
  rcases h.2 with h2 | ⟨g, cap, cur, hv, hg, hh, r⟩
  · exact .inl h2
  · exact .inr ⟨g, cap, cur, hv, hg, by rw [hk g hg]; exact hh, r⟩
theorem Own.other {α : Type} {e : Nat} {enc : α → List Value} {k : Nat} {w : World} {base : Nat} {A : Option Addr} {c : Nat} {l : List α} (h : Own e enc k w base A c l) {p : Addr} (hp : p.block < base) (v : Value) : Own e enc k (w.setCell p v) base A c l :=
  h.same fun g hg => Below.heap_setCell w p v g (by omega)

/-- a block of cells, whole -/
def Blk (W : World) (B : Nat) (cs : Array Value) (t : TypeId) : Prop := W.heap[B]? = some (.cells cs t (0, 0))
theorem Blk.lt {W : World} {B : Nat} {cs : Array Value} {t : TypeId} (h : Blk W B cs t) : B < W.heap.size := (Array.getElem?_eq_some_iff.1 h).1
theorem Blk.cell {W : World} {B : Nat} {cs : Array Value} {t : TypeId} (h : Blk W B cs t) (j : Nat) {v : Value} (hv : cs[j]? = some v) : W.cell? ⟨B, j, none⟩ = some v := by
  rw [cell_of_row _ _ _ cs t (0, 0) h]; exact hv
theorem Blk.frozen {W : World} {B : Nat} {cs : Array Value} {t : TypeId} (h : Blk W B cs t) (j : Nat) : W.frozen? ⟨B, j, none⟩ = false := frozen_of_row W B j cs t h
theorem Blk.set {W : World} {B : Nat} {cs : Array Value} {t : TypeId} (h : Blk W B cs t) (j : Nat) (v : Value) : Blk (W.setCell ⟨B, j, none⟩ v) B (cs.setIfInBounds j v) t := heap_setCell_same W B j cs t v h
theorem Blk.new (W : World) (cs : Array Value) (t : TypeId) : Blk (W.alloc (.cells cs t)) W.heap.size cs t := World.alloc_heap_new W _
theorem Blk.below {W W' : World} {B B' : Nat} {cs : Array Value} {t : TypeId} (h : Blk W B cs t) (hb : Below B' W W') (hB : B < B') : Blk W' B cs t := (hb.block B hB).trans h
theorem Blk.alloc {W : World} {B : Nat} {cs : Array Value} {t : TypeId} (h : Blk W B cs t) (o : Obj) : Blk (W.alloc o) B cs t := (World.grownBy_alloc W o none).block B h.lt (by simp) |>.trans h
theorem Blk.drew {W : World} {B : Nat} {cs : Array Value} {t : TypeId} (h : Blk W B cs t) : Blk W.drew B cs t := h
theorem blk_own {β : Type} (B : Nat) (cs : β → Array Value) (t : TypeId) : Go.Own (fun s W => Blk W B (cs s) t) := by
  intro s X Y row hs hg hr
  refine (hg.block B (Blk.lt hs) fun e => ?_).trans hs
  obtain ⟨o, ho, hc⟩ := hr B e.symm
  rw [show X.heap[B]? = _ from hs] at ho
  cases ho
  cases hc
theorem keepsFrom_below {B : Nat} {W W' : World} (h : Below W.heap.size W W') : KeepsFrom B W W' := ⟨h.size, fun k o _ hk _ => (h.block k (Array.getElem?_eq_some_iff.1 hk).1).trans hk⟩
theorem Blk.other {W : World} {B : Nat} {cs : Array Value} {t : TypeId} (h : Blk W B cs t) {p : Addr} (hp : B ≠ p.block) (v : Value) : Blk (W.setCell p v) B cs t := (Below.heap_setCell W p v B hp).trans h

theorem _root_.Go.Boxed.below {W W' : World} {B B' : Nat} {t : TypeId} {v : Value} (h : Boxed W B t v) (hb : Below B' W W') (hB : B < B') : Boxed W' B t v := (hb.block B hB).trans h

theorem own_kept {α : Type} {e : Nat} {enc : α → List Value} {k : Nat} {base : Nat} {A : Option Addr} {c : Nat} {l : List α} {X Y : World} {row : Option Nat} (h : Own e enc k X base A c l) (hg : X.grownBy Y row)
    (hr : ∀ r, row = some r → ∃ o : Obj, X.heap[r]? = some o ∧ o.isCells = false) : Own e enc k Y base A c l := by
  refine ⟨h.1, ?_⟩
  rcases h.2 with h2 | ⟨g, cap, cur, hv, hb, hh, r⟩
  · exact .inl h2
  · refine .inr ⟨g, cap, cur, hv, hb, ?_, r⟩
    rw [hg.block g (Array.getElem?_eq_some_iff.1 hh).1 fun e' => ?_]
    · exact hh
    · obtain ⟨o, ho, hc⟩ := hr g e'.symm
      rw [hh] at ho; cases ho; cases hc

section
variable {α : Type} {enc : α → List Value} {k : Nat} {A : Option Addr} {c : Nat} {l : List α} {P : Program} {t e bytes : Nat}
/-- append of ONE element, just boxed: whole blocks elsewhere lie as they lay -/
theorem wpList_app1b {w0 : World} {ops : Array Oper} {rest : List Oper} {o : Oper} {a : Act} {Q : Exit → Act → World → Prop} (hgd : o.guard = none) (s y : Operand)
    (T : TyS P t e k bytes) (hE : Enc enc k)
    (ho : o.op = .call { callee := .builtin .append, args := #[s, y], argTypes := #[t, t] })
    {cs : Array Value} (x : α) (hcs : cs.toList = enc x)
    (base : Nat) {n : Nat} (hs : a.eval s = .slice A n c) (hn : n = l.length) (hown : Own e enc k w0 base A c l)
    {g0 : Nat} (hx : a.eval y = .slice (some ⟨g0, 0, none⟩) 1 1) (hg0 : w0.heap.size = g0)
    (hbytes : (l.length + 1) * bytes ≤ 140737488355328) (hmax : l.length ≤ 8000000000000000000) (hbase : base ≤ w0.heap.size)
    (h : ∀ A' c' w', Own e enc k w' base A' c' (l ++ [x]) → Below base w0 w' → w0.heap.size < w'.heap.size → (∀ b, b < w0.heap.size → (∀ g, A = some ⟨g, 0, none⟩ → b ≠ g) → w'.heap[b]? = w0.heap[b]?) → wpList P ops Q rest (a.put o.dst (.slice A' (n + 1) c')) w') : wpList P ops Q (o :: rest) a (w0.alloc (.cells cs e)) := by
  subst hn
  subst hg0
  refine wpList_app (w0.alloc (.cells cs e)) hgd s y T hE ho base hs (hown.alloc _) ⟨w0.heap.size, 0, none⟩ 1 1 [x] hx rfl ?_ hbytes (by omega) (by simp; omega) ?_
  · intro j u hu
    have hadd : (⟨w0.heap.size, 0, none⟩ : Addr).add j = ⟨w0.heap.size, j, none⟩ := by unfold Addr.add; split <;> simp_all
    rw [hadd, cell_of_row _ _ _ cs e (0, 0) (heap_alloc_new w0 _)]
    simp only [List.flatMap_cons, List.flatMap_nil, List.append_nil] at hu
    rw [← hcs] at hu
    simpa using hu
  · intro A' c' w' h1 h2 h3 h4
    rw [show (l ++ [x]).length = l.length + 1 by simp]
    refine h A' c' w' h1 (((Below.refl base w0).alloc hbase _).trans h2) ?_ fun b hb hne => ?_
    · simp at h3
      omega
    · refine (h4 b (by simp; omega) fun hh => ?_).trans ((World.grownBy_alloc w0 _ none).block b hb (by simp))
      cases A with
      | none => simp [Value.ownBlock] at hh
      | some q =>
        rcases hown.form with ⟨hA, _⟩ | ⟨g, hA, _⟩
        · cases hA
        · injection hA with hA
          subst hA
          simp [Value.ownBlock] at hh
          exact hne g rfl hh
theorem Own.keepB {w w' : World} {base : Nat} (h : Own e enc k w base A c l) (hk : ∀ g, A = some ⟨g, 0, none⟩ → g < w.heap.size → w'.heap[g]? = w.heap[g]?) : Own e enc k w' base A c l := by
  refine ⟨h.1, ?_⟩
  rcases h.2 with h2 | ⟨g, cap, cur, hv, hg, hh, r⟩
  · exact .inl h2
  · refine .inr ⟨g, cap, cur, hv, hg, ?_, r⟩
    injection hv with hA _ _
    rw [hk g hA (Array.getElem?_eq_some_iff.1 hh).1]
    exact hh
/-- own slices of different element types lie in different blocks -/
theorem Own.apart {β : Type} {enc2 : β → List Value} {k2 e2 base base2 c2 : Nat} {A2 : Option Addr} {l2 : List β} {w : World} (h : Own e enc k w base A c l) (h2 : Own e2 enc2 k2 w base2 A2 c2 l2) (hne : e ≠ e2) {g g2 : Nat} (hA : A = some ⟨g, 0, none⟩) (hA2 : A2 = some ⟨g2, 0, none⟩) : g ≠ g2 := by
  subst hA hA2
  rintro rfl
  rcases h.2 with ⟨q, _⟩ | ⟨g1, cap, cur, hv, _, hh, _⟩
  · injection q with q; cases q
  · injection hv with q; injection q with q; injection q with q
    subst q
    rcases h2.2 with ⟨q, _⟩ | ⟨g1, cap, cur2, hv, _, hh2, _⟩
    · injection q with q; cases q
    · injection hv with q; injection q with q; injection q with q
      subst q
      rw [hh] at hh2
      injection hh2 with q
      injection q with _ q _
      exact hne q
end
end Go.Proofs.YtcpfiiapfggmpaaGreat
