/- Joined texts: Ints, Iv, More, Blk, StrEq, RelLn, Trip, BillDate. -/
import Derived.Test.YtlnnbkpcnhlfcaaDoorProg
import Derived.Test.YtlnnbkpcnhlfcaaDoorJRelMath
import Derived.Outline
import Derived.Test.YtlnnbkpcnhlfcaaDoorSpanMath
import Derived.Test.YtlnnbkpcnhlfcaaDoorFirst
import Derived.RangeFuncNested
import Derived.Laws.Rows
import Derived.RangeFuncBound
import Derived.RangeFuncCalls
import Derived.RangeFuncLeaves
import Derived.RangeFuncFrom
import Derived.RangeFuncBox
import Derived.Lib.Bytealg
import Derived.Laws.Strings
import Derived.OwnWalk
/- Integers as elements of slices. -/
namespace Go.Proofs.YtlnnbkpcnhlfcaaDoor
open Go.RowKit Go.Lib

def encI (x : Int) : List Value := [.int .i64 x]
theorem encI_ok : Enc encI 1 := ⟨fun _ => rfl, fun x u hu => by simp [encI] at hu; subst hu; rfl⟩
theorem tyI : TyS Tryd.prog 51 3 1 8 := TyS.mk' (z := .int .i64 0) Tryd.underlying51 (by kernel_rfl) rfl (by omega)
theorem Rd.i {w : World} {B : Nat} {A : Option Addr} {l : List Int} (h : Rd encI 1 w B A l) {i : Nat} (hi : i < l.length) :
    ∃ b off x, A = some ⟨b, off, none⟩ ∧ b < B ∧ l[i]? = some x ∧ w.cell? ⟨b, off + i, none⟩ = some (.int .i64 x) := by
  obtain ⟨b, off, x, hA, hb, hx, hc⟩ := h.at_ hi
  exact ⟨b, off, x, hA, hb, hx, by simpa using hc 0 _ rfl⟩
end Go.Proofs.YtlnnbkpcnhlfcaaDoor
/- Intervals as elements of slices. -/
namespace Go.Proofs.YtlnnbkpcnhlfcaaDoor
open Go.RowKit Go.Lib

def encIv (x : Iv) : List Value := [.int .i64 x.1, .int .i64 x.2]
theorem encIv_ok : Enc encIv 2 := ⟨fun _ => rfl, fun x u hu => by simp [encIv] at hu; rcases hu with rfl | rfl <;> rfl⟩
theorem tyIv : TyS Tryd.prog 143 68 2 16 := TyS.mk' (z := .agg #[.int .i64 0, .int .i64 0]) Tryd.underlying143 (by kernel_rfl) rfl (by omega)
theorem Rd.iv {w : World} {B : Nat} {A : Option Addr} {l : List Iv} (h : Rd encIv 2 w B A l) {i : Nat} (hi : i < l.length) :
    ∃ b off f t, A = some ⟨b, off, none⟩ ∧ b < B ∧ l[i]? = some (f, t) ∧ w.cell? ⟨b, off + i * 2, none⟩ = some (.int .i64 f) ∧ w.cell? ⟨b, off + i * 2 + 1, none⟩ = some (.int .i64 t) := by
  obtain ⟨b, off, ⟨f, t⟩, hA, hb, hx, hc⟩ := h.at_ hi
  exact ⟨b, off, f, t, hA, hb, hx, hc 0 _ rfl, hc 1 _ rfl⟩
end Go.Proofs.YtlnnbkpcnhlfcaaDoor
/- More words on own slices and on what lies below. -/
namespace Go.Proofs.YtlnnbkpcnhlfcaaDoor
open Go.RowKit Go.Lib

theorem Own.st {α : Type} {e : Nat} {enc : α → List Value} {k : Nat} {w w' : World} {base : Nat} {A : Option Addr} {c : Nat} {l : List α} (h : Own e enc k w base A c l) (hb : Below w.heap.size w w') : Own e enc k w' base A c l := h.keep hb (Nat.le_refl _)
theorem _root_.Go.RowKit.Below.st {a b c : World} (h : Below a.heap.size a b) (k : Below b.heap.size b c) : Below a.heap.size a c := h.trans (k.mono h.size)
theorem Own.cap {α : Type} {e : Nat} {enc : α → List Value} {k : Nat} {w : World} {base : Nat} {A : Option Addr} {c : Nat} {l : List α} (h : Own e enc k w base A c l) : l.length ≤ c := by
  rcases h.2 with ⟨h1, h2⟩ | ⟨g, cap, cur, hv, _, _, hn, _⟩
  · rw [h2]; exact Nat.zero_le _
  · injection hv with p q r
    rw [r]; exact hn

end Go.Proofs.YtlnnbkpcnhlfcaaDoor
/- Blocks of cells, whole; own slices across stores elsewhere and across the book-keeping of a range over a function. -/
namespace Go.Proofs.YtlnnbkpcnhlfcaaDoor
open Go.RowKit Go.Lib

theorem Own.same {α : Type} {e : Nat} {enc : α → List Value} {k : Nat} {w w' : World} {base : Nat} {A : Option Addr} {c : Nat} {l : List α} (h : Own e enc k w base A c l) (hk : ∀ g, base ≤ g → w'.heap[g]? = w.heap[g]?) : Own e enc k w' base A c l := by
  refine ⟨h.1, ?_⟩
  rcases h.2 with h2 | ⟨g, cap, cur, hv, hg, hh, r⟩
  · exact .inl h2
  · exact .inr ⟨g, cap, cur, hv, hg, by rw [hk g hg]; exact hh, r⟩
theorem Own.other {α : Type} {e : Nat} {enc : α → List Value} {k : Nat} {w : World} {base : Nat} {A : Option Addr} {c : Nat} {l : List α} (h : Own e enc k w base A c l) {p : Addr} (hp : p.block < base) (v : Value) : Own e enc k (w.setCell p v) base A c l :=
  h.same fun g hg => Below.heap_setCell w p v g (by omega)

/-- a block of cells, whole -/
def Blk (W : World) (B : Nat) (cs : Array Value) (t : TypeId) : Prop := W.heap[B]? = some (.cells cs t (0, 0))
theorem Blk.lt {W : World} {B : Nat} {cs : Array Value} {t : TypeId} (h : Blk W B cs t) : B < W.heap.size := (Array.getElem?_eq_some_iff.1 h).1
theorem Blk.cell {W : World} {B : Nat} {cs : Array Value} {t : TypeId} (h : Blk W B cs t) (j : Nat) {v : Value} (hv : cs[j]? = some v) : W.cell? ⟨B, j, none⟩ = some v := by
  rw [cell_of_row _ _ _ cs t (0, 0) h]; exact hv
theorem Blk.frozen {W : World} {B : Nat} {cs : Array Value} {t : TypeId} (h : Blk W B cs t) (j : Nat) : W.frozen? ⟨B, j, none⟩ = false := frozen_of_row W B j cs t h
theorem Blk.set {W : World} {B : Nat} {cs : Array Value} {t : TypeId} (h : Blk W B cs t) (j : Nat) (v : Value) : Blk (W.setCell ⟨B, j, none⟩ v) B (cs.setIfInBounds j v) t := heap_setCell_same W B j cs t v h
theorem Blk.new (W : World) (cs : Array Value) (t : TypeId) : Blk (W.alloc (.cells cs t)) W.heap.size cs t := World.alloc_heap_new W _
theorem Blk.below {W W' : World} {B B' : Nat} {cs : Array Value} {t : TypeId} (h : Blk W B cs t) (hb : Below B' W W') (hB : B < B') : Blk W' B cs t := (hb.block B hB).trans h
theorem Blk.alloc {W : World} {B : Nat} {cs : Array Value} {t : TypeId} (h : Blk W B cs t) (o : Obj) : Blk (W.alloc o) B cs t := (World.grownBy_alloc W o none).block B h.lt (by simp) |>.trans h
theorem Blk.drew {W : World} {B : Nat} {cs : Array Value} {t : TypeId} (h : Blk W B cs t) : Blk W.drew B cs t := h
theorem blk_own {β : Type} (B : Nat) (cs : β → Array Value) (t : TypeId) : Go.Own (fun s W => Blk W B (cs s) t) := by
  intro s X Y row hs hg hr
  refine (hg.block B (Blk.lt hs) fun e => ?_).trans hs
  obtain ⟨o, ho, hc⟩ := hr B e.symm
  rw [show X.heap[B]? = _ from hs] at ho
  cases ho
  cases hc
theorem keepsFrom_below {B : Nat} {W W' : World} (h : Below W.heap.size W W') : KeepsFrom B W W' := ⟨h.size, fun k o _ hk _ => (h.block k (Array.getElem?_eq_some_iff.1 hk).1).trans hk⟩
theorem Blk.other {W : World} {B : Nat} {cs : Array Value} {t : TypeId} (h : Blk W B cs t) {p : Addr} (hp : B ≠ p.block) (v : Value) : Blk (W.setCell p v) B cs t := (Below.heap_setCell W p v B hp).trans h

theorem _root_.Go.Boxed.below {W W' : World} {B B' : Nat} {t : TypeId} {v : Value} (h : Boxed W B t v) (hb : Below B' W W') (hB : B < B') : Boxed W' B t v := (hb.block B hB).trans h

theorem own_kept {α : Type} {e : Nat} {enc : α → List Value} {k : Nat} {base : Nat} {A : Option Addr} {c : Nat} {l : List α} {X Y : World} {row : Option Nat} (h : Own e enc k X base A c l) (hg : X.grownBy Y row)
    (hr : ∀ r, row = some r → ∃ o : Obj, X.heap[r]? = some o ∧ o.isCells = false) : Own e enc k Y base A c l := by
  refine ⟨h.1, ?_⟩
  rcases h.2 with h2 | ⟨g, cap, cur, hv, hb, hh, r⟩
  · exact .inl h2
  · refine .inr ⟨g, cap, cur, hv, hb, ?_, r⟩
    rw [hg.block g (Array.getElem?_eq_some_iff.1 hh).1 fun e' => ?_]
    · exact hh
    · obtain ⟨o, ho, hc⟩ := hr g e'.symm
      rw [hh] at ho; cases ho; cases hc

section
variable {α : Type} {enc : α → List Value} {k : Nat} {A : Option Addr} {c : Nat} {l : List α} {P : Program} {t e bytes : Nat}
/-- append of ONE element, just boxed: whole blocks elsewhere lie as they lay -/
theorem wpList_app1b {w0 : World} {ops : Array Oper} {rest : List Oper} {o : Oper} {a : Act} {Q : Exit → Act → World → Prop} (hgd : o.guard = none) (s y : Operand)
    (T : TyS P t e k bytes) (hE : Enc enc k)
    (ho : o.op = .call { callee := .builtin .append, args := #[s, y], argTypes := #[t, t] })
    {cs : Array Value} (x : α) (hcs : cs.toList = enc x)
    (base : Nat) {n : Nat} (hs : a.eval s = .slice A n c) (hn : n = l.length) (hown : Own e enc k w0 base A c l)
    {g0 : Nat} (hx : a.eval y = .slice (some ⟨g0, 0, none⟩) 1 1) (hg0 : w0.heap.size = g0)
    (hbytes : (l.length + 1) * bytes ≤ 140737488355328) (hmax : l.length ≤ 8000000000000000000) (hbase : base ≤ w0.heap.size)
    (h : ∀ A' c' w', Own e enc k w' base A' c' (l ++ [x]) → Below base w0 w' → w0.heap.size < w'.heap.size → (∀ b, b < w0.heap.size → (∀ g, A = some ⟨g, 0, none⟩ → b ≠ g) → w'.heap[b]? = w0.heap[b]?) → wpList P ops Q rest (a.put o.dst (.slice A' (n + 1) c')) w') : wpList P ops Q (o :: rest) a (w0.alloc (.cells cs e)) := by
  subst hn
  subst hg0
  refine wpList_app (w0.alloc (.cells cs e)) hgd s y T hE ho base hs (hown.alloc _) ⟨w0.heap.size, 0, none⟩ 1 1 [x] hx rfl ?_ hbytes (by omega) (by simp; omega) ?_
  · intro j u hu
    have hadd : (⟨w0.heap.size, 0, none⟩ : Addr).add j = ⟨w0.heap.size, j, none⟩ := by unfold Addr.add; split <;> simp_all
    rw [hadd, cell_of_row _ _ _ cs e (0, 0) (heap_alloc_new w0 _)]
    simp only [List.flatMap_cons, List.flatMap_nil, List.append_nil] at hu
    rw [← hcs] at hu
    simpa using hu
  · intro A' c' w' h1 h2 h3 h4
    rw [show (l ++ [x]).length = l.length + 1 by simp]
    refine h A' c' w' h1 (((Below.refl base w0).alloc hbase _).trans h2) ?_ fun b hb hne => ?_
    · simp at h3
      omega
    · refine (h4 b (by simp; omega) fun hh => ?_).trans ((World.grownBy_alloc w0 _ none).block b hb (by simp))
      cases A with
      | none => simp [Value.ownBlock] at hh
      | some q =>
        rcases hown.form with ⟨hA, _⟩ | ⟨g, hA, _⟩
        · cases hA
        · injection hA with hA
          subst hA
          simp [Value.ownBlock] at hh
          exact hne g rfl hh
theorem Own.keepB {w w' : World} {base : Nat} (h : Own e enc k w base A c l) (hk : ∀ g, A = some ⟨g, 0, none⟩ → g < w.heap.size → w'.heap[g]? = w.heap[g]?) : Own e enc k w' base A c l := by
  refine ⟨h.1, ?_⟩
  rcases h.2 with h2 | ⟨g, cap, cur, hv, hg, hh, r⟩
  · exact .inl h2
  · refine .inr ⟨g, cap, cur, hv, hg, ?_, r⟩
    injection hv with hA _ _
    rw [hk g hA (Array.getElem?_eq_some_iff.1 hh).1]
    exact hh
/-- own slices of different element types lie in different blocks -/
theorem Own.apart {β : Type} {enc2 : β → List Value} {k2 e2 base base2 c2 : Nat} {A2 : Option Addr} {l2 : List β} {w : World} (h : Own e enc k w base A c l) (h2 : Own e2 enc2 k2 w base2 A2 c2 l2) (hne : e ≠ e2) {g g2 : Nat} (hA : A = some ⟨g, 0, none⟩) (hA2 : A2 = some ⟨g2, 0, none⟩) : g ≠ g2 := by
  subst hA hA2
  rintro rfl
  rcases h.2 with ⟨q, _⟩ | ⟨g1, cap, cur, hv, _, hh, _⟩
  · injection q with q; cases q
  · injection hv with q; injection q with q; injection q with q
    subst q
    rcases h2.2 with ⟨q, _⟩ | ⟨g1, cap, cur2, hv, _, hh2, _⟩
    · injection q with q; cases q
    · injection hv with q; injection q with q; injection q with q
      subst q
      rw [hh] at hh2
      injection hh2 with q
      injection q with _ q _
      exact hne q
end
end Go.Proofs.YtlnnbkpcnhlfcaaDoor
/- Equality of strings, as the walk spells it. No program in sight. -/
namespace Go.Proofs.YtlnnbkpcnhlfcaaDoor

def eqS (a b : ByteArray) : Bool := a.toList == b.toList
theorem eqS_iff (a b : ByteArray) : eqS a b = true ↔ a = b := by
  unfold eqS
  rw [beq_iff_eq, ByteArray.toList_eq, ByteArray.toList_eq]
  constructor
  · intro h
    cases a; cases b
    simp only [ByteArray.mk.injEq]
    exact Array.ext' h
  · rintro rfl; rfl
theorem eqS_refl (a : ByteArray) : eqS a a = true := (eqS_iff a a).2 rfl
theorem eqS_comm (a b : ByteArray) : eqS a b = eqS b a := by
  rw [Bool.eq_iff_iff, eqS_iff, eqS_iff]; exact eq_comm
end Go.Proofs.YtlnnbkpcnhlfcaaDoor
/- Lines and charges as values. -/
namespace Go.Proofs.YtlnnbkpcnhlfcaaDoor
open Go.RowKit Go.Lib

abbrev Ln := ByteArray × Int
def encLn (l : Ln) : List Value := [.string l.1, .int .i64 l.2]
theorem encLn_ok : Enc encLn 2 := ⟨fun _ => rfl, fun x u hu => by simp [encLn] at hu; rcases hu with rfl | rfl <;> rfl⟩
theorem Rd.ln {w : World} {B : Nat} {A : Option Addr} {l : List Ln} (h : Rd encLn 2 w B A l) {i : Nat} (hi : i < l.length) :
    ∃ b off s n, A = some ⟨b, off, none⟩ ∧ b < B ∧ l[i]? = some (s, n) ∧ w.cell? ⟨b, off + i * 2, none⟩ = some (.string s) ∧ w.cell? ⟨b, off + i * 2 + 1, none⟩ = some (.int .i64 n) := by
  obtain ⟨b, off, x, hA, hb, hx, hc⟩ := h.at_ hi
  exact ⟨b, off, x.1, x.2, hA, hb, hx, hc 0 _ rfl, hc 1 _ rfl⟩
theorem tyLn : TyS Tryd.prog 80 99 2 24 := TyS.mk' (z := .agg #[.string ⟨#[]⟩, .int .i64 0]) Tryd.underlying80 (by kernel_rfl) rfl (by omega)
/-- a charge's values -/
structure CV where
  key : ByteArray
  veh : ByteArray
  sys : ByteArray
  cls : Int
  tm : Int
  lns : List Ln
  ct : Int
def zeroC : CV := ⟨⟨#[]⟩, ⟨#[]⟩, ⟨#[]⟩, 0, 0, [], 0⟩
def CHV (c : CV) (A : Option Addr) (cap : Nat) : Value := .agg #[.string c.key, .string c.veh, .string c.sys, .int .i64 c.cls, .int .i64 c.tm, .slice A c.lns.length cap, .int .i64 c.ct]
/-- the word "outage" -/
abbrev outS : ByteArray := ⟨#[111, 117, 116, 97, 103, 101]⟩
/-- the error, the reduction, the reduced charge -/
def apE (rls : List Iv) (ct : Int) : Int := if relsE rls ≠ 0 then relsE rls else if 0 ≤ ct ∧ ct ≤ 1125899906842624 then 0 else 13
def lessN (rls : List Iv) (ks : List Int) (ct : Int) : Int := upN ct (partN rls ks)
def cutC (c : CV) (n : Int) : CV := if n = 0 then c else { c with lns := c.lns ++ [(outS, -n)], ct := c.ct - n }
def apC (rls : List Iv) (ks : List Int) (c : CV) : CV := if apE rls c.ct ≠ 0 then zeroC else cutC c (lessN rls ks c.ct)
/-- whether a rule has reduced a charge to 0 -/
def wvB (c : CV) : Bool := (c.ct == 0) && c.lns.any (fun l => eqS l.1 outS)
/-- the post of both Applies -/
def ApR (c : CV) (E : Int) (w : World) (e : Ending) (w' : World) : Prop := ∃ A cap, e = .returned (.tuple #[CHV c A cap, .int .i64 E]) ∧ Own 99 encLn 2 w' w.heap.size A cap c.lns ∧ Below w.heap.size w w'

end Go.Proofs.YtlnnbkpcnhlfcaaDoor
/- Stops and trips as values. -/
namespace Go.Proofs.YtlnnbkpcnhlfcaaDoor
open Go.RowKit Go.Lib

structure Stp where
  pt : ByteArray
  t : Int
  pg : ByteArray
instance : Inhabited Stp := ⟨⟨⟨#[]⟩, 0, ⟨#[]⟩⟩⟩
def encSp (s : Stp) : List Value := [.string s.pt, .int .i64 s.t, .string s.pg]
theorem encSp_ok : Enc encSp 3 := ⟨fun _ => rfl, fun x u hu => by simp [encSp] at hu; rcases hu with rfl | rfl | rfl <;> rfl⟩
/-- a trip -/
structure Trp where
  id : ByteArray
  vh : ByteArray
  sy : ByteArray
  cl : Int
  sA : Option Addr
  sc : Nat
  ss : List Stp
def encTr (t : Trp) : List Value := [.string t.id, .string t.vh, .string t.sy, .int .i64 t.cl, .slice t.sA t.ss.length t.sc]
theorem encTr_ok : Enc encTr 5 := ⟨fun _ => rfl, fun x u hu => by simp [encTr] at hu; rcases hu with rfl | rfl | rfl | rfl | rfl <;> rfl⟩
def TrV (t : Trp) : Value := .agg #[.string t.id, .string t.vh, .string t.sy, .int .i64 t.cl, .slice t.sA t.ss.length t.sc]
def TrOk (w : World) (t : Trp) : Prop := Rd encSp 3 w w.heap.size t.sA t.ss ∧ t.ss.length ≤ 9223372036854775807
theorem TrOk.st {w w' : World} {t : Trp} (h : TrOk w t) (hb : Below w.heap.size w w') : TrOk w' t := ⟨h.1.st hb, h.2⟩
theorem Rd.tp {w : World} {B : Nat} {A : Option Addr} {l : List Trp} (h : Rd encTr 5 w B A l) {i : Nat} (hi : i < l.length) :
    ∃ b off t, A = some ⟨b, off, none⟩ ∧ b < B ∧ l[i]? = some t ∧ w.cell? ⟨b, off + i * 5, none⟩ = some (.string t.id) ∧ w.cell? ⟨b, off + i * 5 + 1, none⟩ = some (.string t.vh) ∧ w.cell? ⟨b, off + i * 5 + 2, none⟩ = some (.string t.sy) ∧ w.cell? ⟨b, off + i * 5 + 3, none⟩ = some (.int .i64 t.cl) ∧ w.cell? ⟨b, off + i * 5 + 4, none⟩ = some (.slice t.sA t.ss.length t.sc) := by
  obtain ⟨b, off, x, hA, hb, hx, hc⟩ := h.at_ hi
  exact ⟨b, off, x, hA, hb, hx, hc 0 _ rfl, hc 1 _ rfl, hc 2 _ rfl, hc 3 _ rfl, hc 4 _ rfl⟩
end Go.Proofs.YtlnnbkpcnhlfcaaDoor
/- The date of a day and the month of a time, walked: the clock's and the reference's. -/
set_option linter.unusedSimpArgs false
namespace Go.Proofs.YtlnnbkpcnhlfcaaDoor
open Go.RowKit Go.Lib

def dateV (d : Int) : Value := if 0 ≤ d ∧ d < 795364 then .tuple #[.int .i64 (2001 + (ymd d).1), .int .i64 ((ymd d).2.1 + 1), .int .i64 ((ymd d).2.2 + 1)] else .tuple #[.int .i64 0, .int .i64 0, .int .i64 0]
theorem dateV_of {d : Int} (h0 : 0 ≤ d) (h1 : d < 795364) {n m : Nat} {l r : Int} (hc : cumY n + l = d) (hm : m < 12) (hl : cumM (2001 + n) m + r = l) (r0 : 0 ≤ r) (r1 : r < lenM (2001 + n) (m + 1)) :
    dateV d = .tuple #[.int .i64 (2001 + n), .int .i64 (m + 1), .int .i64 (r + 1)] := by
  have k : DR d n m r := ⟨by omega, hm, r0, r1⟩
  obtain ⟨e1, e2, e3⟩ := (ymd_holds h0 h1).unique k
  unfold dateV
  rw [if_pos ⟨h0, h1⟩, e1, e2, e3]
theorem cum_next {n : Nat} {l d : Int} (h : cumY n + l = d) : cumY (n + 1) + (l - yearN (2001 + n)) = d := by
  have c : cumY (n + 1) = cumY n + yearN (2001 + n) := rfl
  omega
theorem cumM_next {y : Int} {m : Nat} {l r : Int} (h : cumM y m + r = l) : cumM y (m + 1) + (r - lenM y (m + 1)) = l := by
  have c : cumM y (m + 1) = cumM y m + lenM y ((m : Int) + 1) := rfl
  omega
theorem m_lt {y : Int} {m : Nat} {l r : Int} (h : cumM y m + r = l) (hl : l < yearN y) (hm : m < 12) (hr : lenM y (m + 1) ≤ r) : m + 1 < 12 := by
  rcases (by omega : m + 1 < 12 ∨ m = 11) with q | rfl
  · exact q
  · have c : cumM y 12 = cumM y 11 + lenM y ((11 : Int) + 1) := rfl
    rw [cumM_12] at c
    have : lenM y (((11 : Nat) : Int) + 1) = lenM y ((11 : Int) + 1) := rfl
    omega
theorem n_le {n : Nat} {l d : Int} (h : cumY n + l = d) (hl : 0 ≤ l) (hd : d < 795364) : n ≤ 2200 := by
  have a := cumY_lt 0 n
  have z : cumY 0 = 0 := rfl
  rw [Nat.zero_add] at a
  omega

set_option maxRecDepth 100000 in
set_option maxHeartbeats 8000000 in
theorem cdate_any (d : Int) {w : World} (hw : Mon w) : Calls Tryd.prog 34 #[.int .i64 d] w fun e w' => e = .returned (dateV d) ∧ w' = w := by
  by_cases hd : 0 ≤ d ∧ d < 795364
  · have hD := decide_eq_true hd
    obtain ⟨h0, h1⟩ := hd
    have CD := Lib.hid (cisDay_any d w)
    rw [hD] at CD
    have CLP := Lib.hid (fun (y : Int) (q : 0 ≤ y) => cleap_any y q w)
    have CLN := Lib.hid (fun (y m : Int) (q : 0 ≤ y) (q1 : 1 ≤ m) (q2 : m ≤ 12) => clen_any y m q q1 q2 w hw)
    have HOF := Lib.hid (fun (n m : Nat) (l r : Int) hc hm hl r0 r1 => dateV_of h0 h1 (n := n) (m := m) (l := l) (r := r) hc hm hl r0 r1)
    generalize hdv : dateV d = dv at *
    have e1 : d.tdiv 146097 = d / 146097 := Int.tdiv_eq_ediv_of_nonneg h0
    have e2 : d.tmod 146097 = d % 146097 := Int.tmod_eq_emod_of_nonneg h0
    have hk0 : 0 ≤ d / 146097 := by omega
    have hk1 : d / 146097 ≤ 5 := by omega
    have hr0 : 0 ≤ d % 146097 := by omega
    have hr1 : d % 146097 < 146097 := by omega
    have HST : Hid (cumY (400 * (d / 146097).toNat) + d % 146097 = d) := Lib.hid (by rw [cumY_cycle]; omega)
    have HST2 : Hid ((2001 + d / 146097 * 400 : Int) = 2001 + ((400 * (d / 146097).toNat : Nat) : Int)) := Lib.hid (by omega)
    generalize hq : d / 146097 = k0 at *
    generalize hq2 : d % 146097 = l0 at *
    clear hw hdv hD hq hq2
    go_enter Tryd.func34, Tryd.ntmps34
    go_wp2_with fail
    refine CD.out.mono ?_
    rintro e w' ⟨rfl, rfl⟩
    go_wp2_with fail
    go_loopw [5, 6] (fun vy vl wr => ∃ (n : Nat) (l : Int), 0 ≤ l ∧ l ≤ 146097 ∧ vy = .int .i64 (2001 + (n : Int)) ∧ vl = .int .i64 l ∧ Hid (cumY n + l = d) ∧ wr = w') (fun _ vl _ => (RowKit.intOf vl).toNat)
    case atStart => exact ⟨400 * k0.toNat, l0, hr0, by omega, by rw [HST2.out], rfl, HST, rfl⟩
    case round =>
      clear HST HST2 hk0 hk1 hr0 hr1 e1 e2
      obtain ⟨n, l, hl0, hl1, rfl, rfl, HC, rfl⟩ := hrel
      have hn := n_le HC.out hl0 h1
      have CL := Lib.hid (CLP.out (2001 + n) (by omega))
      have HN := Lib.hid (cum_next HC.out)
      have hY : (leapB (2001 + n) = false ∧ yearN (2001 + n) = 365) ∨ (leapB (2001 + n) = true ∧ yearN (2001 + n) = 366) := by unfold yearN; cases leapB (2001 + (n : Int)) <;> simp
      rcases hY with ⟨hlp, hyn⟩ | ⟨hlp, hyn⟩
      all_goals
        rw [hlp] at CL
        rw [hyn] at HN
        have HYN := Lib.hid hyn
        clear hlp hyn
        go_wp2_with fail
        refine CL.out.mono ?_
        rintro e wz ⟨rfl, rfl⟩
      · by_cases hlt : l < 365
        · have HL : Hid (l < yearN (2001 + n)) := Lib.hid (by rw [HYN.out]; exact hlt)
          clear HN HYN CL CLP CD
          go_wp2_with fail
          (obtain ⟨wo, hwo⟩ : ∃ wo, wo = wz := ⟨_, rfl⟩); go_loopw [6, 8] (fun vr vm wr => ∃ (m : Nat) (r : Int), m < 12 ∧ 0 ≤ r ∧ r ≤ 366 ∧ vr = .int .i64 r ∧ vm = .int .i64 ((m : Int) + 1) ∧ Hid (cumM (2001 + n) m + r = l) ∧ wr = wo) (fun vr _ _ => (RowKit.intOf vr).toNat); (case atStart => exact ⟨0, l, by omega, hl0, by omega, rfl, rfl, Lib.hid (by show (0 : Int) + l = l; omega), hwo.symm⟩); (case round => (obtain ⟨m, r, hm, hr0, hr1, rfl, rfl, HM, rfl⟩ := hrel); subst hwo; (have CLM := Lib.hid (CLN.out (2001 + n) ((m : Int) + 1) (by omega) (by omega) (by omega))); (have HMN := Lib.hid (cumM_next HM.out)); (have hlp := lenM_pos (2001 + n) ((m : Int) + 1)); (have HO := Lib.hid (fun (q : r < lenM (2001 + n) (m + 1)) => HOF.out n m l r HC.out hm HM.out hr0 q)); (have HMLT := Lib.hid (fun (q : lenM (2001 + n) (m + 1) ≤ r) => m_lt HM.out HL.out hm q)); generalize lenM (2001 + (n : Int)) ((m : Int) + 1) = ln at CLM HMN hlp HO HMLT; (obtain ⟨hlp1, hlp2⟩ := hlp); by_cases hrl : r < ln; (focus (have R := Lib.hid (HO.out hrl); clear HO HMN HMLT; go_wp2_with fail; refine CLM.out.mono ?_; rintro e wz ⟨rfl, rfl⟩; go_wp2_with fail; go_ret3; rw [R.out]; exact ⟨rfl, rfl⟩)); (focus (have hm2 := HMLT.out (by omega); have hge : 0 ≤ r - ln := (by omega); clear HO HMLT; go_wp2_with fail; refine CLM.out.mono ?_; rintro e wz ⟨rfl, rfl⟩; go_wp2_with fail; refine CLM.out.mono ?_; rintro e wz ⟨rfl, rfl⟩; go_wp2_with fail; go_roundw; (case rel => exact ⟨m + 1, r - ln, hm2, hge, by omega, rfl, by go_num, HMN, trivial⟩); (case measure => simp [RowKit.intOf]; omega))))
        · have h365 : 0 ≤ l - 365 := by omega
          go_wp2_with fail
          go_roundw
          case rel => exact ⟨n + 1, l - 365, h365, by omega, by go_num, rfl, HN, trivial⟩
          case measure => simp [RowKit.intOf]; omega
      · by_cases hlt : l < 366
        · have HL : Hid (l < yearN (2001 + n)) := Lib.hid (by rw [HYN.out]; exact hlt)
          clear HN HYN CL CLP CD
          go_wp2_with fail
          (obtain ⟨wo, hwo⟩ : ∃ wo, wo = wz := ⟨_, rfl⟩); go_loopw [6, 8] (fun vr vm wr => ∃ (m : Nat) (r : Int), m < 12 ∧ 0 ≤ r ∧ r ≤ 366 ∧ vr = .int .i64 r ∧ vm = .int .i64 ((m : Int) + 1) ∧ Hid (cumM (2001 + n) m + r = l) ∧ wr = wo) (fun vr _ _ => (RowKit.intOf vr).toNat); (case atStart => exact ⟨0, l, by omega, hl0, by omega, rfl, rfl, Lib.hid (by show (0 : Int) + l = l; omega), hwo.symm⟩); (case round => (obtain ⟨m, r, hm, hr0, hr1, rfl, rfl, HM, rfl⟩ := hrel); subst hwo; (have CLM := Lib.hid (CLN.out (2001 + n) ((m : Int) + 1) (by omega) (by omega) (by omega))); (have HMN := Lib.hid (cumM_next HM.out)); (have hlp := lenM_pos (2001 + n) ((m : Int) + 1)); (have HO := Lib.hid (fun (q : r < lenM (2001 + n) (m + 1)) => HOF.out n m l r HC.out hm HM.out hr0 q)); (have HMLT := Lib.hid (fun (q : lenM (2001 + n) (m + 1) ≤ r) => m_lt HM.out HL.out hm q)); generalize lenM (2001 + (n : Int)) ((m : Int) + 1) = ln at CLM HMN hlp HO HMLT; (obtain ⟨hlp1, hlp2⟩ := hlp); by_cases hrl : r < ln; (focus (have R := Lib.hid (HO.out hrl); clear HO HMN HMLT; go_wp2_with fail; refine CLM.out.mono ?_; rintro e wz ⟨rfl, rfl⟩; go_wp2_with fail; go_ret3; rw [R.out]; exact ⟨rfl, rfl⟩)); (focus (have hm2 := HMLT.out (by omega); have hge : 0 ≤ r - ln := (by omega); clear HO HMLT; go_wp2_with fail; refine CLM.out.mono ?_; rintro e wz ⟨rfl, rfl⟩; go_wp2_with fail; refine CLM.out.mono ?_; rintro e wz ⟨rfl, rfl⟩; go_wp2_with fail; go_roundw; (case rel => exact ⟨m + 1, r - ln, hm2, hge, by omega, rfl, by go_num, HMN, trivial⟩); (case measure => simp [RowKit.intOf]; omega))))
        · have h366 : 0 ≤ l - 366 := by omega
          go_wp2_with fail
          go_roundw
          case rel => exact ⟨n + 1, l - 366, h366, by omega, by go_num, rfl, HN, trivial⟩
          case measure => simp [RowKit.intOf]; omega
  · have hD := decide_eq_false hd
    have CD := Lib.hid (cisDay_any d w)
    rw [hD] at CD
    unfold dateV
    rw [if_neg hd]
    clear hd hD hw
    go_enter Tryd.func34, Tryd.ntmps34
    go_wp2_with fail
    refine CD.out.mono ?_
    rintro e w' ⟨rfl, rfl⟩
    go_wp2_with fail
    go_ret3
    exact ⟨rfl, rfl⟩

set_option maxRecDepth 100000 in
set_option maxHeartbeats 8000000 in
theorem rdate_any (d : Int) (w : World) : Calls Tryd.prog 35 #[.int .i64 d] w fun e w' => e = .returned (dateV d) ∧ w' = w := by
  by_cases hd : 0 ≤ d ∧ d < 795364
  · have hD := decide_eq_true hd
    obtain ⟨h0, h1⟩ := hd
    have CD := Lib.hid (risDay_any d w)
    rw [hD] at CD
    have CLP := Lib.hid (fun (y : Int) (q : 0 ≤ y) => ryear_any y q w)
    have CLN := Lib.hid (fun (y m : Int) (q : 0 ≤ y) => rlen_any y m q w)
    have HOF := Lib.hid (fun (n m : Nat) (l r : Int) hc hm hl r0 r1 => dateV_of h0 h1 (n := n) (m := m) (l := l) (r := r) hc hm hl r0 r1)
    generalize hdv : dateV d = dv at *
    have HST : Hid (cumY 0 + d = d) := Lib.hid (by rw [show cumY 0 = 0 from rfl]; omega)
    clear hdv hD
    go_enter Tryd.func35, Tryd.ntmps35
    go_wp2_with fail
    refine CD.out.mono ?_
    rintro e w' ⟨rfl, rfl⟩
    go_wp2_with fail
    go_loopw [5, 6] (fun vl vy wr => ∃ (n : Nat) (l : Int), 0 ≤ l ∧ l < 795364 ∧ vy = .int .i64 (2001 + (n : Int)) ∧ vl = .int .i64 l ∧ Hid (cumY n + l = d) ∧ wr = w') (fun vl _ _ => (RowKit.intOf vl).toNat)
    case atStart => exact ⟨0, d, h0, h1, rfl, rfl, HST, rfl⟩
    case round =>
      clear HST
      obtain ⟨n, l, hl0, hl1, rfl, rfl, HC, rfl⟩ := hrel
      have hn := n_le HC.out hl0 h1
      have CL := Lib.hid (CLP.out (2001 + n) (by omega))
      have HN := Lib.hid (cum_next HC.out)
      have hyp := yearN_pos (2001 + n)
      have HYN : Hid (yearN (2001 + (n : Int)) = yearN (2001 + n)) := Lib.hid rfl
      generalize hyn : yearN (2001 + (n : Int)) = yn at CL HN hyp
      have HYN := Lib.hid hyn
      clear hyn
      obtain ⟨hy1, hy2⟩ := hyp
      by_cases hlt : l < yn
      · have HL : Hid (l < yearN (2001 + n)) := Lib.hid (by rw [HYN.out]; exact hlt)
        clear HN HYN
        go_wp2_with fail
        refine CL.out.mono ?_
        rintro e wz ⟨rfl, rfl⟩
        go_wp2_with fail
        clear CL CLP CD
        (obtain ⟨wo, hwo⟩ : ∃ wo, wo = wz := ⟨_, rfl⟩); go_loopw [5, 7] (fun vr vm wr => ∃ (m : Nat) (r : Int), m < 12 ∧ 0 ≤ r ∧ r ≤ 366 ∧ vr = .int .i64 r ∧ vm = .int .i64 ((m : Int) + 1) ∧ Hid (cumM (2001 + n) m + r = l) ∧ wr = wo) (fun vr _ _ => (RowKit.intOf vr).toNat); (case atStart => exact ⟨0, l, by omega, hl0, by omega, rfl, rfl, Lib.hid (by show (0 : Int) + l = l; omega), hwo.symm⟩); (case round => (obtain ⟨m, r, hm, hr0, hr1, rfl, rfl, HM, rfl⟩ := hrel); subst hwo; (have CLM := Lib.hid (CLN.out (2001 + n) ((m : Int) + 1) (by omega))); (have HMN := Lib.hid (cumM_next HM.out)); (have hlp := lenM_pos (2001 + n) ((m : Int) + 1)); (have HO := Lib.hid (fun (q : r < lenM (2001 + n) (m + 1)) => HOF.out n m l r HC.out hm HM.out hr0 q)); (have HMLT := Lib.hid (fun (q : lenM (2001 + n) (m + 1) ≤ r) => m_lt HM.out HL.out hm q)); generalize lenM (2001 + (n : Int)) ((m : Int) + 1) = ln at CLM HMN hlp HO HMLT; (obtain ⟨hlp1, hlp2⟩ := hlp); by_cases hrl : r < ln; (focus (have R := Lib.hid (HO.out hrl); clear HO HMN HMLT; go_wp2_with fail; refine CLM.out.mono ?_; rintro e wz ⟨rfl, rfl⟩; go_wp2_with fail; go_ret3; rw [R.out]; exact ⟨rfl, rfl⟩)); (focus (have hm2 := HMLT.out (by omega); have hge : 0 ≤ r - ln := (by omega); clear HO HMLT; go_wp2_with fail; refine CLM.out.mono ?_; rintro e wz ⟨rfl, rfl⟩; go_wp2_with fail; refine CLM.out.mono ?_; rintro e wz ⟨rfl, rfl⟩; go_wp2_with fail; go_roundw; (case rel => exact ⟨m + 1, r - ln, hm2, hge, by omega, rfl, by go_num, HMN, trivial⟩); (case measure => simp [RowKit.intOf]; omega))))
      · have hge : 0 ≤ l - yn := by omega
        go_wp2_with fail
        refine CL.out.mono ?_
        rintro e wz ⟨rfl, rfl⟩
        go_wp2_with fail
        refine CL.out.mono ?_
        rintro e wz ⟨rfl, rfl⟩
        go_wp2_with fail
        go_roundw
        case rel => exact ⟨n + 1, l - yn, hge, by omega, by go_num, rfl, HN, trivial⟩
        case measure => simp [RowKit.intOf]; omega
  · have hD := decide_eq_false hd
    have CD := Lib.hid (risDay_any d w)
    rw [hD] at CD
    unfold dateV
    rw [if_neg hd]
    clear hd hD
    go_enter Tryd.func35, Tryd.ntmps35
    go_wp2_with fail
    refine CD.out.mono ?_
    rintro e w' ⟨rfl, rfl⟩
    go_wp2_with fail
    go_ret3
    exact ⟨rfl, rfl⟩

theorem ret_i {a b : Int} (h : a = b) : (Ending.returned (.int .i64 a)) = .returned (.int .i64 b) := by rw [h]
theorem month_rng {d : Int} (h0 : 0 ≤ d) (h1 : d < 795364) : (ymd d).1 ≤ 2200 ∧ (ymd d).2.1 < 12 := ⟨(ymd_holds h0 h1).n_le h1, (ymd_holds h0 h1).m12⟩
set_option maxRecDepth 100000 in
set_option maxHeartbeats 2000000 in
theorem month_any (t : Int) {w : World} (hw : Mon w) : Calls Tryd.prog 12 #[.int .i64 t] w fun e w' => e = .returned (.int .i64 (monN t)) ∧ w' = w := by
  have CD := Lib.hid (cday_any t w)
  have CT := Lib.hid (cdate_any (dayN t) hw)
  unfold monN
  have hr : dayN t = -1 ∨ 0 ≤ dayN t := by unfold dayN; split <;> omega
  generalize dayN t = d at *
  clear hw
  unfold monD
  by_cases h0 : d < 0
  · rw [if_neg (by omega)]
    clear CT
    go_enter Tryd.func12, Tryd.ntmps12
    go_wp2_with fail
    refine CD.out.mono ?_
    rintro e w' ⟨rfl, rfl⟩
    go_wp2_with fail
    go_ret
    exact ⟨rfl, rfl⟩
  · by_cases h1 : d < 795364
    · rw [if_pos (by omega)]
      unfold dateV at CT
      rw [if_pos (by omega)] at CT
      have hm := month_rng (by omega : 0 ≤ d) h1
      generalize (ymd d).1 = n at *
      generalize (ymd d).2.1 = m at *
      generalize (ymd d).2.2 = r at *
      obtain ⟨hn, hm⟩ := hm
      go_enter Tryd.func12, Tryd.ntmps12
      go_wp2_with fail
      refine CD.out.mono ?_
      rintro e w' ⟨rfl, rfl⟩
      go_wp2_with fail
      refine CT.out.mono ?_
      rintro e w' ⟨rfl, rfl⟩
      go_wp2_with fail
      go_ret
      exact ⟨ret_i (by omega), rfl⟩
    · rw [if_neg (by omega)]
      unfold dateV at CT
      rw [if_neg (by omega)] at CT
      go_enter Tryd.func12, Tryd.ntmps12
      go_wp2_with fail
      refine CD.out.mono ?_
      rintro e w' ⟨rfl, rfl⟩
      go_wp2_with fail
      refine CT.out.mono ?_
      rintro e w' ⟨rfl, rfl⟩
      go_wp2_with fail
      go_ret
      exact ⟨rfl, rfl⟩
set_option maxRecDepth 100000 in
set_option maxHeartbeats 2000000 in
theorem rmonth_any (t : Int) (w : World) : Calls Tryd.prog 13 #[.int .i64 t] w fun e w' => e = .returned (.int .i64 (monN t)) ∧ w' = w := by
  have CD := Lib.hid (rday_any t w)
  have CT := Lib.hid (rdate_any (dayN t) w)
  unfold monN
  have hr : dayN t = -1 ∨ 0 ≤ dayN t := by unfold dayN; split <;> omega
  generalize dayN t = d at *
  unfold monD
  by_cases h1 : 0 ≤ d ∧ d < 795364
  · rw [if_pos h1]
    unfold dateV at CT
    rw [if_pos h1] at CT
    have hm := month_rng h1.1 h1.2
    generalize (ymd d).1 = n at *
    generalize (ymd d).2.1 = m at *
    generalize (ymd d).2.2 = r at *
    obtain ⟨hn, hm⟩ := hm
    clear h1
    go_enter Tryd.func13, Tryd.ntmps13
    go_wp2_with fail
    refine CD.out.mono ?_
    rintro e w' ⟨rfl, rfl⟩
    go_wp2_with fail
    refine CT.out.mono ?_
    rintro e w' ⟨rfl, rfl⟩
    go_wp2_with fail
    go_ret
    exact ⟨ret_i (by omega), rfl⟩
  · rw [if_neg h1]
    unfold dateV at CT
    rw [if_neg h1] at CT
    clear h1
    go_enter Tryd.func13, Tryd.ntmps13
    go_wp2_with fail
    refine CD.out.mono ?_
    rintro e w' ⟨rfl, rfl⟩
    go_wp2_with fail
    refine CT.out.mono ?_
    rintro e w' ⟨rfl, rfl⟩
    go_wp2_with fail
    go_ret
    exact ⟨rfl, rfl⟩
end Go.Proofs.YtlnnbkpcnhlfcaaDoor
