/- Joined texts: AccMath, AccEnc, Idx. -/
import Derived.Test.YtlnnbkpcnhlfcaaDoorSpanMath
import Derived.Test.YtlnnbkpcnhlfcaaDoorJStrEq
import Derived.Test.YtlnnbkpcnhlfcaaDoorFirst
import Derived.Test.YtlnnbkpcnhlfcaaDoorJName
import Derived.Test.YtlnnbkpcnhlfcaaDoorJInts
import Derived.Lib.SlBy
/- Accounts in plain words. No program in sight. -/
namespace Go.Proofs.YtlnnbkpcnhlfcaaDoor

/-- an element of Owned -/
structure Ow where
  tag : ByteArray
  pl : ByteArray
  f : Int
  t : Int
/-- an account's values -/
structure Av where
  name : ByteArray
  ag : ByteArray
  pre : Bool
  os : List Ow
  r0 : Int
  r1 : Int
  r2 : Int
  r3 : Int
  ex : Bool
def emp (s : ByteArray) : Bool := eqS s ⟨#[]⟩
theorem emp_iff (s : ByteArray) : emp s = true ↔ s = ⟨#[]⟩ := eqS_iff s _

/-- the error of an element -/
def corrE (o : Ow) : Int :=
  if emp o.tag = emp o.pl then 1
  else if emp o.tag = false ∧ tagB o.tag = false then 18
  else if emp o.pl = false ∧ (plB o.pl && eqS (plS o.pl) o.pl) = false then 19
  else if validB o.f o.t = false then 12 else 0
def sameV (x o : Ow) : Bool := eqS x.tag o.tag && eqS x.pl o.pl
def overl (x o : Ow) : Bool := validB x.f x.t && validB o.f o.t && decide (x.f < o.t) && decide (o.f < x.t)
def conB (x o : Ow) : Bool := sameV x o && overl x o
def conL (l : List Ow) (o : Ow) : Bool := l.any fun x => conB x o
def oneA (os : List Ow) (i : Nat) : Int := match os[i]? with
  | none => 0
  | some o => if corrE o ≠ 0 then corrE o else if conL (os.take i) o = true then 9 else 0
def checkA (a : Av) : Int :=
  if nameB a.name = false then 6
  else if emp a.ag = false ∧ nameB a.ag = false then 30
  else if 64 < a.os.length then 3
  else firstE (oneA a.os) a.os.length
/-- an earlier account that does not go with a -/
def clash (b a : Av) : Bool := eqS b.name a.name || a.os.any fun o => conL b.os o
def oneL (l : List Av) (i : Nat) : Int := match l[i]? with
  | none => 0
  | some a => if checkA a ≠ 0 then checkA a else if ((l.take i).any fun b => clash b a) = true then 9 else 0
def checkL (l : List Av) : Int := if 1024 < l.length then 3 else firstE (oneL l) l.length

/-- an element gives a vehicle at a time -/
def ownsB (v : ByteArray) (t : Int) (o : Ow) : Bool := (!emp v) && (eqS o.tag v || eqS o.pl v) && (validB o.f o.t && decide (o.f ≤ t) && decide (t < o.t))
def ownA (v : ByteArray) (t : Int) (a : Av) : Bool := a.os.any (ownsB v t)
def ownerB (l : List Av) (v : ByteArray) (t : Int) : Bool := l.any (ownA v t)
def ownerN (l : List Av) (v : ByteArray) (t : Int) : ByteArray := match l.find? (ownA v t) with
  | none => ⟨#[]⟩
  | some a => a.name
def named (s : ByteArray) (a : Av) : Bool := eqS a.name s
def zeroA : Av := ⟨⟨#[]⟩, ⟨#[]⟩, false, [], 0, 0, 0, 0, false⟩

def linkE (l : List Av) (s : ByteArray) (o : Ow) : Int := match l.find? (named s) with
  | none => 25
  | some a => if corrE o ≠ 0 then corrE o else if 64 ≤ a.os.length then 3 else if (l.any fun b => conL b.os o) = true then 9 else 0
/-- the first element at which p holds, changed -/
def modF {α : Type} (p : α → Bool) (f : α → α) : List α → List α
  | [] => []
  | a :: l => if p a = true then f a :: l else a :: modF p f l
def linkL (l : List Av) (s : ByteArray) (o : Ow) : List Av := if linkE l s o = 0 then modF (named s) (fun a => { a with os := a.os ++ [o] }) l else l
def cutOne (t : Int) (o : Ow) : List Ow := if o.f = t then [] else [{ o with t := t }]
/-- the first element that gives v at t ends at t -/
def cutL (v : ByteArray) (t : Int) : List Ow → List Ow
  | [] => []
  | o :: l => if ownsB v t o = true then cutOne t o ++ l else o :: cutL v t l
def timeB (t : Int) : Bool := decide (0 ≤ t) && decide (t < 68719476736)
def unlinkE (l : List Av) (s v : ByteArray) (t : Int) : Int := match l.find? (named s) with
  | none => 25
  | some a => if timeB t = false then 12 else if ownA v t a = true then 0 else 10
def unlinkL (l : List Av) (s v : ByteArray) (t : Int) : List Av := if unlinkE l s v t = 0 then modF (named s) (fun a => { a with os := cutL v t a.os }) l else l

theorem modF_at {α : Type} {p : α → Bool} {f : α → α} : ∀ {l : List α} {k : Nat} {x : α}, l[k]? = some x → p x = true → (∀ y ∈ l.take k, p y = false) → modF p f l = l.set k (f x)
  | [], k, x, h, _, _ => by simp at h
  | y :: l, 0, x, h, hp, _ => by
    simp at h
    subst h
    simp [modF, hp]
  | y :: l, k + 1, x, h, hp, hn => by
    have hy : p y = false := hn y (by simp)
    rw [modF, if_neg (by rw [hy]; simp), List.set_cons_succ, modF_at (l := l) (k := k) (x := x) (by simpa using h) hp (fun z hz => hn z (by simp; exact Or.inr hz))]
theorem cutL_at {v : ByteArray} {t : Int} : ∀ {l : List Ow} {k : Nat} {x : Ow}, l[k]? = some x → ownsB v t x = true → (∀ y ∈ l.take k, ownsB v t y = false) → cutL v t l = l.take k ++ cutOne t x ++ l.drop (k + 1)
  | [], k, x, h, _, _ => by simp at h
  | y :: l, 0, x, h, hp, _ => by
    simp at h
    subst h
    simp [cutL, hp]
  | y :: l, k + 1, x, h, hp, hn => by
    have hy : ownsB v t y = false := hn y (by simp)
    rw [cutL, if_neg (by rw [hy]; simp), cutL_at (l := l) (k := k) (x := x) (by simpa using h) hp (fun z hz => hn z (by simp; exact Or.inr hz))]
    simp
theorem cutL_gone {v : ByteArray} {t : Int} {l : List Ow} {k : Nat} {x : Ow} (h : l[k]? = some x) (hp : ownsB v t x = true) (hn : ∀ y ∈ l.take k, ownsB v t y = false) (hf : x.f = t) : cutL v t l = l.take k ++ l.drop (k + 1) := by
  rw [cutL_at h hp hn, cutOne, if_pos hf, List.append_nil]
theorem cutL_set {v : ByteArray} {t : Int} {l : List Ow} {k : Nat} {x : Ow} (h : l[k]? = some x) (hp : ownsB v t x = true) (hn : ∀ y ∈ l.take k, ownsB v t y = false) (hf : ¬ x.f = t) : cutL v t l = l.set k { x with t := t } := by
  rw [cutL_at h hp hn, cutOne, if_neg hf, List.set_eq_take_append_cons_drop, if_pos (List.getElem?_eq_some_iff.1 h).1]
  simp
end Go.Proofs.YtlnnbkpcnhlfcaaDoor
/- Accounts as values. -/
namespace Go.Proofs.YtlnnbkpcnhlfcaaDoor
open Go.RowKit Go.Lib

instance : Inhabited Ow := ⟨⟨⟨#[]⟩, ⟨#[]⟩, 0, 0⟩⟩
instance : Inhabited Av := ⟨zeroA⟩
def encOw (o : Ow) : List Value := [.string o.tag, .string o.pl, .int .i64 o.f, .int .i64 o.t]
theorem encOw_ok : Enc encOw 4 := ⟨fun _ => rfl, fun x u hu => by simp [encOw] at hu; rcases hu with rfl | rfl | rfl | rfl <;> rfl⟩
theorem tyOw : TyS Tryd.prog 87 95 4 48 := TyS.mk' (z := .agg #[.string ⟨#[]⟩, .string ⟨#[]⟩, .int .i64 0, .int .i64 0]) Tryd.underlying87 (by kernel_rfl) rfl (by omega)
def OwV (o : Ow) : Value := .agg #[.string o.tag, .string o.pl, .int .i64 o.f, .int .i64 o.t]
def zeroOw : Ow := ⟨⟨#[]⟩, ⟨#[]⟩, 0, 0⟩
theorem Rd.ow {w : World} {B : Nat} {A : Option Addr} {l : List Ow} (h : Rd encOw 4 w B A l) {i : Nat} (hi : i < l.length) :
    ∃ b off o, A = some ⟨b, off, none⟩ ∧ b < B ∧ l[i]? = some o ∧ w.cell? ⟨b, off + i * 4, none⟩ = some (.string o.tag) ∧ w.cell? ⟨b, off + i * 4 + 1, none⟩ = some (.string o.pl) ∧ w.cell? ⟨b, off + i * 4 + 2, none⟩ = some (.int .i64 o.f) ∧ w.cell? ⟨b, off + i * 4 + 3, none⟩ = some (.int .i64 o.t) := by
  obtain ⟨b, off, o, hA, hb, hx, hc⟩ := h.at_ hi
  exact ⟨b, off, o, hA, hb, hx, hc 0 _ rfl, hc 1 _ rfl, hc 2 _ rfl, hc 3 _ rfl⟩

/-- an account: its values, and where its vehicles lie -/
structure Ac where
  v : Av
  oA : Option Addr
  oc : Nat
instance : Inhabited Ac := ⟨⟨zeroA, none, 0⟩⟩
def encAc (a : Ac) : List Value := [.string a.v.name, .string a.v.ag, .bool a.v.pre, .slice a.oA a.v.os.length a.oc, .int .i64 a.v.r0, .int .i64 a.v.r1, .int .i64 a.v.r2, .int .i64 a.v.r3, .bool a.v.ex]
theorem encAc_ok : Enc encAc 9 := ⟨fun _ => rfl, fun x u hu => by simp [encAc] at hu; rcases hu with rfl | rfl | rfl | rfl | rfl | rfl | rfl | rfl | rfl <;> rfl⟩
def AcV (a : Ac) : Value := .agg #[.string a.v.name, .string a.v.ag, .bool a.v.pre, .slice a.oA a.v.os.length a.oc, .int .i64 a.v.r0, .int .i64 a.v.r1, .int .i64 a.v.r2, .int .i64 a.v.r3, .bool a.v.ex]
theorem tyAc : TyS Tryd.prog 31 91 9 104 := TyS.mk' (z := .agg #[.string ⟨#[]⟩, .string ⟨#[]⟩, .bool false, .slice none 0 0, .int .i64 0, .int .i64 0, .int .i64 0, .int .i64 0, .bool false]) Tryd.underlying31 (by kernel_rfl) rfl (by omega)
def zeroAc : Ac := ⟨zeroA, none, 0⟩
def AOk (w : World) (a : Ac) : Prop := Rd encOw 4 w w.heap.size a.oA a.v.os ∧ a.v.os.length ≤ a.oc ∧ a.oc ≤ 9223372036854775807
theorem AOk.st {w w' : World} {a : Ac} (h : AOk w a) (hb : Below w.heap.size w w') : AOk w' a := ⟨h.1.st hb, h.2⟩
def AsOk (w : World) (l : List Ac) : Prop := ∀ a ∈ l, AOk w a
theorem AsOk.st {w w' : World} {l : List Ac} (h : AsOk w l) (hb : Below w.heap.size w w') : AsOk w' l := fun a ha => (h a ha).st hb
/-- the list lies in memory -/
def AL (w : World) (A : Option Addr) (c : Nat) (l : List Ac) : Prop := Rd encAc 9 w w.heap.size A l ∧ AsOk w l ∧ l.length ≤ c ∧ c ≤ 9223372036854775807
theorem AL.st {w w' : World} {A : Option Addr} {c : Nat} {l : List Ac} (h : AL w A c l) (hb : Below w.heap.size w w') : AL w' A c l := ⟨h.1.st hb, h.2.1.st hb, h.2.2⟩
def vals (l : List Ac) : List Av := l.map Ac.v
/-- strings and lists are not too long -/
def smO (o : Ow) : Prop := o.tag.size ≤ 1000 ∧ o.pl.size ≤ 1000
def smA (a : Ac) : Prop := a.v.os.length ≤ 1000 ∧ ∀ o ∈ a.v.os, smO o
def smL (l : List Ac) : Prop := l.length ≤ 1000 ∧ ∀ a ∈ l, smA a
theorem Rd.ac {w : World} {B : Nat} {A : Option Addr} {l : List Ac} (h : Rd encAc 9 w B A l) {i : Nat} (hi : i < l.length) :
    ∃ b off a, A = some ⟨b, off, none⟩ ∧ b < B ∧ l[i]? = some a ∧ w.cell? ⟨b, off + i * 9, none⟩ = some (.string a.v.name) ∧ w.cell? ⟨b, off + i * 9 + 1, none⟩ = some (.string a.v.ag) ∧ w.cell? ⟨b, off + i * 9 + 2, none⟩ = some (.bool a.v.pre) ∧ w.cell? ⟨b, off + i * 9 + 3, none⟩ = some (.slice a.oA a.v.os.length a.oc) ∧ w.cell? ⟨b, off + i * 9 + 4, none⟩ = some (.int .i64 a.v.r0) ∧ w.cell? ⟨b, off + i * 9 + 5, none⟩ = some (.int .i64 a.v.r1) ∧ w.cell? ⟨b, off + i * 9 + 6, none⟩ = some (.int .i64 a.v.r2) ∧ w.cell? ⟨b, off + i * 9 + 7, none⟩ = some (.int .i64 a.v.r3) ∧ w.cell? ⟨b, off + i * 9 + 8, none⟩ = some (.bool a.v.ex) := by
  obtain ⟨b, off, a, hA, hb, hx, hc⟩ := h.at_ hi
  exact ⟨b, off, a, hA, hb, hx, hc 0 _ rfl, hc 1 _ rfl, hc 2 _ rfl, hc 3 _ rfl, hc 4 _ rfl, hc 5 _ rfl, hc 6 _ rfl, hc 7 _ rfl, hc 8 _ rfl⟩
end Go.Proofs.YtlnnbkpcnhlfcaaDoor
/- slices.IndexFunc's answer, in plain words. No program in sight. -/
namespace Go.Proofs.YtlnnbkpcnhlfcaaDoor

/-- i is the first index at which p holds, or -1 -/
def IdxR {α : Type} (p : α → Bool) (l : List α) (i : Int) : Prop :=
  (i = -1 ∧ ∀ y ∈ l, p y = false) ∨ ∃ (k : Nat) (x : α), l[k]? = some x ∧ i = (k : Int) ∧ p x = true ∧ ∀ y ∈ l.take k, p y = false
theorem idxR_from {α : Type} (p : α → Bool) (d : α) : ∀ (l : List α) (i : Nat), (Lib.idxByFrom (fun _ y => p y) d l i = -1 ∧ ∀ y ∈ l, p y = false) ∨ ∃ (k : Nat) (x : α), l[k]? = some x ∧ Lib.idxByFrom (fun _ y => p y) d l i = ((i + k : Nat) : Int) ∧ p x = true ∧ ∀ y ∈ l.take k, p y = false
  | [], i => .inl ⟨rfl, by simp⟩
  | y :: l, i => by
    cases hy : p y
    · have e : Lib.idxByFrom (fun _ y => p y) d (y :: l) i = Lib.idxByFrom (fun _ y => p y) d l (i + 1) := by simp [Lib.idxByFrom, hy]
      rw [e]
      rcases idxR_from p d l (i + 1) with ⟨h1, h2⟩ | ⟨k, x, h1, h2, h3, h4⟩
      · exact .inl ⟨h1, fun z hz => by rcases List.mem_cons.1 hz with rfl | hz; (exact hy); (exact h2 z hz)⟩
      · refine .inr ⟨k + 1, x, h1, by rw [h2]; congr 1; omega, h3, fun z hz => ?_⟩
        rw [List.take_succ_cons, List.mem_cons] at hz
        rcases hz with rfl | hz
        · exact hy
        · exact h4 z hz
    · exact .inr ⟨0, y, rfl, by simp [Lib.idxByFrom, hy], hy, by simp⟩
theorem idxR_of {α : Type} (p : α → Bool) (d : α) (l : List α) : IdxR p l (Lib.idxBy (fun _ y => p y) l d) := by
  rcases idxR_from p d l 0 with h | ⟨k, x, h1, h2, h3, h4⟩
  · exact .inl h
  · exact .inr ⟨k, x, h1, by unfold Lib.idxBy; rw [h2]; congr 1; omega, h3, h4⟩
theorem IdxR.any_no {α : Type} {p : α → Bool} {l : List α} (h : ∀ y ∈ l, p y = false) : l.any p = false ∧ l.find? p = none :=
  ⟨by rw [List.any_eq_false]; intro y hy; rw [h y hy]; simp, by rw [List.find?_eq_none]; intro y hy; rw [h y hy]; simp⟩
theorem IdxR.any_at {α : Type} {p : α → Bool} {l : List α} {k : Nat} {x : α} (hx : l[k]? = some x) (hp : p x = true) (h : ∀ y ∈ l.take k, p y = false) : l.any p = true ∧ l.find? p = some x := by
  refine ⟨List.any_eq_true.2 ⟨x, List.mem_of_getElem? hx, hp⟩, ?_⟩
  obtain ⟨hk, rfl⟩ := List.getElem?_eq_some_iff.1 hx
  rw [List.find?_eq_some_iff_getElem]
  refine ⟨hp, k, hk, rfl, fun j hj => ?_⟩
  have := h l[j] (by rw [List.mem_take_iff_getElem]; exact ⟨j, by omega, rfl⟩)
  simp [this]
end Go.Proofs.YtlnnbkpcnhlfcaaDoor
