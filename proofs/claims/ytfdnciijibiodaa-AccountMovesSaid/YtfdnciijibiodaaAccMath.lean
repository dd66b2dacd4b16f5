/- Accounts in plain words. No program in sight. -/
import Derived.Test.YtfdnciijibiodaaSpanMath
import Derived.Test.YtfdnciijibiodaaStrEq
import Derived.Test.YtfdnciijibiodaaFirst
import Derived.Test.YtfdnciijibiodaaName
import Derived.Test.YtfdnciijibiodaaDetTag
import Derived.Test.YtfdnciijibiodaaDetPl
namespace Go.Proofs.Ytfdnciijibiodaa

/-- an element of Owned -/
structure Ow where
  tag : ByteArray
  pl : ByteArray
  f : Int
  t : Int
/-- an account's values -/
structure Av where
  name : ByteArray
  ag : ByteArray
  pre : Bool
  os : List Ow
  r0 : Int
  r1 : Int
  r2 : Int
  r3 : Int
  ex : Bool
def emp (s : ByteArray) : Bool := eqS s ⟨#[]⟩
theorem emp_iff (s : ByteArray) : emp s = true ↔ s = ⟨#[]⟩ := eqS_iff s _

/-- the error of an element -/
def corrE (o : Ow) : Int :=
  if emp o.tag = emp o.pl then 1
  else if emp o.tag = false ∧ tagB o.tag = false then 18
  else if emp o.pl = false ∧ (plB o.pl && eqS (plS o.pl) o.pl) = false then 19
  else if validB o.f o.t = false then 12 else 0
def sameV (x o : Ow) : Bool := eqS x.tag o.tag && eqS x.pl o.pl
def overl (x o : Ow) : Bool := validB x.f x.t && validB o.f o.t && decide (x.f < o.t) && decide (o.f < x.t)
def conB (x o : Ow) : Bool := sameV x o && overl x o
def conL (l : List Ow) (o : Ow) : Bool := l.any fun x => conB x o
def oneA (os : List Ow) (i : Nat) : Int := match os[i]? with
  | none => 0
  | some o => if corrE o ≠ 0 then corrE o else if conL (os.take i) o = true then 9 else 0
def checkA (a : Av) : Int :=
  if nameB a.name = false then 6
  else if emp a.ag = false ∧ nameB a.ag = false then 30
  else if 64 < a.os.length then 3
  else firstE (oneA a.os) a.os.length
/-- an earlier account that does not go with a -/
def clash (b a : Av) : Bool := eqS b.name a.name || a.os.any fun o => conL b.os o
def oneL (l : List Av) (i : Nat) : Int := match l[i]? with
  | none => 0
  | some a => if checkA a ≠ 0 then checkA a else if ((l.take i).any fun b => clash b a) = true then 9 else 0
def checkL (l : List Av) : Int := if 1024 < l.length then 3 else firstE (oneL l) l.length

/-- an element gives a vehicle at a time -/
def ownsB (v : ByteArray) (t : Int) (o : Ow) : Bool := (!emp v) && (eqS o.tag v || eqS o.pl v) && (validB o.f o.t && decide (o.f ≤ t) && decide (t < o.t))
def ownA (v : ByteArray) (t : Int) (a : Av) : Bool := a.os.any (ownsB v t)
def ownerB (l : List Av) (v : ByteArray) (t : Int) : Bool := l.any (ownA v t)
def ownerN (l : List Av) (v : ByteArray) (t : Int) : ByteArray := match l.find? (ownA v t) with
  | none => ⟨#[]⟩
  | some a => a.name
def named (s : ByteArray) (a : Av) : Bool := eqS a.name s
def zeroA : Av := ⟨⟨#[]⟩, ⟨#[]⟩, false, [], 0, 0, 0, 0, false⟩

def linkE (l : List Av) (s : ByteArray) (o : Ow) : Int := match l.find? (named s) with
  | none => 25
  | some a => if corrE o ≠ 0 then corrE o else if 64 ≤ a.os.length then 3 else if (l.any fun b => conL b.os o) = true then 9 else 0
/-- the first element at which p holds, changed -/
def modF {α : Type} (p : α → Bool) (f : α → α) : List α → List α
  | [] => []
  | a :: l => if p a = true then f a :: l else a :: modF p f l
def linkL (l : List Av) (s : ByteArray) (o : Ow) : List Av := if linkE l s o = 0 then modF (named s) (fun a => { a with os := a.os ++ [o] }) l else l
def cutOne (t : Int) (o : Ow) : List Ow := if o.f = t then [] else [{ o with t := t }]
/-- the first element that gives v at t ends at t -/
def cutL (v : ByteArray) (t : Int) : List Ow → List Ow
  | [] => []
  | o :: l => if ownsB v t o = true then cutOne t o ++ l else o :: cutL v t l
def timeB (t : Int) : Bool := decide (0 ≤ t) && decide (t < 68719476736)
def unlinkE (l : List Av) (s v : ByteArray) (t : Int) : Int := match l.find? (named s) with
  | none => 25
  | some a => if timeB t = false then 12 else if ownA v t a = true then 0 else 10
def unlinkL (l : List Av) (s v : ByteArray) (t : Int) : List Av := if unlinkE l s v t = 0 then modF (named s) (fun a => { a with os := cutL v t a.os }) l else l

theorem modF_at {α : Type} {p : α → Bool} {f : α → α} : ∀ {l : List α} {k : Nat} {x : α}, l[k]? = some x → p x = true → (∀ y ∈ l.take k, p y = false) → modF p f l = l.set k (f x)
  | [], k, x, h, _, _ => by simp at h
  | y :: l, 0, x, h, hp, _ => by
    simp at h
    subst h
    simp [modF, hp]
  | y :: l, k + 1, x, h, hp, hn => by
    have hy : p y = false := hn y (by simp)
    rw [modF, if_neg (by rw [hy]; simp), List.set_cons_succ, modF_at (l := l) (k := k) (x := x) (by simpa using h) hp (fun z hz => hn z (by simp; exact Or.inr hz))]
theorem cutL_at {v : ByteArray} {t : Int} : ∀ {l : List Ow} {k : Nat} {x : Ow}, l[k]? = some x → ownsB v t x = true → (∀ y ∈ l.take k, ownsB v t y = false) → cutL v t l = l.take k ++ cutOne t x ++ l.drop (k + 1)
  | [], k, x, h, _, _ => by simp at h
  | y :: l, 0, x, h, hp, _ => by
    simp at h
    subst h
    simp [cutL, hp]
  | y :: l, k + 1, x, h, hp, hn => by
    have hy : ownsB v t y = false := hn y (by simp)
    rw [cutL, if_neg (by rw [hy]; simp), cutL_at (l := l) (k := k) (x := x) (by simpa using h) hp (fun z hz => hn z (by simp; exact Or.inr hz))]
    simp
theorem cutL_gone {v : ByteArray} {t : Int} {l : List Ow} {k : Nat} {x : Ow} (h : l[k]? = some x) (hp : ownsB v t x = true) (hn : ∀ y ∈ l.take k, ownsB v t y = false) (hf : x.f = t) : cutL v t l = l.take k ++ l.drop (k + 1) := by
  rw [cutL_at h hp hn, cutOne, if_pos hf, List.append_nil]
theorem cutL_set {v : ByteArray} {t : Int} {l : List Ow} {k : Nat} {x : Ow} (h : l[k]? = some x) (hp : ownsB v t x = true) (hn : ∀ y ∈ l.take k, ownsB v t y = false) (hf : ¬ x.f = t) : cutL v t l = l.set k { x with t := t } := by
  rw [cutL_at h hp hn, cutOne, if_neg hf, List.set_eq_take_append_cons_drop, if_pos (List.getElem?_eq_some_iff.1 h).1]
  simp
end Go.Proofs.Ytfdnciijibiodaa
