/- Joined texts: JAccMath, BillDate. -/
import Derived.Test.YtlnnbkpcnhlfcaaDoorSpanMath
import Derived.Test.YtlnnbkpcnhlfcaaDoorJInts
import Derived.Test.YtlnnbkpcnhlfcaaDoorFirst
import Derived.Test.YtlnnbkpcnhlfcaaDoorJName
import Derived.Lib.SlBy
import Derived.OwnWalk
/- Joined texts: AccMath, AccEnc, Idx. -/
/- Accounts in plain words. No program in sight. -/
namespace Go.Proofs.YtlnnbkpcnhlfcaaDoor

/-- an element of Owned -/
structure Ow where
  tag : ByteArray
  pl : ByteArray
  f : Int
  t : Int
/-- an account's values -/
structure Av where
  name : ByteArray
  ag : ByteArray
  pre : Bool
  os : List Ow
  r0 : Int
  r1 : Int
  r2 : Int
  r3 : Int
  ex : Bool
def emp (s : ByteArray) : Bool := eqS s ⟨#[]⟩
theorem emp_iff (s : ByteArray) : emp s = true ↔ s = ⟨#[]⟩ := eqS_iff s _

/-- the error of an element -/
def corrE (o : Ow) : Int :=
  if emp o.tag = emp o.pl then 1
  else if emp o.tag = false ∧ tagB o.tag = false then 18
  else if emp o.pl = false ∧ (plB o.pl && eqS (plS o.pl) o.pl) = false then 19
  else if validB o.f o.t = false then 12 else 0
def sameV (x o : Ow) : Bool := eqS x.tag o.tag && eqS x.pl o.pl
def overl (x o : Ow) : Bool := validB x.f x.t && validB o.f o.t && decide (x.f < o.t) && decide (o.f < x.t)
def conB (x o : Ow) : Bool := sameV x o && overl x o
def conL (l : List Ow) (o : Ow) : Bool := l.any fun x => conB x o
def oneA (os : List Ow) (i : Nat) : Int := match os[i]? with
  | none => 0
  | some o => if corrE o ≠ 0 then corrE o else if conL (os.take i) o = true then 9 else 0
def checkA (a : Av) : Int :=
  if nameB a.name = false then 6
  else if emp a.ag = false ∧ nameB a.ag = false then 30
  else if 64 < a.os.length then 3
  else firstE (oneA a.os) a.os.length
/-- an earlier account that does not go with a -/
def clash (b a : Av) : Bool := eqS b.name a.name || a.os.any fun o => conL b.os o
def oneL (l : List Av) (i : Nat) : Int := match l[i]? with
  | none => 0
  | some a => if checkA a ≠ 0 then checkA a else if ((l.take i).any fun b => clash b a) = true then 9 else 0
def checkL (l : List Av) : Int := if 1024 < l.length then 3 else firstE (oneL l) l.length

/-- an element gives a vehicle at a time -/
def ownsB (v : ByteArray) (t : Int) (o : Ow) : Bool := (!emp v) && (eqS o.tag v || eqS o.pl v) && (validB o.f o.t && decide (o.f ≤ t) && decide (t < o.t))
def ownA (v : ByteArray) (t : Int) (a : Av) : Bool := a.os.any (ownsB v t)
def ownerB (l : List Av) (v : ByteArray) (t : Int) : Bool := l.any (ownA v t)
def ownerN (l : List Av) (v : ByteArray) (t : Int) : ByteArray := match l.find? (ownA v t) with
  | none => ⟨#[]⟩
  | some a => a.name
def named (s : ByteArray) (a : Av) : Bool := eqS a.name s
def zeroA : Av := ⟨⟨#[]⟩, ⟨#[]⟩, false, [], 0, 0, 0, 0, false⟩

def linkE (l : List Av) (s : ByteArray) (o : Ow) : Int := match l.find? (named s) with
  | none => 25
  | some a => if corrE o ≠ 0 then corrE o else if 64 ≤ a.os.length then 3 else if (l.any fun b => conL b.os o) = true then 9 else 0
/-- the first element at which p holds, changed -/
def modF {α : Type} (p : α → Bool) (f : α → α) : List α → List α
  | [] => []
  | a :: l => if p a = true then f a :: l else a :: modF p f l
def linkL (l : List Av) (s : ByteArray) (o : Ow) : List Av := if linkE l s o = 0 then modF (named s) (fun a => { a with os := a.os ++ [o] }) l else l
def cutOne (t : Int) (o : Ow) : List Ow := if o.f = t then [] else [{ o with t := t }]
/-- the first element that gives v at t ends at t -/
def cutL (v : ByteArray) (t : Int) : List Ow → List Ow
  | [] => []
  | o :: l => if ownsB v t o = true then cutOne t o ++ l else o :: cutL v t l
def timeB (t : Int) : Bool := decide (0 ≤ t) && decide (t < 68719476736)
def unlinkE (l : List Av) (s v : ByteArray) (t : Int) : Int := match l.find? (named s) with
  | none => 25
  | some a => if timeB t = false then 12 else if ownA v t a = true then 0 else 10
def unlinkL (l : List Av) (s v : ByteArray) (t : Int) : List Av := if unlinkE l s v t = 0 then modF (named s) (fun a => { a with os := cutL v t a.os }) l else l

theorem modF_at {α : Type} {p : α → Bool} {f : α → α} : ∀ {l : List α} {k : Nat} {x : α}, l[k]? = some x → p x = true → (∀ y ∈ l.take k, p y = false) → modF p f l = l.set k (f x)
  | [], k, x, h, _, _ => by simp at h
  | y :: l, 0, x, h, hp, _ => by
    simp at h
    subst h
    simp [modF, hp]
  | y :: l, k + 1, x, h, hp, hn => by
    have hy : p y = false := hn y (by simp)
    rw [modF, if_neg (by rw [hy]; simp), List.set_cons_succ, modF_at (l := l) (k := k) (x := x) (by simpa using h) hp (fun z hz => hn z (by simp; exact Or.inr hz))]
theorem cutL_at {v : ByteArray} {t : Int} : ∀ {l : List Ow} {k : Nat} {x : Ow}, l[k]? = some x → ownsB v t x = true → (∀ y ∈ l.take k, ownsB v t y = false) → cutL v t l = l.take k ++ cutOne t x ++ l.drop (k + 1)
  | [], k, x, h, _, _ => by simp at h
  | y :: l, 0, x, h, hp, _ => by
    simp at h
    subst h
    simp [cutL, hp]
  | y :: l, k + 1, x, h, hp, hn => by
    have hy : ownsB v t y = false := hn y (by simp)
    rw [cutL, if_neg (by rw [hy]; simp), cutL_at (l := l) (k := k) (x := x) (by simpa using h) hp (fun z hz => hn z (by simp; exact Or.inr hz))]
    simp
theorem cutL_gone {v : ByteArray} {t : Int} {l : List Ow} {k : Nat} {x : Ow} (h : l[k]? = some x) (hp : ownsB v t x = true) (hn : ∀ y ∈ l.take k, ownsB v t y = false) (hf : x.f = t) : cutL v t l = l.take k ++ l.drop (k + 1) := by
  rw [cutL_at h hp hn, cutOne, if_pos hf, List.append_nil]
theorem cutL_set {v : ByteArray} {t : Int} {l : List Ow} {k : Nat} {x : Ow} (h : l[k]? = some x) (hp : ownsB v t x = true) (hn : ∀ y ∈ l.take k, ownsB v t y = false) (hf : ¬ x.f = t) : cutL v t l = l.set k { x with t := t } := by
  rw [cutL_at h hp hn, cutOne, if_neg hf, List.set_eq_take_append_cons_drop, if_pos (List.getElem?_eq_some_iff.1 h).1]
  simp
end Go.Proofs.YtlnnbkpcnhlfcaaDoor
/- Accounts as values. -/
namespace Go.Proofs.YtlnnbkpcnhlfcaaDoor
open Go.RowKit Go.Lib

instance : Inhabited Ow := ⟨⟨⟨#[]⟩, ⟨#[]⟩, 0, 0⟩⟩
instance : Inhabited Av := ⟨zeroA⟩
def encOw (o : Ow) : List Value := [.string o.tag, .string o.pl, .int .i64 o.f, .int .i64 o.t]
theorem encOw_ok : Enc encOw 4 := ⟨fun _ => rfl, fun x u hu => by simp [encOw] at hu; rcases hu with rfl | rfl | rfl | rfl <;> rfl⟩
theorem tyOw : TyS Tryd.prog 87 95 4 48 := TyS.mk' (z := .agg #[.string ⟨#[]⟩, .string ⟨#[]⟩, .int .i64 0, .int .i64 0]) Tryd.underlying87 (by kernel_rfl) rfl (by omega)
def OwV (o : Ow) : Value := .agg #[.string o.tag, .string o.pl, .int .i64 o.f, .int .i64 o.t]
def zeroOw : Ow := ⟨⟨#[]⟩, ⟨#[]⟩, 0, 0⟩
theorem Rd.ow {w : World} {B : Nat} {A : Option Addr} {l : List Ow} (h : Rd encOw 4 w B A l) {i : Nat} (hi : i < l.length) :
    ∃ b off o, A = some ⟨b, off, none⟩ ∧ b < B ∧ l[i]? = some o ∧ w.cell? ⟨b, off + i * 4, none⟩ = some (.string o.tag) ∧ w.cell? ⟨b, off + i * 4 + 1, none⟩ = some (.string o.pl) ∧ w.cell? ⟨b, off + i * 4 + 2, none⟩ = some (.int .i64 o.f) ∧ w.cell? ⟨b, off + i * 4 + 3, none⟩ = some (.int .i64 o.t) := by
  obtain ⟨b, off, o, hA, hb, hx, hc⟩ := h.at_ hi
  exact ⟨b, off, o, hA, hb, hx, hc 0 _ rfl, hc 1 _ rfl, hc 2 _ rfl, hc 3 _ rfl⟩

/-- an account: its values, and where its vehicles lie -/
structure Ac where
  v : Av
  oA : Option Addr
  oc : Nat
instance : Inhabited Ac := ⟨⟨zeroA, none, 0⟩⟩
def encAc (a : Ac) : List Value := [.string a.v.name, .string a.v.ag, .bool a.v.pre, .slice a.oA a.v.os.length a.oc, .int .i64 a.v.r0, .int .i64 a.v.r1, .int .i64 a.v.r2, .int .i64 a.v.r3, .bool a.v.ex]
theorem encAc_ok : Enc encAc 9 := ⟨fun _ => rfl, fun x u hu => by simp [encAc] at hu; rcases hu with rfl | rfl | rfl | rfl | rfl | rfl | rfl | rfl | rfl <;> rfl⟩
def AcV (a : Ac) : Value := .agg #[.string a.v.name, .string a.v.ag, .bool a.v.pre, .slice a.oA a.v.os.length a.oc, .int .i64 a.v.r0, .int .i64 a.v.r1, .int .i64 a.v.r2, .int .i64 a.v.r3, .bool a.v.ex]
theorem tyAc : TyS Tryd.prog 31 91 9 104 := TyS.mk' (z := .agg #[.string ⟨#[]⟩, .string ⟨#[]⟩, .bool false, .slice none 0 0, .int .i64 0, .int .i64 0, .int .i64 0, .int .i64 0, .bool false]) Tryd.underlying31 (by kernel_rfl) rfl (by omega)
def zeroAc : Ac := ⟨zeroA, none, 0⟩
def AOk (w : World) (a : Ac) : Prop := Rd encOw 4 w w.heap.size a.oA a.v.os ∧ a.v.os.length ≤ a.oc ∧ a.oc ≤ 9223372036854775807
theorem AOk.st {w w' : World} {a : Ac} (h : AOk w a) (hb : Below w.heap.size w w') : AOk w' a := ⟨h.1.st hb, h.2⟩
def AsOk (w : World) (l : List Ac) : Prop := ∀ a ∈ l, AOk w a
theorem AsOk.st {w w' : World} {l : List Ac} (h : AsOk w l) (hb : Below w.heap.size w w') : AsOk w' l := fun a ha => (h a ha).st hb
/-- the list lies in memory -/
def AL (w : World) (A : Option Addr) (c : Nat) (l : List Ac) : Prop := Rd encAc 9 w w.heap.size A l ∧ AsOk w l ∧ l.length ≤ c ∧ c ≤ 9223372036854775807
theorem AL.st {w w' : World} {A : Option Addr} {c : Nat} {l : List Ac} (h : AL w A c l) (hb : Below w.heap.size w w') : AL w' A c l := ⟨h.1.st hb, h.2.1.st hb, h.2.2⟩
def vals (l : List Ac) : List Av := l.map Ac.v
/-- strings and lists are not too long -/
def smO (o : Ow) : Prop := o.tag.size ≤ 1000 ∧ o.pl.size ≤ 1000
def smA (a : Ac) : Prop := a.v.os.length ≤ 1000 ∧ ∀ o ∈ a.v.os, smO o
def smL (l : List Ac) : Prop := l.length ≤ 1000 ∧ ∀ a ∈ l, smA a
theorem Rd.ac {w : World} {B : Nat} {A : Option Addr} {l : List Ac} (h : Rd encAc 9 w B A l) {i : Nat} (hi : i < l.length) :
    ∃ b off a, A = some ⟨b, off, none⟩ ∧ b < B ∧ l[i]? = some a ∧ w.cell? ⟨b, off + i * 9, none⟩ = some (.string a.v.name) ∧ w.cell? ⟨b, off + i * 9 + 1, none⟩ = some (.string a.v.ag) ∧ w.cell? ⟨b, off + i * 9 + 2, none⟩ = some (.bool a.v.pre) ∧ w.cell? ⟨b, off + i * 9 + 3, none⟩ = some (.slice a.oA a.v.os.length a.oc) ∧ w.cell? ⟨b, off + i * 9 + 4, none⟩ = some (.int .i64 a.v.r0) ∧ w.cell? ⟨b, off + i * 9 + 5, none⟩ = some (.int .i64 a.v.r1) ∧ w.cell? ⟨b, off + i * 9 + 6, none⟩ = some (.int .i64 a.v.r2) ∧ w.cell? ⟨b, off + i * 9 + 7, none⟩ = some (.int .i64 a.v.r3) ∧ w.cell? ⟨b, off + i * 9 + 8, none⟩ = some (.bool a.v.ex) := by
  obtain ⟨b, off, a, hA, hb, hx, hc⟩ := h.at_ hi
  exact ⟨b, off, a, hA, hb, hx, hc 0 _ rfl, hc 1 _ rfl, hc 2 _ rfl, hc 3 _ rfl, hc 4 _ rfl, hc 5 _ rfl, hc 6 _ rfl, hc 7 _ rfl, hc 8 _ rfl⟩
end Go.Proofs.YtlnnbkpcnhlfcaaDoor
/- slices.IndexFunc's answer, in plain words. No program in sight. -/
namespace Go.Proofs.YtlnnbkpcnhlfcaaDoor

/-- i is the first index at which p holds, or -1 -/
def IdxR {α : Type} (p : α → Bool) (l : List α) (i : Int) : Prop :=
  (i = -1 ∧ ∀ y ∈ l, p y = false) ∨ ∃ (k : Nat) (x : α), l[k]? = some x ∧ i = (k : Int) ∧ p x = true ∧ ∀ y ∈ l.take k, p y = false
theorem idxR_from {α : Type} (p : α → Bool) (d : α) : ∀ (l : List α) (i : Nat), (Lib.idxByFrom (fun _ y => p y) d l i = -1 ∧ ∀ y ∈ l, p y = false) ∨ ∃ (k : Nat) (x : α), l[k]? = some x ∧ Lib.idxByFrom (fun _ y => p y) d l i = ((i + k : Nat) : Int) ∧ p x = true ∧ ∀ y ∈ l.take k, p y = false
  | [], i => .inl ⟨rfl, by simp⟩
  | y :: l, i => by
    cases hy : p y
    · have e : Lib.idxByFrom (fun _ y => p y) d (y :: l) i = Lib.idxByFrom (fun _ y => p y) d l (i + 1) := by simp [Lib.idxByFrom, hy]
      rw [e]
      rcases idxR_from p d l (i + 1) with ⟨h1, h2⟩ | ⟨k, x, h1, h2, h3, h4⟩
      · exact .inl ⟨h1, fun z hz => by rcases List.mem_cons.1 hz with rfl | hz; (exact hy); (exact h2 z hz)⟩
      · refine .inr ⟨k + 1, x, h1, by rw [h2]; congr 1; omega, h3, fun z hz => ?_⟩
        rw [List.take_succ_cons, List.mem_cons] at hz
        rcases hz with rfl | hz
        · exact hy
        · exact h4 z hz
    · exact .inr ⟨0, y, rfl, by simp [Lib.idxByFrom, hy], hy, by simp⟩
theorem idxR_of {α : Type} (p : α → Bool) (d : α) (l : List α) : IdxR p l (Lib.idxBy (fun _ y => p y) l d) := by
  rcases idxR_from p d l 0 with h | ⟨k, x, h1, h2, h3, h4⟩
  · exact .inl h
  · exact .inr ⟨k, x, h1, by unfold Lib.idxBy; rw [h2]; congr 1; omega, h3, h4⟩
theorem IdxR.any_no {α : Type} {p : α → Bool} {l : List α} (h : ∀ y ∈ l, p y = false) : l.any p = false ∧ l.find? p = none :=
  ⟨by rw [List.any_eq_false]; intro y hy; rw [h y hy]; simp, by rw [List.find?_eq_none]; intro y hy; rw [h y hy]; simp⟩
theorem IdxR.any_at {α : Type} {p : α → Bool} {l : List α} {k : Nat} {x : α} (hx : l[k]? = some x) (hp : p x = true) (h : ∀ y ∈ l.take k, p y = false) : l.any p = true ∧ l.find? p = some x := by
  refine ⟨List.any_eq_true.2 ⟨x, List.mem_of_getElem? hx, hp⟩, ?_⟩
  obtain ⟨hk, rfl⟩ := List.getElem?_eq_some_iff.1 hx
  rw [List.find?_eq_some_iff_getElem]
  refine ⟨hp, k, hk, rfl, fun j hj => ?_⟩
  have := h l[j] (by rw [List.mem_take_iff_getElem]; exact ⟨j, by omega, rfl⟩)
  simp [this]
end Go.Proofs.YtlnnbkpcnhlfcaaDoor
/- The date of a day and the month of a time, walked: the clock's and the reference's. -/
set_option linter.unusedSimpArgs false
namespace Go.Proofs.YtlnnbkpcnhlfcaaDoor
open Go.RowKit Go.Lib

def dateV (d : Int) : Value := if 0 ≤ d ∧ d < 795364 then .tuple #[.int .i64 (2001 + (ymd d).1), .int .i64 ((ymd d).2.1 + 1), .int .i64 ((ymd d).2.2 + 1)] else .tuple #[.int .i64 0, .int .i64 0, .int .i64 0]
theorem dateV_of {d : Int} (h0 : 0 ≤ d) (h1 : d < 795364) {n m : Nat} {l r : Int} (hc : cumY n + l = d) (hm : m < 12) (hl : cumM (2001 + n) m + r = l) (r0 : 0 ≤ r) (r1 : r < lenM (2001 + n) (m + 1)) :
    dateV d = .tuple #[.int .i64 (2001 + n), .int .i64 (m + 1), .int .i64 (r + 1)] := by
  have k : DR d n m r := ⟨by omega, hm, r0, r1⟩
  obtain ⟨e1, e2, e3⟩ := (ymd_holds h0 h1).unique k
  unfold dateV
  rw [if_pos ⟨h0, h1⟩, e1, e2, e3]
theorem cum_next {n : Nat} {l d : Int} (h : cumY n + l = d) : cumY (n + 1) + (l - yearN (2001 + n)) = d := by
  have c : cumY (n + 1) = cumY n + yearN (2001 + n) := rfl
  omega
theorem cumM_next {y : Int} {m : Nat} {l r : Int} (h : cumM y m + r = l) : cumM y (m + 1) + (r - lenM y (m + 1)) = l := by
  have c : cumM y (m + 1) = cumM y m + lenM y ((m : Int) + 1) := rfl
  omega
theorem m_lt {y : Int} {m : Nat} {l r : Int} (h : cumM y m + r = l) (hl : l < yearN y) (hm : m < 12) (hr : lenM y (m + 1) ≤ r) : m + 1 < 12 := by
  rcases (by omega : m + 1 < 12 ∨ m = 11) with q | rfl
  · exact q
  · have c : cumM y 12 = cumM y 11 + lenM y ((11 : Int) + 1) := rfl
    rw [cumM_12] at c
    have : lenM y (((11 : Nat) : Int) + 1) = lenM y ((11 : Int) + 1) := rfl
    omega
theorem n_le {n : Nat} {l d : Int} (h : cumY n + l = d) (hl : 0 ≤ l) (hd : d < 795364) : n ≤ 2200 := by
  have a := cumY_lt 0 n
  have z : cumY 0 = 0 := rfl
  rw [Nat.zero_add] at a
  omega

set_option maxRecDepth 100000 in
set_option maxHeartbeats 8000000 in
theorem cdate_any (d : Int) {w : World} (hw : Mon w) : Calls Tryd.prog 34 #[.int .i64 d] w fun e w' => e = .returned (dateV d) ∧ w' = w := by
  by_cases hd : 0 ≤ d ∧ d < 795364
  · have hD := decide_eq_true hd
    obtain ⟨h0, h1⟩ := hd
    have CD := Lib.hid (cisDay_any d w)
    rw [hD] at CD
    have CLP := Lib.hid (fun (y : Int) (q : 0 ≤ y) => cleap_any y q w)
    have CLN := Lib.hid (fun (y m : Int) (q : 0 ≤ y) (q1 : 1 ≤ m) (q2 : m ≤ 12) => clen_any y m q q1 q2 w hw)
    have HOF := Lib.hid (fun (n m : Nat) (l r : Int) hc hm hl r0 r1 => dateV_of h0 h1 (n := n) (m := m) (l := l) (r := r) hc hm hl r0 r1)
    generalize hdv : dateV d = dv at *
    have e1 : d.tdiv 146097 = d / 146097 := Int.tdiv_eq_ediv_of_nonneg h0
    have e2 : d.tmod 146097 = d % 146097 := Int.tmod_eq_emod_of_nonneg h0
    have hk0 : 0 ≤ d / 146097 := by omega
    have hk1 : d / 146097 ≤ 5 := by omega
    have hr0 : 0 ≤ d % 146097 := by omega
    have hr1 : d % 146097 < 146097 := by omega
    have HST : Hid (cumY (400 * (d / 146097).toNat) + d % 146097 = d) := Lib.hid (by rw [cumY_cycle]; omega)
    have HST2 : Hid ((2001 + d / 146097 * 400 : Int) = 2001 + ((400 * (d / 146097).toNat : Nat) : Int)) := Lib.hid (by omega)
    generalize hq : d / 146097 = k0 at *
    generalize hq2 : d % 146097 = l0 at *
    clear hw hdv hD hq hq2
    go_enter Tryd.func34, Tryd.ntmps34
    go_wp2_with fail
    refine CD.out.mono ?_
    rintro e w' ⟨rfl, rfl⟩
    go_wp2_with fail
    go_loopw [5, 6] (fun vy vl wr => ∃ (n : Nat) (l : Int), 0 ≤ l ∧ l ≤ 146097 ∧ vy = .int .i64 (2001 + (n : Int)) ∧ vl = .int .i64 l ∧ Hid (cumY n + l = d) ∧ wr = w') (fun _ vl _ => (RowKit.intOf vl).toNat)
    case atStart => exact ⟨400 * k0.toNat, l0, hr0, by omega, by rw [HST2.out], rfl, HST, rfl⟩
    case round =>
      clear HST HST2 hk0 hk1 hr0 hr1 e1 e2
      obtain ⟨n, l, hl0, hl1, rfl, rfl, HC, rfl⟩ := hrel
      have hn := n_le HC.out hl0 h1
      have CL := Lib.hid (CLP.out (2001 + n) (by omega))
      have HN := Lib.hid (cum_next HC.out)
      have hY : (leapB (2001 + n) = false ∧ yearN (2001 + n) = 365) ∨ (leapB (2001 + n) = true ∧ yearN (2001 + n) = 366) := by unfold yearN; cases leapB (2001 + (n : Int)) <;> simp
      rcases hY with ⟨hlp, hyn⟩ | ⟨hlp, hyn⟩
      all_goals
        rw [hlp] at CL
        rw [hyn] at HN
        have HYN := Lib.hid hyn
        clear hlp hyn
        go_wp2_with fail
        refine CL.out.mono ?_
        rintro e wz ⟨rfl, rfl⟩
      · by_cases hlt : l < 365
        · have HL : Hid (l < yearN (2001 + n)) := Lib.hid (by rw [HYN.out]; exact hlt)
          clear HN HYN CL CLP CD
          go_wp2_with fail
          (obtain ⟨wo, hwo⟩ : ∃ wo, wo = wz := ⟨_, rfl⟩); go_loopw [6, 8] (fun vr vm wr => ∃ (m : Nat) (r : Int), m < 12 ∧ 0 ≤ r ∧ r ≤ 366 ∧ vr = .int .i64 r ∧ vm = .int .i64 ((m : Int) + 1) ∧ Hid (cumM (2001 + n) m + r = l) ∧ wr = wo) (fun vr _ _ => (RowKit.intOf vr).toNat); (case atStart => exact ⟨0, l, by omega, hl0, by omega, rfl, rfl, Lib.hid (by show (0 : Int) + l = l; omega), hwo.symm⟩); (case round => (obtain ⟨m, r, hm, hr0, hr1, rfl, rfl, HM, rfl⟩ := hrel); subst hwo; (have CLM := Lib.hid (CLN.out (2001 + n) ((m : Int) + 1) (by omega) (by omega) (by omega))); (have HMN := Lib.hid (cumM_next HM.out)); (have hlp := lenM_pos (2001 + n) ((m : Int) + 1)); (have HO := Lib.hid (fun (q : r < lenM (2001 + n) (m + 1)) => HOF.out n m l r HC.out hm HM.out hr0 q)); (have HMLT := Lib.hid (fun (q : lenM (2001 + n) (m + 1) ≤ r) => m_lt HM.out HL.out hm q)); generalize lenM (2001 + (n : Int)) ((m : Int) + 1) = ln at CLM HMN hlp HO HMLT; (obtain ⟨hlp1, hlp2⟩ := hlp); by_cases hrl : r < ln; (focus (have R := Lib.hid (HO.out hrl); clear HO HMN HMLT; go_wp2_with fail; refine CLM.out.mono ?_; rintro e wz ⟨rfl, rfl⟩; go_wp2_with fail; go_ret3; rw [R.out]; exact ⟨rfl, rfl⟩)); (focus (have hm2 := HMLT.out (by omega); have hge : 0 ≤ r - ln := (by omega); clear HO HMLT; go_wp2_with fail; refine CLM.out.mono ?_; rintro e wz ⟨rfl, rfl⟩; go_wp2_with fail; refine CLM.out.mono ?_; rintro e wz ⟨rfl, rfl⟩; go_wp2_with fail; go_roundw; (case rel => exact ⟨m + 1, r - ln, hm2, hge, by omega, rfl, by go_num, HMN, trivial⟩); (case measure => simp [RowKit.intOf]; omega))))
        · have h365 : 0 ≤ l - 365 := by omega
          go_wp2_with fail
          go_roundw
          case rel => exact ⟨n + 1, l - 365, h365, by omega, by go_num, rfl, HN, trivial⟩
          case measure => simp [RowKit.intOf]; omega
      · by_cases hlt : l < 366
        · have HL : Hid (l < yearN (2001 + n)) := Lib.hid (by rw [HYN.out]; exact hlt)
          clear HN HYN CL CLP CD
          go_wp2_with fail
          (obtain ⟨wo, hwo⟩ : ∃ wo, wo = wz := ⟨_, rfl⟩); go_loopw [6, 8] (fun vr vm wr => ∃ (m : Nat) (r : Int), m < 12 ∧ 0 ≤ r ∧ r ≤ 366 ∧ vr = .int .i64 r ∧ vm = .int .i64 ((m : Int) + 1) ∧ Hid (cumM (2001 + n) m + r = l) ∧ wr = wo) (fun vr _ _ => (RowKit.intOf vr).toNat); (case atStart => exact ⟨0, l, by omega, hl0, by omega, rfl, rfl, Lib.hid (by show (0 : Int) + l = l; omega), hwo.symm⟩); (case round => (obtain ⟨m, r, hm, hr0, hr1, rfl, rfl, HM, rfl⟩ := hrel); subst hwo; (have CLM := Lib.hid (CLN.out (2001 + n) ((m : Int) + 1) (by omega) (by omega) (by omega))); (have HMN := Lib.hid (cumM_next HM.out)); (have hlp := lenM_pos (2001 + n) ((m : Int) + 1)); (have HO := Lib.hid (fun (q : r < lenM (2001 + n) (m + 1)) => HOF.out n m l r HC.out hm HM.out hr0 q)); (have HMLT := Lib.hid (fun (q : lenM (2001 + n) (m + 1) ≤ r) => m_lt HM.out HL.out hm q)); generalize lenM (2001 + (n : Int)) ((m : Int) + 1) = ln at CLM HMN hlp HO HMLT; (obtain ⟨hlp1, hlp2⟩ := hlp); by_cases hrl : r < ln; (focus (have R := Lib.hid (HO.out hrl); clear HO HMN HMLT; go_wp2_with fail; refine CLM.out.mono ?_; rintro e wz ⟨rfl, rfl⟩; go_wp2_with fail; go_ret3; rw [R.out]; exact ⟨rfl, rfl⟩)); (focus (have hm2 := HMLT.out (by omega); have hge : 0 ≤ r - ln := (by omega); clear HO HMLT; go_wp2_with fail; refine CLM.out.mono ?_; rintro e wz ⟨rfl, rfl⟩; go_wp2_with fail; refine CLM.out.mono ?_; rintro e wz ⟨rfl, rfl⟩; go_wp2_with fail; go_roundw; (case rel => exact ⟨m + 1, r - ln, hm2, hge, by omega, rfl, by go_num, HMN, trivial⟩); (case measure => simp [RowKit.intOf]; omega))))
        · have h366 : 0 ≤ l - 366 := by omega
          go_wp2_with fail
          go_roundw
          case rel => exact ⟨n + 1, l - 366, h366, by omega, by go_num, rfl, HN, trivial⟩
          case measure => simp [RowKit.intOf]; omega
  · have hD := decide_eq_false hd
    have CD := Lib.hid (cisDay_any d w)
    rw [hD] at CD
    unfold dateV
    rw [if_neg hd]
    clear hd hD hw
    go_enter Tryd.func34, Tryd.ntmps34
    go_wp2_with fail
    refine CD.out.mono ?_
    rintro e w' ⟨rfl, rfl⟩
    go_wp2_with fail
    go_ret3
    exact ⟨rfl, rfl⟩

set_option maxRecDepth 100000 in
set_option maxHeartbeats 8000000 in
theorem rdate_any (d : Int) (w : World) : Calls Tryd.prog 35 #[.int .i64 d] w fun e w' => e = .returned (dateV d) ∧ w' = w := by
  by_cases hd : 0 ≤ d ∧ d < 795364
  · have hD := decide_eq_true hd
    obtain ⟨h0, h1⟩ := hd
    have CD := Lib.hid (risDay_any d w)
    rw [hD] at CD
    have CLP := Lib.hid (fun (y : Int) (q : 0 ≤ y) => ryear_any y q w)
    have CLN := Lib.hid (fun (y m : Int) (q : 0 ≤ y) => rlen_any y m q w)
    have HOF := Lib.hid (fun (n m : Nat) (l r : Int) hc hm hl r0 r1 => dateV_of h0 h1 (n := n) (m := m) (l := l) (r := r) hc hm hl r0 r1)
    generalize hdv : dateV d = dv at *
    have HST : Hid (cumY 0 + d = d) := Lib.hid (by rw [show cumY 0 = 0 from rfl]; omega)
    clear hdv hD
    go_enter Tryd.func35, Tryd.ntmps35
    go_wp2_with fail
    refine CD.out.mono ?_
    rintro e w' ⟨rfl, rfl⟩
    go_wp2_with fail
    go_loopw [5, 6] (fun vl vy wr => ∃ (n : Nat) (l : Int), 0 ≤ l ∧ l < 795364 ∧ vy = .int .i64 (2001 + (n : Int)) ∧ vl = .int .i64 l ∧ Hid (cumY n + l = d) ∧ wr = w') (fun vl _ _ => (RowKit.intOf vl).toNat)
    case atStart => exact ⟨0, d, h0, h1, rfl, rfl, HST, rfl⟩
    case round =>
      clear HST
      obtain ⟨n, l, hl0, hl1, rfl, rfl, HC, rfl⟩ := hrel
      have hn := n_le HC.out hl0 h1
      have CL := Lib.hid (CLP.out (2001 + n) (by omega))
      have HN := Lib.hid (cum_next HC.out)
      have hyp := yearN_pos (2001 + n)
      have HYN : Hid (yearN (2001 + (n : Int)) = yearN (2001 + n)) := Lib.hid rfl
      generalize hyn : yearN (2001 + (n : Int)) = yn at CL HN hyp
      have HYN := Lib.hid hyn
      clear hyn
      obtain ⟨hy1, hy2⟩ := hyp
      by_cases hlt : l < yn
      · have HL : Hid (l < yearN (2001 + n)) := Lib.hid (by rw [HYN.out]; exact hlt)
        clear HN HYN
        go_wp2_with fail
        refine CL.out.mono ?_
        rintro e wz ⟨rfl, rfl⟩
        go_wp2_with fail
        clear CL CLP CD
        (obtain ⟨wo, hwo⟩ : ∃ wo, wo = wz := ⟨_, rfl⟩); go_loopw [5, 7] (fun vr vm wr => ∃ (m : Nat) (r : Int), m < 12 ∧ 0 ≤ r ∧ r ≤ 366 ∧ vr = .int .i64 r ∧ vm = .int .i64 ((m : Int) + 1) ∧ Hid (cumM (2001 + n) m + r = l) ∧ wr = wo) (fun vr _ _ => (RowKit.intOf vr).toNat); (case atStart => exact ⟨0, l, by omega, hl0, by omega, rfl, rfl, Lib.hid (by show (0 : Int) + l = l; omega), hwo.symm⟩); (case round => (obtain ⟨m, r, hm, hr0, hr1, rfl, rfl, HM, rfl⟩ := hrel); subst hwo; (have CLM := Lib.hid (CLN.out (2001 + n) ((m : Int) + 1) (by omega))); (have HMN := Lib.hid (cumM_next HM.out)); (have hlp := lenM_pos (2001 + n) ((m : Int) + 1)); (have HO := Lib.hid (fun (q : r < lenM (2001 + n) (m + 1)) => HOF.out n m l r HC.out hm HM.out hr0 q)); (have HMLT := Lib.hid (fun (q : lenM (2001 + n) (m + 1) ≤ r) => m_lt HM.out HL.out hm q)); generalize lenM (2001 + (n : Int)) ((m : Int) + 1) = ln at CLM HMN hlp HO HMLT; (obtain ⟨hlp1, hlp2⟩ := hlp); by_cases hrl : r < ln; (focus (have R := Lib.hid (HO.out hrl); clear HO HMN HMLT; go_wp2_with fail; refine CLM.out.mono ?_; rintro e wz ⟨rfl, rfl⟩; go_wp2_with fail; go_ret3; rw [R.out]; exact ⟨rfl, rfl⟩)); (focus (have hm2 := HMLT.out (by omega); have hge : 0 ≤ r - ln := (by omega); clear HO HMLT; go_wp2_with fail; refine CLM.out.mono ?_; rintro e wz ⟨rfl, rfl⟩; go_wp2_with fail; refine CLM.out.mono ?_; rintro e wz ⟨rfl, rfl⟩; go_wp2_with fail; go_roundw; (case rel => exact ⟨m + 1, r - ln, hm2, hge, by omega, rfl, by go_num, HMN, trivial⟩); (case measure => simp [RowKit.intOf]; omega))))
      · have hge : 0 ≤ l - yn := by omega
        go_wp2_with fail
        refine CL.out.mono ?_
        rintro e wz ⟨rfl, rfl⟩
        go_wp2_with fail
        refine CL.out.mono ?_
        rintro e wz ⟨rfl, rfl⟩
        go_wp2_with fail
        go_roundw
        case rel => exact ⟨n + 1, l - yn, hge, by omega, by go_num, rfl, HN, trivial⟩
        case measure => simp [RowKit.intOf]; omega
  · have hD := decide_eq_false hd
    have CD := Lib.hid (risDay_any d w)
    rw [hD] at CD
    unfold dateV
    rw [if_neg hd]
    clear hd hD
    go_enter Tryd.func35, Tryd.ntmps35
    go_wp2_with fail
    refine CD.out.mono ?_
    rintro e w' ⟨rfl, rfl⟩
    go_wp2_with fail
    go_ret3
    exact ⟨rfl, rfl⟩

theorem ret_i {a b : Int} (h : a = b) : (Ending.returned (.int .i64 a)) = .returned (.int .i64 b) := by rw [h]
theorem month_rng {d : Int} (h0 : 0 ≤ d) (h1 : d < 795364) : (ymd d).1 ≤ 2200 ∧ (ymd d).2.1 < 12 := ⟨(ymd_holds h0 h1).n_le h1, (ymd_holds h0 h1).m12⟩
set_option maxRecDepth 100000 in
set_option maxHeartbeats 2000000 in
theorem month_any (t : Int) {w : World} (hw : Mon w) : Calls Tryd.prog 12 #[.int .i64 t] w fun e w' => e = .returned (.int .i64 (monN t)) ∧ w' = w := by
  have CD := Lib.hid (cday_any t w)
  have CT := Lib.hid (cdate_any (dayN t) hw)
  unfold monN
  have hr : dayN t = -1 ∨ 0 ≤ dayN t := by unfold dayN; split <;> omega
  generalize dayN t = d at *
  clear hw
  unfold monD
  by_cases h0 : d < 0
  · rw [if_neg (by omega)]
    clear CT
    go_enter Tryd.func12, Tryd.ntmps12
    go_wp2_with fail
    refine CD.out.mono ?_
    rintro e w' ⟨rfl, rfl⟩
    go_wp2_with fail
    go_ret
    exact ⟨rfl, rfl⟩
  · by_cases h1 : d < 795364
    · rw [if_pos (by omega)]
      unfold dateV at CT
      rw [if_pos (by omega)] at CT
      have hm := month_rng (by omega : 0 ≤ d) h1
      generalize (ymd d).1 = n at *
      generalize (ymd d).2.1 = m at *
      generalize (ymd d).2.2 = r at *
      obtain ⟨hn, hm⟩ := hm
      go_enter Tryd.func12, Tryd.ntmps12
      go_wp2_with fail
      refine CD.out.mono ?_
      rintro e w' ⟨rfl, rfl⟩
      go_wp2_with fail
      refine CT.out.mono ?_
      rintro e w' ⟨rfl, rfl⟩
      go_wp2_with fail
      go_ret
      exact ⟨ret_i (by omega), rfl⟩
    · rw [if_neg (by omega)]
      unfold dateV at CT
      rw [if_neg (by omega)] at CT
      go_enter Tryd.func12, Tryd.ntmps12
      go_wp2_with fail
      refine CD.out.mono ?_
      rintro e w' ⟨rfl, rfl⟩
      go_wp2_with fail
      refine CT.out.mono ?_
      rintro e w' ⟨rfl, rfl⟩
      go_wp2_with fail
      go_ret
      exact ⟨rfl, rfl⟩
set_option maxRecDepth 100000 in
set_option maxHeartbeats 2000000 in
theorem rmonth_any (t : Int) (w : World) : Calls Tryd.prog 13 #[.int .i64 t] w fun e w' => e = .returned (.int .i64 (monN t)) ∧ w' = w := by
  have CD := Lib.hid (rday_any t w)
  have CT := Lib.hid (rdate_any (dayN t) w)
  unfold monN
  have hr : dayN t = -1 ∨ 0 ≤ dayN t := by unfold dayN; split <;> omega
  generalize dayN t = d at *
  unfold monD
  by_cases h1 : 0 ≤ d ∧ d < 795364
  · rw [if_pos h1]
    unfold dateV at CT
    rw [if_pos h1] at CT
    have hm := month_rng h1.1 h1.2
    generalize (ymd d).1 = n at *
    generalize (ymd d).2.1 = m at *
    generalize (ymd d).2.2 = r at *
    obtain ⟨hn, hm⟩ := hm
    clear h1
    go_enter Tryd.func13, Tryd.ntmps13
    go_wp2_with fail
    refine CD.out.mono ?_
    rintro e w' ⟨rfl, rfl⟩
    go_wp2_with fail
    refine CT.out.mono ?_
    rintro e w' ⟨rfl, rfl⟩
    go_wp2_with fail
    go_ret
    exact ⟨ret_i (by omega), rfl⟩
  · rw [if_neg h1]
    unfold dateV at CT
    rw [if_neg h1] at CT
    clear h1
    go_enter Tryd.func13, Tryd.ntmps13
    go_wp2_with fail
    refine CD.out.mono ?_
    rintro e w' ⟨rfl, rfl⟩
    go_wp2_with fail
    refine CT.out.mono ?_
    rintro e w' ⟨rfl, rfl⟩
    go_wp2_with fail
    go_ret
    exact ⟨rfl, rfl⟩
end Go.Proofs.YtlnnbkpcnhlfcaaDoor
