/- Accounts as values. -/
import Derived.Test.YtfdnciijibiodaaAccMath
import Derived.Test.YtfdnciijibiodaaIv
import Derived.Test.YtfdnciijibiodaaMore
import Derived.Test.YtfdnciijibiodaaBlk
namespace Go.Proofs.Ytfdnciijibiodaa
open Go.RowKit Go.Lib

instance : Inhabited Ow := ⟨⟨⟨#[]⟩, ⟨#[]⟩, 0, 0⟩⟩
instance : Inhabited Av := ⟨zeroA⟩
def encOw (o : Ow) : List Value := [.string o.tag, .string o.pl, .int .i64 o.f, .int .i64 o.t]
theorem encOw_ok : Enc encOw 4 := ⟨fun _ => rfl, fun x u hu => by simp [encOw] at hu; rcases hu with rfl | rfl | rfl | rfl <;> rfl⟩
theorem tyOw : TyS Try.prog 35 43 4 48 := TyS.mk' (z := .agg #[.string ⟨#[]⟩, .string ⟨#[]⟩, .int .i64 0, .int .i64 0]) Try.underlying35 (by kernel_rfl) rfl (by omega)
def OwV (o : Ow) : Value := .agg #[.string o.tag, .string o.pl, .int .i64 o.f, .int .i64 o.t]
def zeroOw : Ow := ⟨⟨#[]⟩, ⟨#[]⟩, 0, 0⟩
theorem Rd.ow {w : World} {B : Nat} {A : Option Addr} {l : List Ow} (h : Rd encOw 4 w B A l) {i : Nat} (hi : i < l.length) :
    ∃ b off o, A = some ⟨b, off, none⟩ ∧ b < B ∧ l[i]? = some o ∧ w.cell? ⟨b, off + i * 4, none⟩ = some (.string o.tag) ∧ w.cell? ⟨b, off + i * 4 + 1, none⟩ = some (.string o.pl) ∧ w.cell? ⟨b, off + i * 4 + 2, none⟩ = some (.int .i64 o.f) ∧ w.cell? ⟨b, off + i * 4 + 3, none⟩ = some (.int .i64 o.t) := by
  obtain ⟨b, off, o, hA, hb, hx, hc⟩ := h.at_ hi
  exact ⟨b, off, o, hA, hb, hx, hc 0 _ rfl, hc 1 _ rfl, hc 2 _ rfl, hc 3 _ rfl⟩

/-- an account: its values, and where its vehicles lie -/
structure Ac where
  v : Av
  oA : Option Addr
  oc : Nat
instance : Inhabited Ac := ⟨⟨zeroA, none, 0⟩⟩
def encAc (a : Ac) : List Value := [.string a.v.name, .string a.v.ag, .bool a.v.pre, .slice a.oA a.v.os.length a.oc, .int .i64 a.v.r0, .int .i64 a.v.r1, .int .i64 a.v.r2, .int .i64 a.v.r3, .bool a.v.ex]
theorem encAc_ok : Enc encAc 9 := ⟨fun _ => rfl, fun x u hu => by simp [encAc] at hu; rcases hu with rfl | rfl | rfl | rfl | rfl | rfl | rfl | rfl | rfl <;> rfl⟩
def AcV (a : Ac) : Value := .agg #[.string a.v.name, .string a.v.ag, .bool a.v.pre, .slice a.oA a.v.os.length a.oc, .int .i64 a.v.r0, .int .i64 a.v.r1, .int .i64 a.v.r2, .int .i64 a.v.r3, .bool a.v.ex]
theorem tyAc : TyS Try.prog 22 39 9 104 := TyS.mk' (z := .agg #[.string ⟨#[]⟩, .string ⟨#[]⟩, .bool false, .slice none 0 0, .int .i64 0, .int .i64 0, .int .i64 0, .int .i64 0, .bool false]) Try.underlying22 (by kernel_rfl) rfl (by omega)
def zeroAc : Ac := ⟨zeroA, none, 0⟩
def AOk (w : World) (a : Ac) : Prop := Rd encOw 4 w w.heap.size a.oA a.v.os ∧ a.v.os.length ≤ a.oc ∧ a.oc ≤ 9223372036854775807
theorem AOk.st {w w' : World} {a : Ac} (h : AOk w a) (hb : Below w.heap.size w w') : AOk w' a := ⟨h.1.st hb, h.2⟩
def AsOk (w : World) (l : List Ac) : Prop := ∀ a ∈ l, AOk w a
theorem AsOk.st {w w' : World} {l : List Ac} (h : AsOk w l) (hb : Below w.heap.size w w') : AsOk w' l := fun a ha => (h a ha).st hb
/-- the list lies in memory -/
def AL (w : World) (A : Option Addr) (c : Nat) (l : List Ac) : Prop := Rd encAc 9 w w.heap.size A l ∧ AsOk w l ∧ l.length ≤ c ∧ c ≤ 9223372036854775807
theorem AL.st {w w' : World} {A : Option Addr} {c : Nat} {l : List Ac} (h : AL w A c l) (hb : Below w.heap.size w w') : AL w' A c l := ⟨h.1.st hb, h.2.1.st hb, h.2.2⟩
def vals (l : List Ac) : List Av := l.map Ac.v
/-- strings and lists are not too long -/
def smO (o : Ow) : Prop := o.tag.size ≤ 1000 ∧ o.pl.size ≤ 1000
def smA (a : Ac) : Prop := a.v.os.length ≤ 1000 ∧ ∀ o ∈ a.v.os, smO o
def smL (l : List Ac) : Prop := l.length ≤ 1000 ∧ ∀ a ∈ l, smA a
theorem Rd.ac {w : World} {B : Nat} {A : Option Addr} {l : List Ac} (h : Rd encAc 9 w B A l) {i : Nat} (hi : i < l.length) :
    ∃ b off a, A = some ⟨b, off, none⟩ ∧ b < B ∧ l[i]? = some a ∧ w.cell? ⟨b, off + i * 9, none⟩ = some (.string a.v.name) ∧ w.cell? ⟨b, off + i * 9 + 1, none⟩ = some (.string a.v.ag) ∧ w.cell? ⟨b, off + i * 9 + 2, none⟩ = some (.bool a.v.pre) ∧ w.cell? ⟨b, off + i * 9 + 3, none⟩ = some (.slice a.oA a.v.os.length a.oc) ∧ w.cell? ⟨b, off + i * 9 + 4, none⟩ = some (.int .i64 a.v.r0) ∧ w.cell? ⟨b, off + i * 9 + 5, none⟩ = some (.int .i64 a.v.r1) ∧ w.cell? ⟨b, off + i * 9 + 6, none⟩ = some (.int .i64 a.v.r2) ∧ w.cell? ⟨b, off + i * 9 + 7, none⟩ = some (.int .i64 a.v.r3) ∧ w.cell? ⟨b, off + i * 9 + 8, none⟩ = some (.bool a.v.ex) := by
  obtain ⟨b, off, a, hA, hb, hx, hc⟩ := h.at_ hi
  exact ⟨b, off, a, hA, hb, hx, hc 0 _ rfl, hc 1 _ rfl, hc 2 _ rfl, hc 3 _ rfl, hc 4 _ rfl, hc 5 _ rfl, hc 6 _ rfl, hc 7 _ rfl, hc 8 _ rfl⟩
end Go.Proofs.Ytfdnciijibiodaa
