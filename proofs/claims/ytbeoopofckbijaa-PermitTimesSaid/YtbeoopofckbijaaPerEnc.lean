/- Permits as values; what a permit says, in plain words. -/
import Derived.Test.YtbeoopofckbijaaJZoneOn
import Derived.Test.YtbeoopofckbijaaJZoneRefName
import Derived.Test.YtbeoopofckbijaaDetPl
import Derived.Test.YtbeoopofckbijaaBlk
namespace Go.Proofs.Ytbeoopofckbijaa
open Go.RowKit Go.Lib

def encStr (s : ByteArray) : List Value := [.string s]
theorem encStr_ok : Enc encStr 1 := ⟨fun _ => rfl, fun x u hu => by simp [encStr] at hu; subst hu; rfl⟩
theorem tyStr : TyS Try.prog 28 9 1 16 := TyS.mk' (z := .string ⟨#[]⟩) Try.underlying28 (by kernel_rfl) rfl (by omega)
theorem Rd.str {w : World} {B : Nat} {A : Option Addr} {l : List ByteArray} (h : Rd encStr 1 w B A l) {i : Nat} (hi : i < l.length) :
    ∃ b off s, A = some ⟨b, off, none⟩ ∧ b < B ∧ l[i]? = some s ∧ w.cell? ⟨b, off + i, none⟩ = some (.string s) := by
  obtain ⟨b, off, s, hA, hb, hx, hc⟩ := h.at_ hi
  exact ⟨b, off, s, hA, hb, hx, by simpa using hc 0 _ rfl⟩
structure Pm where
  name : ByteArray
  zone : ByteArray
  pA : Option Addr
  pc : Nat
  ps : List ByteArray
  v0 : Int
  v1 : Int
  hA : Option Addr
  hc : Nat
  hs : List Wn
  most : Int
def encPm (p : Pm) : List Value := [.string p.name, .string p.zone, .slice p.pA p.ps.length p.pc, .int .i64 p.v0, .int .i64 p.v1, .slice p.hA p.hs.length p.hc, .int .i64 p.most]
theorem encPm_ok : Enc encPm 7 := ⟨fun _ => rfl, fun x u hu => by simp [encPm] at hu; rcases hu with rfl | rfl | rfl | rfl | rfl | rfl | rfl <;> rfl⟩
def PmV (p : Pm) : Value := .agg #[.string p.name, .string p.zone, .slice p.pA p.ps.length p.pc, .int .i64 p.v0, .int .i64 p.v1, .slice p.hA p.hs.length p.hc, .int .i64 p.most]
def POk (w : World) (p : Pm) : Prop := Rd encStr 1 w w.heap.size p.pA p.ps ∧ Rd encW 3 w w.heap.size p.hA p.hs ∧ (p.ps.length ≤ p.pc ∧ p.pc ≤ 9223372036854775807) ∧ p.hs.length ≤ 9223372036854775807
theorem POk.st {w w' : World} {p : Pm} (h : POk w p) (hb : Below w.heap.size w w') : POk w' p := ⟨h.1.st hb, h.2.1.st hb, h.2.2⟩
def PsOk (w : World) (l : List Pm) : Prop := ∀ p ∈ l, POk w p
theorem PsOk.st {w w' : World} {l : List Pm} (h : PsOk w l) (hb : Below w.heap.size w w') : PsOk w' l := fun p hp => (h p hp).st hb
theorem Rd.pm {w : World} {B : Nat} {A : Option Addr} {l : List Pm} (h : Rd encPm 7 w B A l) {i : Nat} (hi : i < l.length) :
    ∃ b off p, A = some ⟨b, off, none⟩ ∧ b < B ∧ l[i]? = some p ∧ w.cell? ⟨b, off + i * 7, none⟩ = some (.string p.name) ∧ w.cell? ⟨b, off + i * 7 + 1, none⟩ = some (.string p.zone) ∧ w.cell? ⟨b, off + i * 7 + 2, none⟩ = some (.slice p.pA p.ps.length p.pc) ∧ w.cell? ⟨b, off + i * 7 + 3, none⟩ = some (.int .i64 p.v0) ∧ w.cell? ⟨b, off + i * 7 + 4, none⟩ = some (.int .i64 p.v1) ∧ w.cell? ⟨b, off + i * 7 + 5, none⟩ = some (.slice p.hA p.hs.length p.hc) ∧ w.cell? ⟨b, off + i * 7 + 6, none⟩ = some (.int .i64 p.most) := by
  obtain ⟨b, off, p, hA, hb, hx, hc⟩ := h.at_ hi
  exact ⟨b, off, p, hA, hb, hx, hc 0 _ rfl, hc 1 _ rfl, hc 2 _ rfl, hc 3 _ rfl, hc 4 _ rfl, hc 5 _ rfl, hc 6 _ rfl⟩

/-- a plate is listed -/
def hasS (l : List ByteArray) (s : ByteArray) : Bool := l.any fun y => eqS s y
def listB (ps : List ByteArray) (s : ByteArray) : Bool := plB s && hasS ps (plS s)
def wAtB (x : Wn) (t : Int) : Bool := decide (0 ≤ t ∧ t < 68719476736) && decide (wAt x t)
def hrsB (hs : List Wn) (t : Int) : Bool := decide (hs.length = 0) || hs.any fun x => wAtB x t
/-- a permit allows a vehicle at a time -/
def validP (p : Pm) (s : ByteArray) (t : Int) : Bool := listB p.ps s && hasB [(p.v0, p.v1)] t && hrsB p.hs t
theorem hasB_mem {l : List Iv} {t : Int} : hasB l t = true ↔ Mem l t := by
  unfold hasB Mem
  rw [List.any_eq_true]
  constructor
  · rintro ⟨x, hx, h⟩
    simp only [Bool.and_eq_true, decide_eq_true_eq, validB_iff] at h
    exact ⟨x, hx, h.1.1, h.1.2, h.2⟩
  · rintro ⟨x, hx, h1, h2, h3⟩
    exact ⟨x, hx, by simp only [Bool.and_eq_true, decide_eq_true_eq, validB_iff]; exact ⟨⟨h1, h2⟩, h3⟩⟩
end Go.Proofs.Ytbeoopofckbijaa
