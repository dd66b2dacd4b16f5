/- Joined texts: ZoneRefName, ZoneEnc. -/
import Derived.Test.YtcpfiiapfggmpaaName
import Derived.Test.YtcpfiiapfggmpaaJZoneLeaf
import Derived.Test.YtcpfiiapfggmpaaFirst
/- The reference's IsName. -/
namespace Go.Proofs.Ytcpfiiapfggmpaa
open Go.RowKit Go.Lib

end Go.Proofs.Ytcpfiiapfggmpaa
/- How windows, steps and zones lie; the error of steps and of a zone, in plain words. -/
namespace Go.Proofs.Ytcpfiiapfggmpaa
open Go.RowKit Go.Lib

def encW (x : Wn) : List Value := [.int .i64 x.1, .int .i64 x.2.1, .int .i64 x.2.2]
theorem encW_ok : Enc encW 3 := ⟨fun _ => rfl, fun x u hu => by simp [encW] at hu; rcases hu with rfl | rfl | rfl <;> rfl⟩
theorem tyW : TyS Try.prog 47 112 3 24 := TyS.mk' (z := .agg #[.int .i64 0, .int .i64 0, .int .i64 0]) Try.underlying47 (by kernel_rfl) rfl (by omega)
theorem tyP : TyS Try.prog 48 148 3 24 := TyS.mk' (z := .agg #[.int .i64 0, .int .i64 0, .int .i64 0]) Try.underlying48 (by kernel_rfl) rfl (by omega)
/-- three integers in a row -/
theorem Rd.w3 {w : World} {B : Nat} {A : Option Addr} {l : List Wn} (h : Rd encW 3 w B A l) {i : Nat} (hi : i < l.length) :
    ∃ b off x y z, A = some ⟨b, off, none⟩ ∧ b < B ∧ l[i]? = some (x, y, z) ∧ w.cell? ⟨b, off + i * 3, none⟩ = some (.int .i64 x) ∧ w.cell? ⟨b, off + i * 3 + 1, none⟩ = some (.int .i64 y) ∧ w.cell? ⟨b, off + i * 3 + 2, none⟩ = some (.int .i64 z) := by
  obtain ⟨b, off, ⟨x, y, z⟩, hA, hb, hx, hc⟩ := h.at_ hi
  exact ⟨b, off, x, y, z, hA, hb, hx, hc 0 _ rfl, hc 1 _ rfl, hc 2 _ rfl⟩

structure Zn where
  name : ByteArray
  hA : Option Addr
  hc : Nat
  hs : List Wn
  sA : Option Addr
  sc : Nat
  ss : List Wn
  grace : Int
  free : Int
  dayMax : Int
  maxStay : Int
def encZ (z : Zn) : List Value := [.string z.name, .slice z.hA z.hs.length z.hc, .slice z.sA z.ss.length z.sc, .int .i64 z.grace, .int .i64 z.free, .int .i64 z.dayMax, .int .i64 z.maxStay]
theorem encZ_ok : Enc encZ 7 := ⟨fun _ => rfl, fun x u hu => by simp [encZ] at hu; rcases hu with rfl | rfl | rfl | rfl | rfl | rfl | rfl <;> rfl⟩
/-- what a zone's slices read as -/
def ZOk (w : World) (z : Zn) : Prop := Rd encW 3 w w.heap.size z.hA z.hs ∧ Rd encW 3 w w.heap.size z.sA z.ss
theorem ZOk.st {w w' : World} {z : Zn} (h : ZOk w z) (hb : Below w.heap.size w w') : ZOk w' z := ⟨h.1.st hb, h.2.st hb⟩

/-! ### the errors -/
def prevU (ss : List Wn) (i : Nat) : Int := ((ss[i - 1]?).map fun x => x.1).getD 0
def stepX (n i : Nat) (pu : Int) (x : Wn) : Int :=
  if x.2.1 < 1 ∨ 68719476736 < x.2.1 ∨ x.2.2 < 0 ∨ 2147483648 < x.2.2 then 1
  else if i + 1 = n then (if x.1 = 0 then 0 else 12)
  else if x.1 < 1 ∨ 68719476736 < x.1 then 12
  else if 0 < i ∧ x.1 ≤ pu then 15 else 0
def stepE (ss : List Wn) (i : Nat) : Int := ((ss[i]?).map fun x => stepX ss.length i (prevU ss i) x).getD 0
def stepsE (ss : List Wn) : Int := if 16 < ss.length then 3 else if ss.length = 0 then 1 else firstE (stepE ss) ss.length
def rangeZ (n m : Int) : Prop := 0 ≤ n ∧ n ≤ m
instance (n m : Int) : Decidable (rangeZ n m) := by unfold rangeZ; infer_instance
def tailE (z : Zn) : Int :=
  if ¬ rangeZ z.grace 68719476736 ∨ ¬ rangeZ z.free 68719476736 ∨ ¬ rangeZ z.maxStay 68719476736 then 12
  else if ¬ rangeZ z.dayMax 1125899906842624 then 13 else 0
def checkE (z : Zn) : Int :=
  if nameB z.name = false then 6 else if 32 < z.hs.length then 3 else if z.hs.all vw = false then 12
  else if stepsE z.ss ≠ 0 then stepsE z.ss else tailE z
end Go.Proofs.Ytcpfiiapfggmpaa
