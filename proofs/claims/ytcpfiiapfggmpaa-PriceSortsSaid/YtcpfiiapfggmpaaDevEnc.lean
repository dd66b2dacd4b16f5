/- Devices as values. -/
import Derived.Test.YtcpfiiapfggmpaaJInts
import Derived.Test.YtcpfiiapfggmpaaBlk
namespace Go.Proofs.Ytcpfiiapfggmpaa
open Go.RowKit Go.Lib

structure Dv where
  name : ByteArray
  pt : ByteArray
  kind : Int
  lane : Int
  oA : Option Addr
  oc : Nat
  os : List Iv
  dA : Option Addr
  dc : Nat
  ds : List Iv
instance : Inhabited Dv := ⟨⟨⟨#[]⟩, ⟨#[]⟩, 0, 0, none, 0, [], none, 0, []⟩⟩
def encD (d : Dv) : List Value := [.string d.name, .string d.pt, .int .i64 d.kind, .int .i64 d.lane, .slice d.oA d.os.length d.oc, .slice d.dA d.ds.length d.dc]
theorem encD_ok : Enc encD 6 := ⟨fun _ => rfl, fun x u hu => by simp [encD] at hu; rcases hu with rfl | rfl | rfl | rfl | rfl | rfl <;> rfl⟩
def DV (d : Dv) : Value := .agg #[.string d.name, .string d.pt, .int .i64 d.kind, .int .i64 d.lane, .slice d.oA d.os.length d.oc, .slice d.dA d.ds.length d.dc]
def DOk (w : World) (d : Dv) : Prop := Rd encIv 2 w w.heap.size d.oA d.os ∧ Rd encIv 2 w w.heap.size d.dA d.ds
theorem DOk.st {w w' : World} {d : Dv} (h : DOk w d) (hb : Below w.heap.size w w') : DOk w' d := ⟨h.1.st hb, h.2.st hb⟩
def DsOk (w : World) (l : List Dv) : Prop := ∀ d ∈ l, DOk w d
theorem DsOk.st {w w' : World} {l : List Dv} (h : DsOk w l) (hb : Below w.heap.size w w') : DsOk w' l := fun d hd => (h d hd).st hb
theorem tyD : TyS Try.prog 59 206 6 96 := TyS.mk' (z := .agg #[.string ⟨#[]⟩, .string ⟨#[]⟩, .int .i64 0, .int .i64 0, .slice none 0 0, .slice none 0 0]) Try.underlying59 (by kernel_rfl) rfl (by omega)
theorem Rd.d {w : World} {B : Nat} {A : Option Addr} {l : List Dv} (h : Rd encD 6 w B A l) {i : Nat} (hi : i < l.length) :
    ∃ b off d, A = some ⟨b, off, none⟩ ∧ b < B ∧ l[i]? = some d ∧ w.cell? ⟨b, off + i * 6, none⟩ = some (.string d.name) ∧ w.cell? ⟨b, off + i * 6 + 1, none⟩ = some (.string d.pt) ∧ w.cell? ⟨b, off + i * 6 + 2, none⟩ = some (.int .i64 d.kind) ∧ w.cell? ⟨b, off + i * 6 + 3, none⟩ = some (.int .i64 d.lane) ∧ w.cell? ⟨b, off + i * 6 + 4, none⟩ = some (.slice d.oA d.os.length d.oc) ∧ w.cell? ⟨b, off + i * 6 + 5, none⟩ = some (.slice d.dA d.ds.length d.dc) := by
  obtain ⟨b, off, d, hA, hb, hx, hc⟩ := h.at_ hi
  exact ⟨b, off, d, hA, hb, hx, hc 0 _ rfl, hc 1 _ rfl, hc 2 _ rfl, hc 3 _ rfl, hc 4 _ rfl, hc 5 _ rfl⟩

abbrev Val := ByteArray × ByteArray × Int × Int × List Iv × List Iv
def vD (d : Dv) : Val := (d.name, d.pt, d.kind, d.lane, d.os, d.ds)

def smallD (d : Dv) : Prop := d.os.length ≤ 8796093022208 ∧ d.ds.length ≤ 100000000000
def tB (t : Int) : Bool := decide (0 ≤ t ∧ t < 68719476736)
theorem tB_yes {t : Int} (h : tB t = true) : 0 ≤ t ∧ t < 68719476736 := by simpa [tB] using h
theorem tB_no {t : Int} (h : tB t = false) : ¬ (0 ≤ t ∧ t < 68719476736) := by simpa [tB] using h
def delta (os : List Iv) (raw : Int) : Int := os.foldl (fun d o => if o.1 ≤ raw then o.2 else d) 0
theorem delta_snoc (os : List Iv) (o : Iv) (raw : Int) : delta (os ++ [o]) raw = if o.1 ≤ raw then o.2 else delta os raw := by simp [delta]
def clockB (d : Dv) (raw : Int) : Bool := tB raw && decide (-raw ≤ delta d.os raw) && decide (delta d.os raw < 68719476736 - raw)
def clockN (d : Dv) (raw : Int) : Int := if clockB d raw = true then raw + delta d.os raw else 0
theorem clock_no {d : Dv} {raw : Int} (h : clockB d raw = false) : clockN d raw = 0 := by unfold clockN; rw [h]; rfl
theorem clock_1 {d : Dv} {raw : Int} (h : tB raw = false) : clockB d raw = false := by unfold clockB; rw [h]; rfl
theorem clock_2 {d : Dv} {raw : Int} (h : tB raw = true) (h2 : delta d.os raw < -raw ∨ 68719476736 - raw ≤ delta d.os raw) : clockB d raw = false := by
  unfold clockB
  rw [h]
  rcases h2 with k | k
  · rw [decide_eq_false (by omega : ¬ -raw ≤ delta d.os raw)]; simp
  · rw [decide_eq_false (by omega : ¬ delta d.os raw < 68719476736 - raw)]; simp
theorem clock_3 {d : Dv} {raw : Int} (h : tB raw = true) (h1 : ¬ delta d.os raw < -raw) (h2 : ¬ 68719476736 - raw ≤ delta d.os raw) : clockB d raw = true ∧ clockN d raw = raw + delta d.os raw := by
  have e : clockB d raw = true := by
    unfold clockB
    rw [h, decide_eq_true (by omega : -raw ≤ delta d.os raw), decide_eq_true (by omega : delta d.os raw < 68719476736 - raw)]; rfl
  exact ⟨e, by unfold clockN; rw [if_pos e]⟩
def worksB (d : Dv) (t : Int) : Bool := tB t && !hasB d.ds t

end Go.Proofs.Ytcpfiiapfggmpaa
