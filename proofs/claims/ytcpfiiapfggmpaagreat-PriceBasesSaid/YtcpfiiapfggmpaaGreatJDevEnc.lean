/- Joined texts: DevEnc, DetEnc. -/
import Derived.Test.YtcpfiiapfggmpaaGreatJFirst
import Derived.Test.YtcpfiiapfggmpaaGreatJRelMath
import Derived.Test.YtcpfiiapfggmpaaGreatJStabList
/- Devices as values. -/
namespace Go.Proofs.YtcpfiiapfggmpaaGreat
open Go.RowKit Go.Lib

structure Dv where
  name : ByteArray
  pt : ByteArray
  kind : Int
  lane : Int
  oA : Option Addr
  oc : Nat
  os : List Iv
  dA : Option Addr
  dc : Nat
  ds : List Iv
instance : Inhabited Dv := ⟨⟨⟨#[]⟩, ⟨#[]⟩, 0, 0, none, 0, [], none, 0, []⟩⟩
def encD (d : Dv) : List Value := [.string d.name, .string d.pt, .int .i64 d.kind, .int .i64 d.lane, .slice d.oA d.os.length d.oc, .slice d.dA d.ds.length d.dc]
theorem encD_ok : Enc encD 6 := ⟨fun _ => rfl, fun x u hu => by simp [encD] at hu; rcases hu with rfl | rfl | rfl | rfl | rfl | rfl <;> rfl⟩
def DV (d : Dv) : Value := .agg #[.string d.name, .string d.pt, .int .i64 d.kind, .int .i64 d.lane, .slice d.oA d.os.length d.oc, .slice d.dA d.ds.length d.dc]
def DOk (w : World) (d : Dv) : Prop := Rd encIv 2 w w.heap.size d.oA d.os ∧ Rd encIv 2 w w.heap.size d.dA d.ds
theorem DOk.st {w w' : World} {d : Dv} (h : DOk w d) (hb : Below w.heap.size w w') : DOk w' d := ⟨h.1.st hb, h.2.st hb⟩
def DsOk (w : World) (l : List Dv) : Prop := ∀ d ∈ l, DOk w d
theorem DsOk.st {w w' : World} {l : List Dv} (h : DsOk w l) (hb : Below w.heap.size w w') : DsOk w' l := fun d hd => (h d hd).st hb
theorem tyD : TyS Tryz.prog 29 284 6 96 := TyS.mk' (z := .agg #[.string ⟨#[]⟩, .string ⟨#[]⟩, .int .i64 0, .int .i64 0, .slice none 0 0, .slice none 0 0]) Tryz.underlying29 (by kernel_rfl) rfl (by omega)
theorem Rd.d {w : World} {B : Nat} {A : Option Addr} {l : List Dv} (h : Rd encD 6 w B A l) {i : Nat} (hi : i < l.length) :
    ∃ b off d, A = some ⟨b, off, none⟩ ∧ b < B ∧ l[i]? = some d ∧ w.cell? ⟨b, off + i * 6, none⟩ = some (.string d.name) ∧ w.cell? ⟨b, off + i * 6 + 1, none⟩ = some (.string d.pt) ∧ w.cell? ⟨b, off + i * 6 + 2, none⟩ = some (.int .i64 d.kind) ∧ w.cell? ⟨b, off + i * 6 + 3, none⟩ = some (.int .i64 d.lane) ∧ w.cell? ⟨b, off + i * 6 + 4, none⟩ = some (.slice d.oA d.os.length d.oc) ∧ w.cell? ⟨b, off + i * 6 + 5, none⟩ = some (.slice d.dA d.ds.length d.dc) := by
  obtain ⟨b, off, d, hA, hb, hx, hc⟩ := h.at_ hi
  exact ⟨b, off, d, hA, hb, hx, hc 0 _ rfl, hc 1 _ rfl, hc 2 _ rfl, hc 3 _ rfl, hc 4 _ rfl, hc 5 _ rfl⟩

abbrev Val := ByteArray × ByteArray × Int × Int × List Iv × List Iv
def vD (d : Dv) : Val := (d.name, d.pt, d.kind, d.lane, d.os, d.ds)

def smallD (d : Dv) : Prop := d.os.length ≤ 8796093022208 ∧ d.ds.length ≤ 100000000000
def tB (t : Int) : Bool := decide (0 ≤ t ∧ t < 68719476736)
theorem tB_yes {t : Int} (h : tB t = true) : 0 ≤ t ∧ t < 68719476736 := by simpa [tB] using h
theorem tB_no {t : Int} (h : tB t = false) : ¬ (0 ≤ t ∧ t < 68719476736) := by simpa [tB] using h
def delta (os : List Iv) (raw : Int) : Int := os.foldl (fun d o => if o.1 ≤ raw then o.2 else d) 0
theorem delta_snoc (os : List Iv) (o : Iv) (raw : Int) : delta (os ++ [o]) raw = if o.1 ≤ raw then o.2 else delta os raw := by simp [delta]
def clockB (d : Dv) (raw : Int) : Bool := tB raw && decide (-raw ≤ delta d.os raw) && decide (delta d.os raw < 68719476736 - raw)
def clockN (d : Dv) (raw : Int) : Int := if clockB d raw = true then raw + delta d.os raw else 0
theorem clock_no {d : Dv} {raw : Int} (h : clockB d raw = false) : clockN d raw = 0 := by unfold clockN; rw [h]; rfl
theorem clock_1 {d : Dv} {raw : Int} (h : tB raw = false) : clockB d raw = false := by unfold clockB; rw [h]; rfl
theorem clock_2 {d : Dv} {raw : Int} (h : tB raw = true) (h2 : delta d.os raw < -raw ∨ 68719476736 - raw ≤ delta d.os raw) : clockB d raw = false := by
  unfold clockB
  rw [h]
  rcases h2 with k | k
  · rw [decide_eq_false (by omega : ¬ -raw ≤ delta d.os raw)]; simp
  · rw [decide_eq_false (by omega : ¬ delta d.os raw < 68719476736 - raw)]; simp
theorem clock_3 {d : Dv} {raw : Int} (h : tB raw = true) (h1 : ¬ delta d.os raw < -raw) (h2 : ¬ 68719476736 - raw ≤ delta d.os raw) : clockB d raw = true ∧ clockN d raw = raw + delta d.os raw := by
  have e : clockB d raw = true := by
    unfold clockB
    rw [h, decide_eq_true (by omega : -raw ≤ delta d.os raw), decide_eq_true (by omega : delta d.os raw < 68719476736 - raw)]; rfl
  exact ⟨e, by unfold clockN; rw [if_pos e]⟩
def worksB (d : Dv) (t : Int) : Bool := tB t && !hasB d.ds t

end Go.Proofs.YtcpfiiapfggmpaaGreat
/- Detections, corrected detections and rejects as values; their orders. -/
namespace Go.Proofs.YtcpfiiapfggmpaaGreat
open Go.RowKit Go.Lib

structure Dt where
  dev : ByteArray
  seq : Int
  time : Int
  tag : ByteArray
  pl : ByteArray
  ax : Int
  sc : Int
instance : Inhabited Dt := ⟨⟨⟨#[]⟩, 0, 0, ⟨#[]⟩, ⟨#[]⟩, 0, 0⟩⟩
structure Sn where
  d : Dt
  t : Int
  pt : ByteArray
  lane : Int
  kind : Int
instance : Inhabited Sn := ⟨⟨default, 0, ⟨#[]⟩, 0, 0⟩⟩
structure Rj where
  d : Dt
  why : Int
instance : Inhabited Rj := ⟨⟨default, 0⟩⟩
def encDt (d : Dt) : List Value := [.string d.dev, .int .i64 d.seq, .int .i64 d.time, .string d.tag, .string d.pl, .int .i64 d.ax, .int .i64 d.sc]
def encSn (s : Sn) : List Value := [.string s.d.dev, .int .i64 s.d.seq, .int .i64 s.d.time, .string s.d.tag, .string s.d.pl, .int .i64 s.d.ax, .int .i64 s.d.sc, .int .i64 s.t, .string s.pt, .int .i64 s.lane, .int .i64 s.kind]
def encRj (r : Rj) : List Value := [.string r.d.dev, .int .i64 r.d.seq, .int .i64 r.d.time, .string r.d.tag, .string r.d.pl, .int .i64 r.d.ax, .int .i64 r.d.sc, .int .i64 r.why]
def DtV (d : Dt) : Value := .agg #[.string d.dev, .int .i64 d.seq, .int .i64 d.time, .string d.tag, .string d.pl, .int .i64 d.ax, .int .i64 d.sc]
def SnV (s : Sn) : Value := .agg #[.string s.d.dev, .int .i64 s.d.seq, .int .i64 s.d.time, .string s.d.tag, .string s.d.pl, .int .i64 s.d.ax, .int .i64 s.d.sc, .int .i64 s.t, .string s.pt, .int .i64 s.lane, .int .i64 s.kind]
def RjV (r : Rj) : Value := .agg #[.string r.d.dev, .int .i64 r.d.seq, .int .i64 r.d.time, .string r.d.tag, .string r.d.pl, .int .i64 r.d.ax, .int .i64 r.d.sc, .int .i64 r.why]
theorem encDt_ok : Enc encDt 7 := ⟨fun _ => rfl, fun x u hu => by simp [encDt] at hu; rcases hu with rfl | rfl | rfl | rfl | rfl | rfl | rfl <;> rfl⟩
theorem encSn_ok : Enc encSn 11 := ⟨fun _ => rfl, fun x u hu => by simp [encSn] at hu; rcases hu with rfl | rfl | rfl | rfl | rfl | rfl | rfl | rfl | rfl | rfl | rfl <;> rfl⟩
theorem encRj_ok : Enc encRj 8 := ⟨fun _ => rfl, fun x u hu => by simp [encRj] at hu; rcases hu with rfl | rfl | rfl | rfl | rfl | rfl | rfl | rfl <;> rfl⟩
def cmpDt (a b : Dt) : Int := firstI [cmpS a.dev b.dev, cmpI a.seq b.seq, cmpI a.time b.time, cmpS a.tag b.tag, cmpS a.pl b.pl, cmpI a.ax b.ax, cmpI a.sc b.sc]
def cmpSn (a b : Sn) : Int := firstI [cmpI a.t b.t, cmpS a.pt b.pt, cmpI a.kind b.kind, cmpI a.lane b.lane, cmpDt a.d b.d]
def cmpRj (a b : Rj) : Int := firstI [cmpDt a.d b.d, cmpI a.why b.why]
theorem firstI_zero : ∀ {l : List Int}, firstI l = 0 ↔ ∀ x ∈ l, x = 0
  | [] => by simp [firstI]
  | x :: l => by
    unfold firstI
    by_cases h : x = 0
    · rw [if_neg (by simp [h]), firstI_zero]; simp [h]
    · rw [if_pos h]; simp [h]
theorem firstI_one (x : Int) : firstI [x] = x := by unfold firstI; split; rfl; rename_i h; simp [firstI]; omega
theorem pre_one {α : Type} {f : α → α → Int} (h : PreC f) : PreC (fun a b => firstI [f a b]) := by
  have : (fun a b => firstI [f a b]) = f := by funext a b; exact firstI_one _
  rw [this]; exact h
theorem cmpDt_pre : PreC cmpDt :=
  (cmpS_pre.on Dt.dev).cons ((cmpI_pre.on Dt.seq).cons ((cmpI_pre.on Dt.time).cons ((cmpS_pre.on Dt.tag).cons ((cmpS_pre.on Dt.pl).cons ((cmpI_pre.on Dt.ax).cons (pre_one (cmpI_pre.on Dt.sc)))))))
theorem cmpSn_pre : PreC cmpSn :=
  (cmpI_pre.on Sn.t).cons ((cmpS_pre.on Sn.pt).cons ((cmpI_pre.on Sn.kind).cons ((cmpI_pre.on Sn.lane).cons (pre_one (cmpDt_pre.on Sn.d)))))
theorem cmpRj_pre : PreC cmpRj := (cmpDt_pre.on Rj.d).cons (pre_one (cmpI_pre.on Rj.why))
theorem cmpDt_zero {a b : Dt} : cmpDt a b = 0 ↔ a = b := by
  unfold cmpDt
  rw [firstI_zero]
  constructor
  · intro h
    have h1 := cmpS_zero.1 (h (cmpS a.dev b.dev) (by simp))
    have h2 := cmpI_zero.1 (h (cmpI a.seq b.seq) (by simp))
    have h3 := cmpI_zero.1 (h (cmpI a.time b.time) (by simp))
    have h4 := cmpS_zero.1 (h (cmpS a.tag b.tag) (by simp))
    have h5 := cmpS_zero.1 (h (cmpS a.pl b.pl) (by simp))
    have h6 := cmpI_zero.1 (h (cmpI a.ax b.ax) (by simp))
    have h7 := cmpI_zero.1 (h (cmpI a.sc b.sc) (by simp))
    cases a; cases b; simp_all
  · rintro rfl x hx
    simp only [List.mem_cons, List.not_mem_nil, or_false] at hx
    rcases hx with rfl | rfl | rfl | rfl | rfl | rfl | rfl <;> first | exact cmpS_zero.2 rfl | exact cmpI_zero.2 rfl
theorem cmpSn_zero {a b : Sn} : cmpSn a b = 0 ↔ a = b := by
  unfold cmpSn
  rw [firstI_zero]
  constructor
  · intro h
    have h1 := cmpI_zero.1 (h (cmpI a.t b.t) (by simp))
    have h2 := cmpS_zero.1 (h (cmpS a.pt b.pt) (by simp))
    have h3 := cmpI_zero.1 (h (cmpI a.kind b.kind) (by simp))
    have h4 := cmpI_zero.1 (h (cmpI a.lane b.lane) (by simp))
    have h5 := cmpDt_zero.1 (h (cmpDt a.d b.d) (by simp))
    cases a; cases b; simp_all
  · rintro rfl x hx
    simp only [List.mem_cons, List.not_mem_nil, or_false] at hx
    rcases hx with rfl | rfl | rfl | rfl | rfl <;> first | exact cmpS_zero.2 rfl | exact cmpI_zero.2 rfl | exact cmpDt_zero.2 rfl
theorem cmpRj_zero {a b : Rj} : cmpRj a b = 0 ↔ a = b := by
  unfold cmpRj
  rw [firstI_zero]
  constructor
  · intro h
    have h1 := cmpDt_zero.1 (h (cmpDt a.d b.d) (by simp))
    have h2 := cmpI_zero.1 (h (cmpI a.why b.why) (by simp))
    cases a; cases b; simp_all
  · rintro rfl x hx
    simp only [List.mem_cons, List.not_mem_nil, or_false] at hx
    rcases hx with rfl | rfl <;> first | exact cmpI_zero.2 rfl | exact cmpDt_zero.2 rfl
end Go.Proofs.YtcpfiiapfggmpaaGreat
