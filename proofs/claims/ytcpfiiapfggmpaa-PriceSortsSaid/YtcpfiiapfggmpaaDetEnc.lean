/- Detections, corrected detections and rejects as values; their orders. -/
import Derived.Test.YtcpfiiapfggmpaaDetMath
import Derived.Test.YtcpfiiapfggmpaaDevEnc
import Derived.Test.YtcpfiiapfggmpaaJInts
import Derived.Test.YtcpfiiapfggmpaaBlk
namespace Go.Proofs.Ytcpfiiapfggmpaa
open Go.RowKit Go.Lib

structure Dt where
  dev : ByteArray
  seq : Int
  time : Int
  tag : ByteArray
  pl : ByteArray
  ax : Int
  sc : Int
instance : Inhabited Dt := ⟨⟨⟨#[]⟩, 0, 0, ⟨#[]⟩, ⟨#[]⟩, 0, 0⟩⟩
structure Sn where
  d : Dt
  t : Int
  pt : ByteArray
  lane : Int
  kind : Int
instance : Inhabited Sn := ⟨⟨default, 0, ⟨#[]⟩, 0, 0⟩⟩
structure Rj where
  d : Dt
  why : Int
instance : Inhabited Rj := ⟨⟨default, 0⟩⟩
def encDt (d : Dt) : List Value := [.string d.dev, .int .i64 d.seq, .int .i64 d.time, .string d.tag, .string d.pl, .int .i64 d.ax, .int .i64 d.sc]
def encSn (s : Sn) : List Value := [.string s.d.dev, .int .i64 s.d.seq, .int .i64 s.d.time, .string s.d.tag, .string s.d.pl, .int .i64 s.d.ax, .int .i64 s.d.sc, .int .i64 s.t, .string s.pt, .int .i64 s.lane, .int .i64 s.kind]
def encRj (r : Rj) : List Value := [.string r.d.dev, .int .i64 r.d.seq, .int .i64 r.d.time, .string r.d.tag, .string r.d.pl, .int .i64 r.d.ax, .int .i64 r.d.sc, .int .i64 r.why]
def DtV (d : Dt) : Value := .agg #[.string d.dev, .int .i64 d.seq, .int .i64 d.time, .string d.tag, .string d.pl, .int .i64 d.ax, .int .i64 d.sc]
def SnV (s : Sn) : Value := .agg #[.string s.d.dev, .int .i64 s.d.seq, .int .i64 s.d.time, .string s.d.tag, .string s.d.pl, .int .i64 s.d.ax, .int .i64 s.d.sc, .int .i64 s.t, .string s.pt, .int .i64 s.lane, .int .i64 s.kind]
def RjV (r : Rj) : Value := .agg #[.string r.d.dev, .int .i64 r.d.seq, .int .i64 r.d.time, .string r.d.tag, .string r.d.pl, .int .i64 r.d.ax, .int .i64 r.d.sc, .int .i64 r.why]
theorem encDt_ok : Enc encDt 7 := ⟨fun _ => rfl, fun x u hu => by simp [encDt] at hu; rcases hu with rfl | rfl | rfl | rfl | rfl | rfl | rfl <;> rfl⟩
theorem encSn_ok : Enc encSn 11 := ⟨fun _ => rfl, fun x u hu => by simp [encSn] at hu; rcases hu with rfl | rfl | rfl | rfl | rfl | rfl | rfl | rfl | rfl | rfl | rfl <;> rfl⟩
theorem encRj_ok : Enc encRj 8 := ⟨fun _ => rfl, fun x u hu => by simp [encRj] at hu; rcases hu with rfl | rfl | rfl | rfl | rfl | rfl | rfl | rfl <;> rfl⟩
def cmpDt (a b : Dt) : Int := firstI [cmpS a.dev b.dev, cmpI a.seq b.seq, cmpI a.time b.time, cmpS a.tag b.tag, cmpS a.pl b.pl, cmpI a.ax b.ax, cmpI a.sc b.sc]
def cmpSn (a b : Sn) : Int := firstI [cmpI a.t b.t, cmpS a.pt b.pt, cmpI a.kind b.kind, cmpI a.lane b.lane, cmpDt a.d b.d]
def cmpRj (a b : Rj) : Int := firstI [cmpDt a.d b.d, cmpI a.why b.why]
theorem firstI_zero : ∀ {l : List Int}, firstI l = 0 ↔ ∀ x ∈ l, x = 0
  | [] => by simp [firstI]
  | x :: l => by
    unfold firstI
    by_cases h : x = 0
    · rw [if_neg (by simp [h]), firstI_zero]; simp [h]
    · rw [if_pos h]; simp [h]
theorem firstI_one (x : Int) : firstI [x] = x := by unfold firstI; split; rfl; rename_i h; simp [firstI]; omega
theorem pre_one {α : Type} {f : α → α → Int} (h : PreC f) : PreC (fun a b => firstI [f a b]) := by
  have : (fun a b => firstI [f a b]) = f := by funext a b; exact firstI_one _
  rw [this]; exact h
theorem cmpDt_pre : PreC cmpDt :=
  (cmpS_pre.on Dt.dev).cons ((cmpI_pre.on Dt.seq).cons ((cmpI_pre.on Dt.time).cons ((cmpS_pre.on Dt.tag).cons ((cmpS_pre.on Dt.pl).cons ((cmpI_pre.on Dt.ax).cons (pre_one (cmpI_pre.on Dt.sc)))))))
theorem cmpSn_pre : PreC cmpSn :=
  (cmpI_pre.on Sn.t).cons ((cmpS_pre.on Sn.pt).cons ((cmpI_pre.on Sn.kind).cons ((cmpI_pre.on Sn.lane).cons (pre_one (cmpDt_pre.on Sn.d)))))
theorem cmpRj_pre : PreC cmpRj := (cmpDt_pre.on Rj.d).cons (pre_one (cmpI_pre.on Rj.why))
theorem cmpDt_zero {a b : Dt} : cmpDt a b = 0 ↔ a = b := by
  unfold cmpDt
  rw [firstI_zero]
  constructor
  · intro h
    have h1 := cmpS_zero.1 (h (cmpS a.dev b.dev) (by simp))
    have h2 := cmpI_zero.1 (h (cmpI a.seq b.seq) (by simp))
    have h3 := cmpI_zero.1 (h (cmpI a.time b.time) (by simp))
    have h4 := cmpS_zero.1 (h (cmpS a.tag b.tag) (by simp))
    have h5 := cmpS_zero.1 (h (cmpS a.pl b.pl) (by simp))
    have h6 := cmpI_zero.1 (h (cmpI a.ax b.ax) (by simp))
    have h7 := cmpI_zero.1 (h (cmpI a.sc b.sc) (by simp))
    cases a; cases b; simp_all
  · rintro rfl x hx
    simp only [List.mem_cons, List.not_mem_nil, or_false] at hx
    rcases hx with rfl | rfl | rfl | rfl | rfl | rfl | rfl <;> first | exact cmpS_zero.2 rfl | exact cmpI_zero.2 rfl
theorem cmpSn_zero {a b : Sn} : cmpSn a b = 0 ↔ a = b := by
  unfold cmpSn
  rw [firstI_zero]
  constructor
  · intro h
    have h1 := cmpI_zero.1 (h (cmpI a.t b.t) (by simp))
    have h2 := cmpS_zero.1 (h (cmpS a.pt b.pt) (by simp))
    have h3 := cmpI_zero.1 (h (cmpI a.kind b.kind) (by simp))
    have h4 := cmpI_zero.1 (h (cmpI a.lane b.lane) (by simp))
    have h5 := cmpDt_zero.1 (h (cmpDt a.d b.d) (by simp))
    cases a; cases b; simp_all
  · rintro rfl x hx
    simp only [List.mem_cons, List.not_mem_nil, or_false] at hx
    rcases hx with rfl | rfl | rfl | rfl | rfl <;> first | exact cmpS_zero.2 rfl | exact cmpI_zero.2 rfl | exact cmpDt_zero.2 rfl
theorem cmpRj_zero {a b : Rj} : cmpRj a b = 0 ↔ a = b := by
  unfold cmpRj
  rw [firstI_zero]
  constructor
  · intro h
    have h1 := cmpDt_zero.1 (h (cmpDt a.d b.d) (by simp))
    have h2 := cmpI_zero.1 (h (cmpI a.why b.why) (by simp))
    cases a; cases b; simp_all
  · rintro rfl x hx
    simp only [List.mem_cons, List.not_mem_nil, or_false] at hx
    rcases hx with rfl | rfl <;> first | exact cmpI_zero.2 rfl | exact cmpDt_zero.2 rfl
end Go.Proofs.Ytcpfiiapfggmpaa
