/- Joined texts: DevEnc, DetEnc, CapMath, CapMap2. -/
import Derived.Test.YtlnnbkpcnhlfcaaDoorJInts
import Derived.Test.YtlnnbkpcnhlfcaaDoorJStabList
import Derived.Test.YtlnnbkpcnhlfcaaDoorJBox
/- Devices as values. -/
namespace Go.Proofs.YtlnnbkpcnhlfcaaDoor
open Go.RowKit Go.Lib

structure Dv where
  name : ByteArray
  pt : ByteArray
  kind : Int
  lane : Int
  oA : Option Addr
  oc : Nat
  os : List Iv
  dA : Option Addr
  dc : Nat
  ds : List Iv
instance : Inhabited Dv := ⟨⟨⟨#[]⟩, ⟨#[]⟩, 0, 0, none, 0, [], none, 0, []⟩⟩
def encD (d : Dv) : List Value := [.string d.name, .string d.pt, .int .i64 d.kind, .int .i64 d.lane, .slice d.oA d.os.length d.oc, .slice d.dA d.ds.length d.dc]
theorem encD_ok : Enc encD 6 := ⟨fun _ => rfl, fun x u hu => by simp [encD] at hu; rcases hu with rfl | rfl | rfl | rfl | rfl | rfl <;> rfl⟩
def DV (d : Dv) : Value := .agg #[.string d.name, .string d.pt, .int .i64 d.kind, .int .i64 d.lane, .slice d.oA d.os.length d.oc, .slice d.dA d.ds.length d.dc]
def DOk (w : World) (d : Dv) : Prop := Rd encIv 2 w w.heap.size d.oA d.os ∧ Rd encIv 2 w w.heap.size d.dA d.ds
theorem DOk.st {w w' : World} {d : Dv} (h : DOk w d) (hb : Below w.heap.size w w') : DOk w' d := ⟨h.1.st hb, h.2.st hb⟩
def DsOk (w : World) (l : List Dv) : Prop := ∀ d ∈ l, DOk w d
theorem DsOk.st {w w' : World} {l : List Dv} (h : DsOk w l) (hb : Below w.heap.size w w') : DsOk w' l := fun d hd => (h d hd).st hb
theorem tyD : TyS Tryd.prog 47 194 6 96 := TyS.mk' (z := .agg #[.string ⟨#[]⟩, .string ⟨#[]⟩, .int .i64 0, .int .i64 0, .slice none 0 0, .slice none 0 0]) Tryd.underlying47 (by kernel_rfl) rfl (by omega)
theorem Rd.d {w : World} {B : Nat} {A : Option Addr} {l : List Dv} (h : Rd encD 6 w B A l) {i : Nat} (hi : i < l.length) :
    ∃ b off d, A = some ⟨b, off, none⟩ ∧ b < B ∧ l[i]? = some d ∧ w.cell? ⟨b, off + i * 6, none⟩ = some (.string d.name) ∧ w.cell? ⟨b, off + i * 6 + 1, none⟩ = some (.string d.pt) ∧ w.cell? ⟨b, off + i * 6 + 2, none⟩ = some (.int .i64 d.kind) ∧ w.cell? ⟨b, off + i * 6 + 3, none⟩ = some (.int .i64 d.lane) ∧ w.cell? ⟨b, off + i * 6 + 4, none⟩ = some (.slice d.oA d.os.length d.oc) ∧ w.cell? ⟨b, off + i * 6 + 5, none⟩ = some (.slice d.dA d.ds.length d.dc) := by
  obtain ⟨b, off, d, hA, hb, hx, hc⟩ := h.at_ hi
  exact ⟨b, off, d, hA, hb, hx, hc 0 _ rfl, hc 1 _ rfl, hc 2 _ rfl, hc 3 _ rfl, hc 4 _ rfl, hc 5 _ rfl⟩

abbrev Val := ByteArray × ByteArray × Int × Int × List Iv × List Iv
def vD (d : Dv) : Val := (d.name, d.pt, d.kind, d.lane, d.os, d.ds)

def smallD (d : Dv) : Prop := d.os.length ≤ 8796093022208 ∧ d.ds.length ≤ 100000000000
def tB (t : Int) : Bool := decide (0 ≤ t ∧ t < 68719476736)
theorem tB_yes {t : Int} (h : tB t = true) : 0 ≤ t ∧ t < 68719476736 := by simpa [tB] using h
theorem tB_no {t : Int} (h : tB t = false) : ¬ (0 ≤ t ∧ t < 68719476736) := by simpa [tB] using h
def delta (os : List Iv) (raw : Int) : Int := os.foldl (fun d o => if o.1 ≤ raw then o.2 else d) 0
theorem delta_snoc (os : List Iv) (o : Iv) (raw : Int) : delta (os ++ [o]) raw = if o.1 ≤ raw then o.2 else delta os raw := by simp [delta]
def clockB (d : Dv) (raw : Int) : Bool := tB raw && decide (-raw ≤ delta d.os raw) && decide (delta d.os raw < 68719476736 - raw)
def clockN (d : Dv) (raw : Int) : Int := if clockB d raw = true then raw + delta d.os raw else 0
theorem clock_no {d : Dv} {raw : Int} (h : clockB d raw = false) : clockN d raw = 0 := by unfold clockN; rw [h]; rfl
theorem clock_1 {d : Dv} {raw : Int} (h : tB raw = false) : clockB d raw = false := by unfold clockB; rw [h]; rfl
theorem clock_2 {d : Dv} {raw : Int} (h : tB raw = true) (h2 : delta d.os raw < -raw ∨ 68719476736 - raw ≤ delta d.os raw) : clockB d raw = false := by
  unfold clockB
  rw [h]
  rcases h2 with k | k
  · rw [decide_eq_false (by omega : ¬ -raw ≤ delta d.os raw)]; simp
  · rw [decide_eq_false (by omega : ¬ delta d.os raw < 68719476736 - raw)]; simp
theorem clock_3 {d : Dv} {raw : Int} (h : tB raw = true) (h1 : ¬ delta d.os raw < -raw) (h2 : ¬ 68719476736 - raw ≤ delta d.os raw) : clockB d raw = true ∧ clockN d raw = raw + delta d.os raw := by
  have e : clockB d raw = true := by
    unfold clockB
    rw [h, decide_eq_true (by omega : -raw ≤ delta d.os raw), decide_eq_true (by omega : delta d.os raw < 68719476736 - raw)]; rfl
  exact ⟨e, by unfold clockN; rw [if_pos e]⟩
def worksB (d : Dv) (t : Int) : Bool := tB t && !hasB d.ds t

end Go.Proofs.YtlnnbkpcnhlfcaaDoor
/- Detections, corrected detections and rejects as values; their orders. -/
namespace Go.Proofs.YtlnnbkpcnhlfcaaDoor
open Go.RowKit Go.Lib

structure Dt where
  dev : ByteArray
  seq : Int
  time : Int
  tag : ByteArray
  pl : ByteArray
  ax : Int
  sc : Int
instance : Inhabited Dt := ⟨⟨⟨#[]⟩, 0, 0, ⟨#[]⟩, ⟨#[]⟩, 0, 0⟩⟩
structure Sn where
  d : Dt
  t : Int
  pt : ByteArray
  lane : Int
  kind : Int
instance : Inhabited Sn := ⟨⟨default, 0, ⟨#[]⟩, 0, 0⟩⟩
structure Rj where
  d : Dt
  why : Int
instance : Inhabited Rj := ⟨⟨default, 0⟩⟩
def encDt (d : Dt) : List Value := [.string d.dev, .int .i64 d.seq, .int .i64 d.time, .string d.tag, .string d.pl, .int .i64 d.ax, .int .i64 d.sc]
def encSn (s : Sn) : List Value := [.string s.d.dev, .int .i64 s.d.seq, .int .i64 s.d.time, .string s.d.tag, .string s.d.pl, .int .i64 s.d.ax, .int .i64 s.d.sc, .int .i64 s.t, .string s.pt, .int .i64 s.lane, .int .i64 s.kind]
def encRj (r : Rj) : List Value := [.string r.d.dev, .int .i64 r.d.seq, .int .i64 r.d.time, .string r.d.tag, .string r.d.pl, .int .i64 r.d.ax, .int .i64 r.d.sc, .int .i64 r.why]
def DtV (d : Dt) : Value := .agg #[.string d.dev, .int .i64 d.seq, .int .i64 d.time, .string d.tag, .string d.pl, .int .i64 d.ax, .int .i64 d.sc]
def SnV (s : Sn) : Value := .agg #[.string s.d.dev, .int .i64 s.d.seq, .int .i64 s.d.time, .string s.d.tag, .string s.d.pl, .int .i64 s.d.ax, .int .i64 s.d.sc, .int .i64 s.t, .string s.pt, .int .i64 s.lane, .int .i64 s.kind]
def RjV (r : Rj) : Value := .agg #[.string r.d.dev, .int .i64 r.d.seq, .int .i64 r.d.time, .string r.d.tag, .string r.d.pl, .int .i64 r.d.ax, .int .i64 r.d.sc, .int .i64 r.why]
theorem encDt_ok : Enc encDt 7 := ⟨fun _ => rfl, fun x u hu => by simp [encDt] at hu; rcases hu with rfl | rfl | rfl | rfl | rfl | rfl | rfl <;> rfl⟩
theorem encSn_ok : Enc encSn 11 := ⟨fun _ => rfl, fun x u hu => by simp [encSn] at hu; rcases hu with rfl | rfl | rfl | rfl | rfl | rfl | rfl | rfl | rfl | rfl | rfl <;> rfl⟩
theorem encRj_ok : Enc encRj 8 := ⟨fun _ => rfl, fun x u hu => by simp [encRj] at hu; rcases hu with rfl | rfl | rfl | rfl | rfl | rfl | rfl | rfl <;> rfl⟩
def cmpDt (a b : Dt) : Int := firstI [cmpS a.dev b.dev, cmpI a.seq b.seq, cmpI a.time b.time, cmpS a.tag b.tag, cmpS a.pl b.pl, cmpI a.ax b.ax, cmpI a.sc b.sc]
def cmpSn (a b : Sn) : Int := firstI [cmpI a.t b.t, cmpS a.pt b.pt, cmpI a.kind b.kind, cmpI a.lane b.lane, cmpDt a.d b.d]
def cmpRj (a b : Rj) : Int := firstI [cmpDt a.d b.d, cmpI a.why b.why]
theorem firstI_zero : ∀ {l : List Int}, firstI l = 0 ↔ ∀ x ∈ l, x = 0
  | [] => by simp [firstI]
  | x :: l => by
    unfold firstI
    by_cases h : x = 0
    · rw [if_neg (by simp [h]), firstI_zero]; simp [h]
    · rw [if_pos h]; simp [h]
theorem firstI_one (x : Int) : firstI [x] = x := by unfold firstI; split; rfl; rename_i h; simp [firstI]; omega
theorem pre_one {α : Type} {f : α → α → Int} (h : PreC f) : PreC (fun a b => firstI [f a b]) := by
  have : (fun a b => firstI [f a b]) = f := by funext a b; exact firstI_one _
  rw [this]; exact h
theorem cmpDt_pre : PreC cmpDt :=
  (cmpS_pre.on Dt.dev).cons ((cmpI_pre.on Dt.seq).cons ((cmpI_pre.on Dt.time).cons ((cmpS_pre.on Dt.tag).cons ((cmpS_pre.on Dt.pl).cons ((cmpI_pre.on Dt.ax).cons (pre_one (cmpI_pre.on Dt.sc)))))))
theorem cmpSn_pre : PreC cmpSn :=
  (cmpI_pre.on Sn.t).cons ((cmpS_pre.on Sn.pt).cons ((cmpI_pre.on Sn.kind).cons ((cmpI_pre.on Sn.lane).cons (pre_one (cmpDt_pre.on Sn.d)))))
theorem cmpRj_pre : PreC cmpRj := (cmpDt_pre.on Rj.d).cons (pre_one (cmpI_pre.on Rj.why))
theorem cmpDt_zero {a b : Dt} : cmpDt a b = 0 ↔ a = b := by
  unfold cmpDt
  rw [firstI_zero]
  constructor
  · intro h
    have h1 := cmpS_zero.1 (h (cmpS a.dev b.dev) (by simp))
    have h2 := cmpI_zero.1 (h (cmpI a.seq b.seq) (by simp))
    have h3 := cmpI_zero.1 (h (cmpI a.time b.time) (by simp))
    have h4 := cmpS_zero.1 (h (cmpS a.tag b.tag) (by simp))
    have h5 := cmpS_zero.1 (h (cmpS a.pl b.pl) (by simp))
    have h6 := cmpI_zero.1 (h (cmpI a.ax b.ax) (by simp))
    have h7 := cmpI_zero.1 (h (cmpI a.sc b.sc) (by simp))
    cases a; cases b; simp_all
  · rintro rfl x hx
    simp only [List.mem_cons, List.not_mem_nil, or_false] at hx
    rcases hx with rfl | rfl | rfl | rfl | rfl | rfl | rfl <;> first | exact cmpS_zero.2 rfl | exact cmpI_zero.2 rfl
theorem cmpSn_zero {a b : Sn} : cmpSn a b = 0 ↔ a = b := by
  unfold cmpSn
  rw [firstI_zero]
  constructor
  · intro h
    have h1 := cmpI_zero.1 (h (cmpI a.t b.t) (by simp))
    have h2 := cmpS_zero.1 (h (cmpS a.pt b.pt) (by simp))
    have h3 := cmpI_zero.1 (h (cmpI a.kind b.kind) (by simp))
    have h4 := cmpI_zero.1 (h (cmpI a.lane b.lane) (by simp))
    have h5 := cmpDt_zero.1 (h (cmpDt a.d b.d) (by simp))
    cases a; cases b; simp_all
  · rintro rfl x hx
    simp only [List.mem_cons, List.not_mem_nil, or_false] at hx
    rcases hx with rfl | rfl | rfl | rfl | rfl <;> first | exact cmpS_zero.2 rfl | exact cmpI_zero.2 rfl | exact cmpDt_zero.2 rfl
theorem cmpRj_zero {a b : Rj} : cmpRj a b = 0 ↔ a = b := by
  unfold cmpRj
  rw [firstI_zero]
  constructor
  · intro h
    have h1 := cmpDt_zero.1 (h (cmpDt a.d b.d) (by simp))
    have h2 := cmpI_zero.1 (h (cmpI a.why b.why) (by simp))
    cases a; cases b; simp_all
  · rintro rfl x hx
    simp only [List.mem_cons, List.not_mem_nil, or_false] at hx
    rcases hx with rfl | rfl <;> first | exact cmpI_zero.2 rfl | exact cmpDt_zero.2 rfl
end Go.Proofs.YtlnnbkpcnhlfcaaDoor
/- What is paid under caps, in plain words. No program in sight. -/
namespace Go.Proofs.YtlnnbkpcnhlfcaaDoor
open Go.Sort

def cmpCh (a b : CV) : Int := firstI [cmpI a.tm b.tm, cmpS a.key b.key]
theorem cmpCh_pre : PreC cmpCh := (cmpI_pre.on CV.tm).cons (pre_one (cmpS_pre.on CV.key))
def chAt (cs : List CV) (i : Nat) : CV := (cs[i]?).getD zeroC
theorem chAt_of {cs : List CV} {i : Nat} {x : CV} (h : cs[i]? = some x) : chAt cs i = x := by unfold chAt; rw [h]; rfl
def ltI (cs : List CV) (i k : Nat) : Bool := ltOf cmpCh (chAt cs i) (chAt cs k)
theorem ltI_swo (cs : List CV) : SWO (ltI cs) := ⟨fun x => cmpCh_pre.swo.irrefl _, fun x y z => cmpCh_pre.swo.trans _ _ _, fun x y z => cmpCh_pre.swo.ntrans _ _ _⟩
/-- the order in which charges are paid -/
def ordK (cs : List CV) (k : Nat) : List Nat := (List.range k).foldl (fun r i => insS (ltI cs) i r) []
def ordN (cs : List CV) : List Nat := ordK cs cs.length
theorem ordK_stab (cs : List CV) : ∀ k, StabOf (ltI cs) (List.range k) (ordK cs k)
  | 0 => StabOf.nil
  | k + 1 => by
    have := StabOf.snoc (ltI_swo cs) (ordK_stab cs k) k
    unfold ordK
    rw [List.range_succ, List.foldl_append]
    exact this
theorem ordN_stab (cs : List CV) : StabOf (ltI cs) (List.range cs.length) (ordN cs) := ordK_stab cs _
theorem ordN_perm (cs : List CV) : (ordN cs).Perm (List.range cs.length) := (ordN_stab cs).perm
theorem ordN_len (cs : List CV) : (ordN cs).length = cs.length := by have := (ordN_perm cs).length_eq; simpa using this
theorem ordN_lt {cs : List CV} {i : Nat} (h : i ∈ ordN cs) : i < cs.length := List.mem_range.1 ((ordN_perm cs).mem_iff.1 h)
theorem stab_map {α β : Type} {lt : α → α → Bool} {lt' : β → β → Bool} (f : α → β) (hf : ∀ x y, lt' (f x) (f y) = lt x y) {l l' : List α} (h : StabOf lt l l') : StabOf lt' (l.map f) (l'.map f) := by
  obtain ⟨t, h1, h2, h3⟩ := h
  refine ⟨t.map (fun p => (f p.1, p.2)), ?_, ?_, ?_⟩
  · have : (l.map f).zipIdx = l.zipIdx.map (fun p => (f p.1, p.2)) := by rw [List.zipIdx_map]; rfl
    rw [this]; exact h1.map _
  · rw [List.pairwise_map]
    refine h2.imp fun {x y} h => ?_
    unfold lexB at h ⊢
    simp only [hf]
    exact h
  · rw [h3]; simp [List.map_map, Function.comp_def]

/-- charges done, with what was paid -/
abbrev Hs := List (CV × Int)
def inP (c : Cp) (p : Int) (x : CV) : Bool := matB c x && decide (perN c.days x.tm = p)
def sumP (c : Cp) (p : Int) (h : Hs) : Int := (h.map fun y => if inP c p y.1 = true then y.2 else 0).sum
theorem sumP_snoc (c : Cp) (p : Int) (h : Hs) (x : CV) (n : Int) : sumP c p (h ++ [(x, n)]) = sumP c p h + if inP c p x = true then n else 0 := by simp [sumP]
theorem sumP_nil (c : Cp) (p : Int) : sumP c p [] = 0 := rfl
def leftN (c : Cp) (h : Hs) (x : CV) : Int := c.ct - sumP c (perN c.days x.tm) h
def payS (h : Hs) (x : CV) (n : Int) (c : Cp) : Int := if matB c x = true then min n (leftN c h x) else n
def payN (caps : List Cp) (h : Hs) (x : CV) : Int := caps.foldl (payS h x) x.ct
/-- what holds of the charges done -/
def HInv (caps : List Cp) (h : Hs) : Prop := (∀ y ∈ h, 0 ≤ y.2) ∧ ∀ c ∈ caps, ∀ p, sumP c p h ≤ c.ct
theorem sumP_nonneg {h : Hs} (hh : ∀ y ∈ h, 0 ≤ y.2) (c : Cp) (p : Int) : 0 ≤ sumP c p h := by
  induction h with
  | nil => exact Int.le_refl _
  | cons y h ih =>
    have h1 := ih fun z hz => hh z (List.mem_cons_of_mem _ hz)
    have h2 := hh y (by simp)
    unfold sumP at h1 ⊢
    rw [List.map_cons, List.sum_cons]
    split <;> omega
theorem payN_bounds {caps : List Cp} {h : Hs} {x : CV} (hi : HInv caps h) (hx : 0 ≤ x.ct) : 0 ≤ payN caps h x ∧ payN caps h x ≤ x.ct ∧ ∀ c ∈ caps, matB c x = true → payN caps h x ≤ leftN c h x := by
  suffices H : ∀ (l : List Cp) (n : Int), (∀ c ∈ l, c ∈ caps) → 0 ≤ n → 0 ≤ l.foldl (payS h x) n ∧ l.foldl (payS h x) n ≤ n ∧ ∀ c ∈ l, matB c x = true → l.foldl (payS h x) n ≤ leftN c h x by
    exact H caps x.ct (fun _ h => h) hx
  intro l
  induction l with
  | nil => intro n _ h0; exact ⟨h0, Int.le_refl _, fun c hc => by cases hc⟩
  | cons c l ih =>
    intro n hl h0
    rw [List.foldl_cons]
    have hc := hl c (by simp)
    have hleft : 0 ≤ leftN c h x := by unfold leftN; have := hi.2 c hc (perN c.days x.tm); omega
    have hs : 0 ≤ payS h x n c ∧ payS h x n c ≤ n ∧ (matB c x = true → payS h x n c ≤ leftN c h x) := by
      unfold payS
      split
      · exact ⟨by omega, by omega, fun _ => by omega⟩
      · rename_i q; exact ⟨h0, Int.le_refl _, fun q2 => absurd q2 q⟩
    obtain ⟨a1, a2, a3⟩ := ih (payS h x n c) (fun d hd => hl d (List.mem_cons_of_mem _ hd)) hs.1
    refine ⟨a1, by omega, fun d hd hm => ?_⟩
    rcases List.mem_cons.1 hd with rfl | hd
    · have := hs.2.2 hm; omega
    · exact a3 d hd hm
theorem HInv.nil {caps : List Cp} (h : ∀ c ∈ caps, 0 ≤ c.ct) : HInv caps [] := ⟨fun y hy => (by cases hy), fun c hc p => by rw [sumP_nil]; exact h c hc⟩
theorem HInv.snoc {caps : List Cp} {h : Hs} {x : CV} (hi : HInv caps h) (hx : 0 ≤ x.ct) : HInv caps (h ++ [(x, payN caps h x)]) := by
  have hb := payN_bounds hi hx
  refine ⟨fun y hy => ?_, fun c hc p => ?_⟩
  · rcases List.mem_append.1 hy with hy | hy
    · exact hi.1 y hy
    · rw [List.mem_singleton] at hy; subst hy; exact hb.1
  · rw [sumP_snoc]
    have := hi.2 c hc p
    split
    · rename_i q
      unfold inP at q
      simp only [Bool.and_eq_true, decide_eq_true_eq] at q
      have := hb.2.2 c hc q.1
      unfold leftN at this
      rw [q.2] at this
      omega
    · omega
/-- the fold over the order -/
def stp (caps : List Cp) (cs : List CV) (a : Hs × List Int) (i : Nat) : Hs × List Int := (a.1 ++ [(chAt cs i, payN caps a.1 (chAt cs i))], a.2.set i (payN caps a.1 (chAt cs i)))
def runF (caps : List Cp) (cs : List CV) (l : List Nat) : Hs × List Int := l.foldl (stp caps cs) ([], List.replicate cs.length 0)
theorem runF_snoc (caps : List Cp) (cs : List CV) (l : List Nat) (i : Nat) : runF caps cs (l ++ [i]) = stp caps cs (runF caps cs l) i := by unfold runF; rw [List.foldl_append]; rfl
theorem runF_len (caps : List Cp) (cs : List CV) (l : List Nat) : (runF caps cs l).2.length = cs.length := by
  unfold runF
  suffices h : ∀ (l : List Nat) (a : Hs × List Int), (l.foldl (stp caps cs) a).2.length = a.2.length by rw [h]; simp
  intro l
  induction l with
  | nil => intro a; rfl
  | cons i l ih => intro a; rw [List.foldl_cons, ih]; simp [stp]
theorem runF_inv {caps : List Cp} {cs : List CV} (hc : ∀ c ∈ caps, 0 ≤ c.ct) (hx : ∀ x ∈ cs, 0 ≤ x.ct) (l : List Nat) (hl : ∀ i ∈ l, i < cs.length) : HInv caps (runF caps cs l).1 := by
  unfold runF
  suffices h : ∀ (l : List Nat) (a : Hs × List Int), (∀ i ∈ l, i < cs.length) → HInv caps a.1 → HInv caps (l.foldl (stp caps cs) a).1 by exact h l _ hl (HInv.nil hc)
  clear hl l
  intro l
  induction l with
  | nil => intro a _ h; exact h
  | cons i l ih =>
    intro a hl h
    rw [List.foldl_cons]
    have hi : i < cs.length := hl i (by simp)
    have hxi : chAt cs i ∈ cs := by rw [chAt_of (List.getElem?_eq_getElem hi)]; exact List.getElem_mem hi
    exact ih _ (fun j hj => hl j (List.mem_cons_of_mem _ hj)) (h.snoc (hx _ hxi))
/-- the error of Apply, what it pays -/
def chE (x : CV) : Int := if amB x.ct = false then 13 else if btmB x.tm = false then 12 else 0
def applyE (caps : List Cp) (cs : List CV) : Int := if 12 < caps.length ∨ 1024 < cs.length then 3 else if firstI (caps.map capE) ≠ 0 then firstI (caps.map capE) else firstI (cs.map chE)
def paidL (caps : List Cp) (cs : List CV) : List Int := (runF caps cs (ordN cs)).2
end Go.Proofs.YtlnnbkpcnhlfcaaDoor
/- What the map of cap.Apply says: plain. -/
namespace Go.Proofs.YtlnnbkpcnhlfcaaDoor

def gOf (caps : List Cp) (h : Hs) (s : Int × Int) : Int := if 0 ≤ s.1 then ((caps[s.1.toNat]?).map fun c => sumP c s.2 h).getD 0 else 0
def gMid (caps : List Cp) (h h' : Hs) (j : Nat) (s : Int × Int) : Int := if 0 ≤ s.1 ∧ s.1 < j then gOf caps h' s else gOf caps h s
theorem gOf_nil (caps : List Cp) : gOf caps [] = fun _ => 0 := by
  funext s
  unfold gOf
  split
  · cases caps[s.1.toNat]? <;> simp [sumP_nil]
  · rfl
theorem gMid_0 (caps : List Cp) (h h' : Hs) : gMid caps h h' 0 = gOf caps h := by
  funext s; unfold gMid; rw [if_neg (by omega)]
theorem gMid_n (caps : List Cp) (h h' : Hs) : gMid caps h h' caps.length = gOf caps h' := by
  funext s
  unfold gMid
  split
  · rfl
  · rename_i q
    unfold gOf
    split
    · rw [List.getElem?_eq_none (by omega)]; rfl
    · rfl
theorem gOf_at {caps : List Cp} {h : Hs} {j : Nat} {c : Cp} (hc : caps[j]? = some c) (p : Int) : gOf caps h ((j : Int), p) = sumP c p h := by
  unfold gOf; simp [hc]
theorem gMid_at {caps : List Cp} {h h' : Hs} {j : Nat} {c : Cp} (hc : caps[j]? = some c) (p : Int) : gMid caps h h' j ((j : Int), p) = sumP c p h := by
  unfold gMid; rw [if_neg (by simp), gOf_at hc]
theorem gMid_new {caps : List Cp} {h : Hs} {x : CV} {n : Int} {j : Nat} {c : Cp} (hc : caps[j]? = some c) (hm : matB c x = true) :
    gMid caps h (h ++ [(x, n)]) (j + 1) ((j : Int), perN c.days x.tm) = gMid caps h (h ++ [(x, n)]) j ((j : Int), perN c.days x.tm) + n := by
  rw [gMid_at hc]
  unfold gMid
  rw [if_pos (by simp; omega), gOf_at hc, sumP_snoc, if_pos (by unfold inP; simp [hm])]
theorem gMid_oth {caps : List Cp} {h : Hs} {x : CV} {n : Int} {j : Nat} {c : Cp} (hc : caps[j]? = some c) (s : Int × Int) (hs : s ≠ ((j : Int), perN c.days x.tm)) :
    gMid caps h (h ++ [(x, n)]) (j + 1) s = gMid caps h (h ++ [(x, n)]) j s := by
  obtain ⟨s1, s2⟩ := s
  by_cases e : s1 = (j : Int)
  · subst e
    rw [gMid_at hc]
    unfold gMid
    rw [if_pos (by simp; omega), gOf_at hc, sumP_snoc, if_neg]
    · omega
    · intro q
      unfold inP at q
      simp only [Bool.and_eq_true, decide_eq_true_eq] at q
      exact hs (by rw [q.2])
  · unfold gMid
    by_cases q : 0 ≤ s1 ∧ s1 < (j : Int)
    · rw [if_pos q, if_pos (by simp only; omega)]
    · rw [if_neg q, if_neg (by simp only; omega)]
theorem gMid_skip {caps : List Cp} {h : Hs} {x : CV} {n : Int} {j : Nat} {c : Cp} (hc : caps[j]? = some c) (hm : matB c x = false) :
    gMid caps h (h ++ [(x, n)]) (j + 1) = gMid caps h (h ++ [(x, n)]) j := by
  funext s
  by_cases q : s = ((j : Int), perN c.days x.tm)
  · subst q
    rw [gMid_at hc]
    unfold gMid
    rw [if_pos (by simp; omega), gOf_at hc, sumP_snoc, if_neg (by unfold inP; simp [hm])]
    omega
  · exact gMid_oth hc s q
theorem gMid_bnd {caps : List Cp} {h : Hs} (hi : HInv caps h) {j : Nat} {c : Cp} (hc : caps[j]? = some c) (h' : Hs) (p : Int) : 0 ≤ gMid caps h h' j ((j : Int), p) ∧ gMid caps h h' j ((j : Int), p) ≤ c.ct := by
  rw [gMid_at hc]
  exact ⟨sumP_nonneg hi.1 c p, hi.2 c (List.mem_of_getElem? hc) p⟩
def payK (caps : List Cp) (h : Hs) (x : CV) (j : Nat) : Int := (caps.take j).foldl (payS h x) x.ct
theorem payK_0 (caps : List Cp) (h : Hs) (x : CV) : payK caps h x 0 = x.ct := rfl
theorem payK_n (caps : List Cp) (h : Hs) (x : CV) : payK caps h x caps.length = payN caps h x := by unfold payK; rw [List.take_length]; rfl
theorem payK_succ {caps : List Cp} {h : Hs} {x : CV} {j : Nat} {c : Cp} (hc : caps[j]? = some c) : payK caps h x (j + 1) = payS h x (payK caps h x j) c := by
  unfold payK; rw [take_snoc hc, List.foldl_append]; rfl
theorem payK_bnd {caps : List Cp} {h : Hs} {x : CV} (hi : HInv caps h) (hx : 0 ≤ x.ct) (j : Nat) : 0 ≤ payK caps h x j ∧ payK caps h x j ≤ x.ct := by
  have hi2 : HInv (caps.take j) h := ⟨hi.1, fun c hc p => hi.2 c (List.mem_of_mem_take hc) p⟩
  have := payN_bounds hi2 hx
  exact ⟨this.1, this.2.1⟩
theorem perN_bnd (days t : Int) : -1 ≤ perN days t ∧ perN days t ≤ 1000000 := by
  have hd : -1 ≤ dayN t ∧ dayN t ≤ 795364 := by unfold dayN; split <;> omega
  unfold perN
  split
  · omega
  · split
    · unfold monN monD
      split
      · rename_i q
        have h := month_rng q.1 q.2
        omega
      · omega
    · omega
end Go.Proofs.YtlnnbkpcnhlfcaaDoor
