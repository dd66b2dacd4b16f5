/- Joined texts: DetMath, DevEnc, DetEnc, Sort, DetCmp. -/
import Derived.Test.YtelchfijalkibaaGreatDoorJStabMath
import Derived.Lib.Small
import Derived.Shelf.SlSortCmp.Insertion
import Derived.Test.YtelchfijalkibaaGreatDoorJFirst
import Derived.Test.YtelchfijalkibaaGreatDoorJRelMath
import Derived.Test.YtelchfijalkibaaGreatDoorBase
import Derived.Shelf.SlSortCmp.WholeK
import Derived.Shelf.SlSortCmp.NoneTotal
import Derived.IntWalk
import Derived.BigQuiet
/- Comparisons that are read one after another: signs, total orders, strictly ascending lists. No program in sight. -/
namespace Go.Proofs.YtelchfijalkibaaGreatDoor
open Go.Sort

/-- the first number that is not 0 -/
def firstI : List Int → Int
  | [] => 0
  | x :: l => if x ≠ 0 then x else firstI l
/-- a comparison: signs, antisymmetric, transitive, and equal things are told apart from none -/
structure PreC {α : Type} (f : α → α → Int) : Prop where
  r : ∀ a b, f a b = -1 ∨ f a b = 0 ∨ f a b = 1
  s : ∀ a b, f b a = -f a b
  t : ∀ a b c, f a b < 0 → f b c < 0 → f a c < 0
  e : ∀ a b c, f a b = 0 → f a c = f b c
section
variable {α β : Type} {f g : α → α → Int}
theorem PreC.e2 (h : PreC f) (a b c : α) (k : f a b = 0) : f c a = f c b := by
  rw [h.s a c, h.s b c, h.e a b c k]
theorem PreC.on (h : PreC f) (p : β → α) : PreC (fun a b => f (p a) (p b)) := ⟨fun a b => h.r _ _, fun a b => h.s _ _, fun a b c => h.t _ _ _, fun a b c => h.e _ _ _⟩
theorem PreC.cons (h : PreC f) (k : PreC g) : PreC (fun a b => if f a b ≠ 0 then f a b else g a b) where
  r a b := by
    by_cases q : f a b = 0
    · rw [if_neg (by simp [q])]; exact k.r a b
    · rw [if_pos q]; exact h.r a b
  s a b := by
    by_cases q : f a b = 0
    · rw [if_neg (by rw [h.s a b, q]; simp), if_neg (by simp [q])]; exact k.s a b
    · rw [if_pos (by rw [h.s a b]; omega), if_pos q]; exact h.s a b
  t a b c := by
    by_cases q : f a b = 0
    · rw [if_neg (by simp [q] : ¬ f a b ≠ 0), h.e a b c q]
      intro h1
      by_cases q2 : f b c = 0
      · rw [if_neg (by simp [q2]), if_neg (by simp [q2])]; exact k.t a b c h1
      · rw [if_pos q2, if_pos q2]; exact id
    · rw [if_pos q]
      intro h1
      by_cases q2 : f b c = 0
      · rw [if_neg (by simp [q2])]
        intro _
        rw [if_pos (by rw [← h.e2 b c a q2]; exact q), ← h.e2 b c a q2]; exact h1
      · rw [if_pos q2]
        intro h2
        have h3 := h.t a b c h1 h2
        rw [if_pos (by omega)]; exact h3
  e a b c := by
    by_cases q : f a b = 0
    · rw [if_neg (by simp [q] : ¬ f a b ≠ 0), h.e a b c q]
      intro h1
      rw [k.e a b c h1]
    · rw [if_pos q]; exact fun h1 => absurd h1 q
theorem PreC.swo (h : PreC f) : SWO (ltOf f) where
  irrefl x := by
    unfold ltOf
    have := h.s x x
    exact decide_eq_false (by omega)
  trans x y z h1 h2 := by
    unfold ltOf at *
    exact decide_eq_true (h.t x y z (of_decide_eq_true h1) (of_decide_eq_true h2))
  ntrans x y z h1 h2 := by
    unfold ltOf at *
    have h1 := of_decide_eq_false h1
    have h2 := of_decide_eq_false h2
    refine decide_eq_false fun h3 => ?_
    rcases h.r x y with q | q | q
    · omega
    · rw [h.e x y z q] at h3; omega
    · rcases h.r y z with p | p | p
      · omega
      · rw [← h.e2 y z x p] at h3; omega
      · have := h.t z y x (by rw [h.s y z]; omega) (by rw [h.s x y]; omega)
        rw [h.s x z] at this; omega
end
abbrev cmpI : Int → Int → Int := Lib.compareInt
theorem cmpI_pre : PreC cmpI where
  r a b := by unfold cmpI Lib.compareInt; split; simp; split <;> simp
  s a b := by unfold cmpI Lib.compareInt; split <;> split <;> first | omega | (split <;> omega)
  t a b c := by unfold cmpI Lib.compareInt; intro h1 h2; split at h1 <;> (try (split at h1)) <;> split at h2 <;> (try (split at h2)) <;> first | omega | (rw [if_pos (by omega)]; omega)
  e a b c := by unfold cmpI Lib.compareInt; intro h1; split at h1 <;> (try (split at h1)) <;> first | omega | (have : a = b := by omega); subst this; rfl
def cmpS (a b : ByteArray) : Int := Lib.compareBytes a.data.toList b.data.toList
theorem cb_r : ∀ a b : List UInt8, Lib.compareBytes a b = -1 ∨ Lib.compareBytes a b = 0 ∨ Lib.compareBytes a b = 1
  | [], [] => by simp [Lib.compareBytes]
  | [], _ :: _ => by simp [Lib.compareBytes]
  | _ :: _, [] => by simp [Lib.compareBytes]
  | x :: a, y :: b => by unfold Lib.compareBytes; split; simp; split; simp; exact cb_r a b
theorem cb_lt (a b : List UInt8) : Lib.compareBytes a b < 0 ↔ a < b := (cmp_lt a b).1
theorem cb_gt (a b : List UInt8) : 0 < Lib.compareBytes a b ↔ b < a := (cmp_lt a b).2
theorem cb_zero (a b : List UInt8) : Lib.compareBytes a b = 0 ↔ a = b := by
  constructor
  · intro h
    have h1 := mt (cb_lt a b).2 (by omega)
    have h2 := mt (cb_gt a b).2 (by omega)
    exact List.le_antisymm (List.not_lt.1 h2) (List.not_lt.1 h1)
  · rintro rfl
    have h1 := mt (cb_lt a a).1 (List.lt_irrefl a)
    have h2 := mt (cb_gt a a).1 (List.lt_irrefl a)
    omega
theorem cmpS_zero {a b : ByteArray} : cmpS a b = 0 ↔ a = b := by
  unfold cmpS
  rw [cb_zero]
  constructor
  · intro h; cases a; cases b; simp only [ByteArray.mk.injEq]; exact Array.ext' h
  · rintro rfl; rfl
theorem cmpS_pre : PreC cmpS where
  r a b := cb_r _ _
  s a b := by
    unfold cmpS
    have h1 := cb_lt a.data.toList b.data.toList
    have h2 := cb_gt a.data.toList b.data.toList
    have h3 := cb_lt b.data.toList a.data.toList
    have h4 := cb_gt b.data.toList a.data.toList
    have r1 := cb_r a.data.toList b.data.toList
    have r2 := cb_r b.data.toList a.data.toList
    generalize Lib.compareBytes a.data.toList b.data.toList = x at *
    generalize Lib.compareBytes b.data.toList a.data.toList = y at *
    have e1 : x < 0 ↔ 0 < y := h1.trans h4.symm
    have e2 : 0 < x ↔ y < 0 := h2.trans h3.symm
    omega
  t a b c := by
    unfold cmpS
    rw [cb_lt, cb_lt, cb_lt]
    exact List.lt_trans
  e a b c := by
    intro h
    rw [cmpS_zero] at h
    subst h; rfl

/-- ascending without equal neighbours -/
def AscC {α : Type} (f : α → α → Int) (l : List α) : Prop := l.Pairwise fun a b => f a b < 0
end Go.Proofs.YtelchfijalkibaaGreatDoor
/- Devices as values. -/
namespace Go.Proofs.YtelchfijalkibaaGreatDoor
open Go.RowKit Go.Lib

structure Dv where
  name : ByteArray
  pt : ByteArray
  kind : Int
  lane : Int
  oA : Option Addr
  oc : Nat
  os : List Iv
  dA : Option Addr
  dc : Nat
  ds : List Iv
instance : Inhabited Dv := ⟨⟨⟨#[]⟩, ⟨#[]⟩, 0, 0, none, 0, [], none, 0, []⟩⟩
def encD (d : Dv) : List Value := [.string d.name, .string d.pt, .int .i64 d.kind, .int .i64 d.lane, .slice d.oA d.os.length d.oc, .slice d.dA d.ds.length d.dc]
def DV (d : Dv) : Value := .agg #[.string d.name, .string d.pt, .int .i64 d.kind, .int .i64 d.lane, .slice d.oA d.os.length d.oc, .slice d.dA d.ds.length d.dc]
def DOk (w : World) (d : Dv) : Prop := Rd encIv 2 w w.heap.size d.oA d.os ∧ Rd encIv 2 w w.heap.size d.dA d.ds
theorem DOk.st {w w' : World} {d : Dv} (h : DOk w d) (hb : Below w.heap.size w w') : DOk w' d := ⟨h.1.st hb, h.2.st hb⟩
def DsOk (w : World) (l : List Dv) : Prop := ∀ d ∈ l, DOk w d
theorem DsOk.st {w w' : World} {l : List Dv} (h : DsOk w l) (hb : Below w.heap.size w w') : DsOk w' l := fun d hd => (h d hd).st hb
theorem Rd.d {w : World} {B : Nat} {A : Option Addr} {l : List Dv} (h : Rd encD 6 w B A l) {i : Nat} (hi : i < l.length) :
    ∃ b off d, A = some ⟨b, off, none⟩ ∧ b < B ∧ l[i]? = some d ∧ w.cell? ⟨b, off + i * 6, none⟩ = some (.string d.name) ∧ w.cell? ⟨b, off + i * 6 + 1, none⟩ = some (.string d.pt) ∧ w.cell? ⟨b, off + i * 6 + 2, none⟩ = some (.int .i64 d.kind) ∧ w.cell? ⟨b, off + i * 6 + 3, none⟩ = some (.int .i64 d.lane) ∧ w.cell? ⟨b, off + i * 6 + 4, none⟩ = some (.slice d.oA d.os.length d.oc) ∧ w.cell? ⟨b, off + i * 6 + 5, none⟩ = some (.slice d.dA d.ds.length d.dc) := by
  obtain ⟨b, off, d, hA, hb, hx, hc⟩ := h.at_ hi
  exact ⟨b, off, d, hA, hb, hx, hc 0 _ rfl, hc 1 _ rfl, hc 2 _ rfl, hc 3 _ rfl, hc 4 _ rfl, hc 5 _ rfl⟩

abbrev Val := ByteArray × ByteArray × Int × Int × List Iv × List Iv
def vD (d : Dv) : Val := (d.name, d.pt, d.kind, d.lane, d.os, d.ds)

def smallD (d : Dv) : Prop := d.os.length ≤ 8796093022208 ∧ d.ds.length ≤ 100000000000
def tB (t : Int) : Bool := decide (0 ≤ t ∧ t < 68719476736)
def delta (os : List Iv) (raw : Int) : Int := os.foldl (fun d o => if o.1 ≤ raw then o.2 else d) 0
def clockB (d : Dv) (raw : Int) : Bool := tB raw && decide (-raw ≤ delta d.os raw) && decide (delta d.os raw < 68719476736 - raw)
def clockN (d : Dv) (raw : Int) : Int := if clockB d raw = true then raw + delta d.os raw else 0
def worksB (d : Dv) (t : Int) : Bool := tB t && !hasB d.ds t

end Go.Proofs.YtelchfijalkibaaGreatDoor
/- Detections, corrected detections and rejects as values; their orders. -/
namespace Go.Proofs.YtelchfijalkibaaGreatDoor
open Go.RowKit Go.Lib

structure Dt where
  dev : ByteArray
  seq : Int
  time : Int
  tag : ByteArray
  pl : ByteArray
  ax : Int
  sc : Int
instance : Inhabited Dt := ⟨⟨⟨#[]⟩, 0, 0, ⟨#[]⟩, ⟨#[]⟩, 0, 0⟩⟩
structure Sn where
  d : Dt
  t : Int
  pt : ByteArray
  lane : Int
  kind : Int
instance : Inhabited Sn := ⟨⟨default, 0, ⟨#[]⟩, 0, 0⟩⟩
structure Rj where
  d : Dt
  why : Int
instance : Inhabited Rj := ⟨⟨default, 0⟩⟩
def encDt (d : Dt) : List Value := [.string d.dev, .int .i64 d.seq, .int .i64 d.time, .string d.tag, .string d.pl, .int .i64 d.ax, .int .i64 d.sc]
def encSn (s : Sn) : List Value := [.string s.d.dev, .int .i64 s.d.seq, .int .i64 s.d.time, .string s.d.tag, .string s.d.pl, .int .i64 s.d.ax, .int .i64 s.d.sc, .int .i64 s.t, .string s.pt, .int .i64 s.lane, .int .i64 s.kind]
def encRj (r : Rj) : List Value := [.string r.d.dev, .int .i64 r.d.seq, .int .i64 r.d.time, .string r.d.tag, .string r.d.pl, .int .i64 r.d.ax, .int .i64 r.d.sc, .int .i64 r.why]
def DtV (d : Dt) : Value := .agg #[.string d.dev, .int .i64 d.seq, .int .i64 d.time, .string d.tag, .string d.pl, .int .i64 d.ax, .int .i64 d.sc]
def SnV (s : Sn) : Value := .agg #[.string s.d.dev, .int .i64 s.d.seq, .int .i64 s.d.time, .string s.d.tag, .string s.d.pl, .int .i64 s.d.ax, .int .i64 s.d.sc, .int .i64 s.t, .string s.pt, .int .i64 s.lane, .int .i64 s.kind]
def RjV (r : Rj) : Value := .agg #[.string r.d.dev, .int .i64 r.d.seq, .int .i64 r.d.time, .string r.d.tag, .string r.d.pl, .int .i64 r.d.ax, .int .i64 r.d.sc, .int .i64 r.why]
def cmpDt (a b : Dt) : Int := firstI [cmpS a.dev b.dev, cmpI a.seq b.seq, cmpI a.time b.time, cmpS a.tag b.tag, cmpS a.pl b.pl, cmpI a.ax b.ax, cmpI a.sc b.sc]
def cmpSn (a b : Sn) : Int := firstI [cmpI a.t b.t, cmpS a.pt b.pt, cmpI a.kind b.kind, cmpI a.lane b.lane, cmpDt a.d b.d]
def cmpRj (a b : Rj) : Int := firstI [cmpDt a.d b.d, cmpI a.why b.why]
theorem firstI_zero : ∀ {l : List Int}, firstI l = 0 ↔ ∀ x ∈ l, x = 0
  | [] => by simp [firstI]
  | x :: l => by
    unfold firstI
    by_cases h : x = 0
    · rw [if_neg (by simp [h]), firstI_zero]; simp [h]
    · rw [if_pos h]; simp [h]
theorem firstI_one (x : Int) : firstI [x] = x := by unfold firstI; split; rfl; rename_i h; simp [firstI]; omega
theorem pre_one {α : Type} {f : α → α → Int} (h : PreC f) : PreC (fun a b => firstI [f a b]) := by
  have : (fun a b => firstI [f a b]) = f := by funext a b; exact firstI_one _
  rw [this]; exact h
end Go.Proofs.YtelchfijalkibaaGreatDoor
/- slices.SortFunc on a slice of the call's own (structs of k cells): the slice then owns a sorted permutation. Program-free: over the shelf's contract. -/
namespace Go.Proofs.YtelchfijalkibaaGreatDoor
open Go.RowKit Go.Lib Go.Sort Go.Shelf

/-- new blocks and draws alone -/
def Gr (w w' : World) : Prop := ∃ q os, w' = grow (w.drewN q) os
theorem Gr.refl (w : World) : Gr w w := ⟨0, #[], by rw [grow_empty]; rfl⟩
theorem Gr.alloc (w : World) (o : Obj) : Gr w (w.alloc o) := ⟨0, #[o], by rw [alloc_eq_grow]; rfl⟩
theorem Gr.trans {a b c : World} (h : Gr a b) (k : Gr b c) : Gr a c := by
  obtain ⟨q, os, rfl⟩ := h
  obtain ⟨q', os', rfl⟩ := k
  exact ⟨q + q', os ++ os', by
    rw [← grow_grow]
    congr 1
    simp [grow, World.drewN, Nat.add_assoc]⟩
theorem Gr.drewN {a b : World} (h : Gr a b) (n : Nat) : Gr a (b.drewN n) := h.trans ⟨n, #[], by rw [grow_empty]⟩
theorem Gr.drew {a b : World} (h : Gr a b) : Gr a b.drew := h.drewN 1
theorem Gr.below {a b : World} (h : Gr a b) : Below a.heap.size a b := by
  obtain ⟨q, os, rfl⟩ := h
  exact ⟨rfl, rfl, rfl, by simp [World.drewN], fun k hk => by rw [heap_grow_old (a.drewN q) os (k := k) hk]; rfl⟩

section
variable {α : Type} [Inhabited α] {enc : α → List Value} {k : Nat} {w : World} {base e : Nat} {A : Option Addr} {c : Nat} {l : List α}

theorem arr_get! (l : List α) (i : Nat) (h : i < l.length) : l.toArray[i]! = l[i] := by
  simp [h]
omit [Inhabited α] in
theorem enc_get! (x : α) (j : Nat) (hE : Enc enc k) (hj : j < k) : (enc x)[j]? = some (enc x)[j]! := by
  have : j < (enc x).length := by rw [hE.1]; exact hj
  simp [this]
theorem Own.holds (h : Own e enc k w base A c l) (hE : Enc enc k) {g : Nat} (hA : A = some ⟨g, 0, none⟩) : HoldsK enc k w g 0 l.toArray := by
  intro t ht
  rw [size_flatK] at ht
  simp only [List.size_toArray] at ht
  have k0 : 0 < k := by rcases Nat.eq_zero_or_pos k with h | h; · subst h; simp at ht
                        · exact h
  have hi : t / k < l.length := (Nat.div_lt_iff_lt_mul k0).2 ht
  have hj : t % k < k := Nat.mod_lt _ k0
  have e1 : t / k * k + t % k = t := by rw [Nat.mul_comm]; exact Nat.div_add_mod t k
  rw [get_flatK _ _ _ _ (by simpa using ht), Nat.zero_add]
  refine ⟨?_, h.frozen hA t⟩
  have := h.cells hE hA (i := t / k) (x := l[t / k]) (List.getElem?_eq_getElem hi) (enc_get! _ _ hE hj)
  rw [e1] at this
  rw [this, arr_get! l _ hi]
  rfl
theorem flat_toList (hE : Enc enc k) (d : Array α) : (flatK enc k d).toList = d.toList.flatMap enc := by
  apply List.ext_getElem?
  intro t
  by_cases ht : t < d.size * k
  · have k0 : 0 < k := by rcases Nat.eq_zero_or_pos k with h | h; · subst h; simp at ht
                          · exact h
    have hi : t / k < d.size := (Nat.div_lt_iff_lt_mul k0).2 ht
    have hj : t % k < k := Nat.mod_lt _ k0
    have e1 : t / k * k + t % k = t := by rw [Nat.mul_comm]; exact Nat.div_add_mod t k
    have hL : (flatK enc k d).toList[t]? = some ((enc d[t / k]!)[t % k]!) := by
      have h1 := get_flatK enc k d t ht
      rw [Array.getElem?_toList, ← h1]
      have : t < (flatK enc k d).size := by rw [size_flatK]; exact ht
      rw [getElem!_pos (flatK enc k d) t this, Array.getElem?_eq_getElem this]
    have hR := flat_get hE d.toList (t / k) (t % k) hj
    rw [e1] at hR
    rw [hL, hR, List.getElem?_eq_getElem (by simpa using hi)]
    simp only [Option.bind_some, Array.getElem_toList]
    rw [enc_get! _ _ hE hj, getElem!_pos d _ hi]
  · rw [List.getElem?_eq_none (by simp; omega), List.getElem?_eq_none (by rw [flat_length hE]; simp; omega)]
theorem Own.sorted (h : Own e enc k w base A c l) (hE : Enc enc k) {g n : Nat} {os : Array Obj} {d' : Array α} (hA : A = some ⟨g, 0, none⟩) (hd : d'.size = l.length) :
    Own e enc k (sortWorldK enc k w g 0 n d' os) base A c d'.toList ∧ Below base w (sortWorldK enc k w g 0 n d' os) := by
  subst hA
  rcases h.2 with ⟨h1, _⟩ | ⟨g', cap, cur, hv, hb, hg, hnc, hcm, hcs, htake⟩
  · simp at h1
  · simp only [Value.slice.injEq, Option.some.injEq, Addr.mk.injEq, and_true, true_and] at hv
    obtain ⟨rfl, rfl⟩ := hv
    have hgl : g < w.heap.size := (Array.getElem?_eq_some_iff.1 hg).1
    have hh : (sortWorldK enc k w g 0 n d' os).heap[g]? = some (.cells (putCells id 0 (flatK enc k d') cur) e (0, 0)) := by
      unfold sortWorldK putRowK
      rw [heap_grow_old _ _ (by simpa [putRow, mapBlock, Sort.ahead] using hgl)]
      simp [putRow, mapBlock, Sort.ahead, Array.getElem?_modify, hg, onCells]
    have hle : l.length * k ≤ cur.size := by rw [hcs]; exact Nat.mul_le_mul_right k hnc
    refine ⟨⟨by rw [flat_length hE, Array.length_toList], .inr ⟨g, c, _, by rw [Array.length_toList, hd], hb, hh, by rw [Array.length_toList, hd]; exact hnc, hcm, by simp [putCells, hcs], ?_⟩⟩, ?_⟩
    · rw [Array.length_toList, hd, ← flat_toList hE]
      apply List.ext_getElem?
      intro j
      by_cases hj : j < l.length * k
      · rw [List.getElem?_take_of_lt hj, Array.getElem?_toList, Array.getElem?_toList]
        have hj2 : j < (flatK enc k d').size := by rw [size_flatK, hd]; exact hj
        simp [putCells, hd, hj, show j < cur.size by omega]
      · rw [List.getElem?_take_eq_none (by omega), List.getElem?_eq_none (by simp [hd]; omega)]
    · refine ⟨rfl, rfl, rfl, by simp [sortWorldK, putRowK, putRow, mapBlock, Sort.ahead], fun q hq => ?_⟩
      unfold sortWorldK putRowK
      by_cases hql : q < w.heap.size
      · rw [heap_grow_old _ _ (by simpa [putRow, mapBlock, Sort.ahead] using hql)]
        have : g ≠ q := by omega
        simp [putRow, mapBlock, Sort.ahead, Array.getElem?_modify, this]
      · exact absurd hq (by omega)

end
end Go.Proofs.YtelchfijalkibaaGreatDoor
/- cmp.Compare at strings, cmp.Or at numbers, walked. -/
namespace Go.Proofs.YtelchfijalkibaaGreatDoor
open Go.RowKit Go.Lib

theorem cmpS_if (a b : ByteArray) : cmpS a b = if sltB a b = true then -1 else if sltB b a = true then 1 else 0 := by
  have h1 := cb_lt a.data.toList b.data.toList
  have h2 := cb_gt a.data.toList b.data.toList
  have r := cb_r a.data.toList b.data.toList
  unfold cmpS sltB
  simp only [ByteArray.toList_eq, decide_eq_true_eq, ← h1, ← h2]
  generalize Lib.compareBytes a.data.toList b.data.toList = x at *
  rcases r with rfl | rfl | rfl <;> simp
set_option maxRecDepth 100000 in
theorem nanS_any (a : ByteArray) (W : World) : Calls Tryz.prog 62 #[.string a] W fun e w' => e = .returned (.bool false) ∧ w' = W := by
  go_enter Tryz.func62, Tryz.ntmps62
  go_wp2
  go_ret
  exact ⟨ret_bool (by simp), rfl⟩
set_option maxRecDepth 100000 in
theorem cmpStr_any (a b : ByteArray) (W : World) : Calls Tryz.prog 33 #[.string a, .string b] W fun e w' => e = .returned (.int .i64 (cmpS a b)) ∧ w' = W := by
  rw [cmpS_if]
  have HN := Lib.hid (fun (a : ByteArray) (X : World) => nanS_any a X)
  cases h1 : sltB a b
  · cases h2 : sltB b a
    · obtain rfl : a = b := sltB_total h1 h2
      have k1 := (less_slt a a).trans h1
      have k3 : (a.toList == a.toList) = true := by simp
      clear h1 h2
      go_enter Tryz.func33, Tryz.ntmps33
      go_wp2_with (go_at_call 62; refine (HN.out _ _).mono ?_; rintro e w' ⟨rfl, rfl⟩)
      all_goals (go_ret; exact ⟨by first | rfl | simp, rfl⟩)
    · have k1 := (less_slt a b).trans h1
      have k2 := (less_slt b a).trans h2
      have k3 : (a.toList == b.toList) = false := by
        cases q : (a.toList == b.toList)
        · rfl
        · have e := (eqS_iff a b).1 q
          subst e
          rw [h1] at h2; cases h2
      clear h1 h2
      go_enter Tryz.func33, Tryz.ntmps33
      go_wp2_with (go_at_call 62; refine (HN.out _ _).mono ?_; rintro e w' ⟨rfl, rfl⟩)
      all_goals (go_ret; exact ⟨by first | rfl | simp, rfl⟩)
  · have k1 := (less_slt a b).trans h1
    clear h1
    go_enter Tryz.func33, Tryz.ntmps33
    go_wp2_with (go_at_call 62; refine (HN.out _ _).mono ?_; rintro e w' ⟨rfl, rfl⟩)
    all_goals (go_ret; exact ⟨by first | rfl | simp, rfl⟩)
theorem cmpInt_any (a b : Int) (W : World) : Calls Tryz.prog 32 #[.int .i64 a, .int .i64 b] W fun e w' => e = .returned (.int .i64 (cmpI a b)) ∧ w' = W :=
  AnyG.cmp_Compare_int Tryz.lay_cmpint_f32 a b W

theorem firstI_drop {l : List Int} {k : Nat} {x : Int} (h : l[k]? = some x) : firstI (l.drop k) = if x ≠ 0 then x else firstI (l.drop (k + 1)) := by
  obtain ⟨hk, rfl⟩ := List.getElem?_eq_some_iff.1 h
  rw [List.drop_eq_getElem_cons hk]; rfl
set_option maxRecDepth 100000 in
set_option maxHeartbeats 4000000 in
theorem or_any {A : Option Addr} (c : Nat) {l : List Int} {w : World} (h : Rd encI 1 w w.heap.size A l) (hl : l.length ≤ 1000) :
    Calls Tryz.prog 31 #[.slice A l.length c] w fun e w' => e = .returned (.int .i64 (firstI l)) ∧ w' = w := by
  have HH := Lib.hid h
  clear h
  go_enter Tryz.func31, Tryz.ntmps31
  go_wp2_with fail
  go_loopw [8] (fun i wr => ∃ k : Nat, k ≤ l.length ∧ i = .int .i64 k ∧ Hid (firstI (l.drop k) = firstI l) ∧ wr = w) (fun i _ => l.length - (RowKit.intOf i).toNat)
  case atStart => exact ⟨0, Nat.zero_le _, rfl, rfl, rfl⟩
  case round =>
    obtain ⟨k, hk, rfl, HQ, rfl⟩ := hrel
    by_cases hi : k < l.length
    · obtain ⟨b, off, x, hA, hg, hx, hc⟩ := HH.out.at_ hi
      have d0 := hc 0 _ rfl
      have HD := Lib.hid (firstI_drop hx)
      have HL := Lib.hid hi
      have hi1 : (0 : Int) ≤ (k : Int) := by omega
      have hi2 : (k : Int) < (l.length : Int) := by omega
      subst hA
      simp only [Nat.mul_one, Nat.add_zero] at d0
      clear hc hx
      by_cases hx0 : x = 0
      · have HN := Lib.hid (show firstI (l.drop (k + 1)) = firstI l by rw [← HQ.out, HD.out, if_neg (by simp [hx0])])
        have hx1 : (x != 0) = false := by simp [hx0]
        clear hx0
        go_wp2
        go_roundw
        case rel => exact ⟨k + 1, HL.out, by go_num, HN, trivial⟩
        case measure => have := HL.out; simp [RowKit.intOf]; omega
      · have HN : Hid (firstI l = x) := Lib.hid (show firstI l = x by rw [← HQ.out, HD.out, if_pos hx0])
        have hx1 : (x != 0) = true := by simp [hx0]
        clear hx0 HQ HD
        go_wp2
        go_ret
        exact ⟨by rw [HN.out]; rfl, rfl⟩
    · obtain rfl : k = l.length := by omega
      have HN : Hid (firstI l = 0) := Lib.hid (by rw [← HQ.out, List.drop_length]; rfl)
      clear HQ hi hk
      go_wp2
      go_ret
      exact ⟨by rw [HN.out]; rfl, rfl⟩
end Go.Proofs.YtelchfijalkibaaGreatDoor
