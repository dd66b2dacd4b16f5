/- Joined texts: Trip, Open, OpenS. -/
import Derived.Test.YtelchfijalkibaaGreatDoorJRelMath
import Derived.Test.YtelchfijalkibaaGreatDoorJFirst
import Derived.Test.YtelchfijalkibaaGreatDoorProg
import Derived.Test.YtelchfijalkibaaGreatDoorBase
import Derived.ProofKit
import Derived.OpenShut
import Derived.ShutString
import Derived.ChangeOld
import Derived.Deep.Slices
import Derived.SizedLaws
/- Stops and trips as values. -/
namespace Go.Proofs.YtelchfijalkibaaGreatDoor
open Go.RowKit Go.Lib

structure Stp where
  pt : ByteArray
  t : Int
  pg : ByteArray
instance : Inhabited Stp := ⟨⟨⟨#[]⟩, 0, ⟨#[]⟩⟩⟩
def encSp (s : Stp) : List Value := [.string s.pt, .int .i64 s.t, .string s.pg]
theorem encSp_ok : Enc encSp 3 := ⟨fun _ => rfl, fun x u hu => by simp [encSp] at hu; rcases hu with rfl | rfl | rfl <;> rfl⟩
/-- a trip -/
structure Trp where
  id : ByteArray
  vh : ByteArray
  sy : ByteArray
  cl : Int
  sA : Option Addr
  sc : Nat
  ss : List Stp
def encTr (t : Trp) : List Value := [.string t.id, .string t.vh, .string t.sy, .int .i64 t.cl, .slice t.sA t.ss.length t.sc]
theorem encTr_ok : Enc encTr 5 := ⟨fun _ => rfl, fun x u hu => by simp [encTr] at hu; rcases hu with rfl | rfl | rfl | rfl | rfl <;> rfl⟩
def TrV (t : Trp) : Value := .agg #[.string t.id, .string t.vh, .string t.sy, .int .i64 t.cl, .slice t.sA t.ss.length t.sc]
def TrOk (w : World) (t : Trp) : Prop := Rd encSp 3 w w.heap.size t.sA t.ss ∧ t.ss.length ≤ 9223372036854775807
theorem TrOk.st {w w' : World} {t : Trp} (h : TrOk w t) (hb : Below w.heap.size w w') : TrOk w' t := ⟨h.1.st hb, h.2⟩
theorem Rd.tp {w : World} {B : Nat} {A : Option Addr} {l : List Trp} (h : Rd encTr 5 w B A l) {i : Nat} (hi : i < l.length) :
    ∃ b off t, A = some ⟨b, off, none⟩ ∧ b < B ∧ l[i]? = some t ∧ w.cell? ⟨b, off + i * 5, none⟩ = some (.string t.id) ∧ w.cell? ⟨b, off + i * 5 + 1, none⟩ = some (.string t.vh) ∧ w.cell? ⟨b, off + i * 5 + 2, none⟩ = some (.string t.sy) ∧ w.cell? ⟨b, off + i * 5 + 3, none⟩ = some (.int .i64 t.cl) ∧ w.cell? ⟨b, off + i * 5 + 4, none⟩ = some (.slice t.sA t.ss.length t.sc) := by
  obtain ⟨b, off, x, hA, hb, hx, hc⟩ := h.at_ hi
  exact ⟨b, off, x, hA, hb, hx, hc 0 _ rfl, hc 1 _ rfl, hc 2 _ rfl, hc 3 _ rfl, hc 4 _ rfl⟩
end Go.Proofs.YtelchfijalkibaaGreatDoor
/- Arguments opened: from the row's reading to lists (Rd). -/
namespace Go.Proofs.YtelchfijalkibaaGreatDoor
open Go.ChangeShapes Go.WideShapes Go.ChangeAt Go.RowKit Go.Lib Go.Deep

section
variable {H : Type} {encH : TypeId × Value → H} {P : Program} {w : World} {base : Nat} {spare : Nat → Bool} {held : Bool} {α : Type} {enc : α → List Value} {k t e : Nat}

theorem cell_lt {a : Addr} {v : Value} (h : w.cell? a = some v) : a.block < w.heap.size := by
  rcases Nat.lt_or_ge a.block w.heap.size with hlt | hge
  · exact hlt
  · unfold World.cell? at h
    rw [Array.getElem?_eq_none hge] at h
    cases h
theorem add_lit' (a : Addr) (i : Nat) (ha : a.spot = none) : a.add i = ⟨a.block, a.off + i, none⟩ := by
  obtain ⟨b, off, spot⟩ := a
  simp only at ha
  subst ha
  unfold Addr.add
  split <;> simp_all
theorem add_add' (a : Addr) (i j : Nat) : (a.add i).add j = a.add (i + j) := by
  unfold Addr.add
  by_cases hi : i = 0 <;> by_cases hj : j = 0 <;> simp [hi, hj, Nat.add_assoc]

/-- how the cells of one element are opened: they are the code of some x with OK x -/
def Opens (encH : TypeId × Value → H) (P : Program) (w : World) (base : Nat) (spare : Nat → Bool) (held : Bool) (e : Nat) (enc : α → List Value) (OK : α → Prop) : Prop :=
  ∀ (fuel : Nat) (cs : List Value) (x : DataW H × List MemPlace), DataW.trod encH P w base spare held fuel e cs = some x → ∃ a : α, cs = enc a ∧ OK a

theorem open_list {OK : α → Prop} (ht : P.underlying t = some (.slice e)) (hC : P.cellsOf e = k) (hk0 : 0 < k) (hE : ∀ x, (enc x).length = k) (ho : Opens encH P w base spare held e enc OK)
    {fuel : Nat} {cs : List Value} {x : DataW H × List MemPlace} (h : DataW.trod encH P w base spare held fuel t cs = some x) :
    ∃ (A : Option Addr) (cap : Nat) (l : List α), cs = [.slice A l.length cap] ∧ l.length ≤ cap ∧ cap ≤ maxLen ∧ Rd enc k w w.heap.size A l ∧ ∀ a ∈ l, OK a := by
  rcases open_slice ht h with ⟨rfl, _⟩ | ⟨a, len, cap, m, n, D, Pl, rfl, _, hlc, hcm, hmm, _, hi⟩
  · exact ⟨none, 0, [], rfl, Nat.le_refl _, Nat.zero_le _, Rd.nil, by simp⟩
  · have hlm : len ≤ m := by rw [hmm]; split <;> omega
    have hel : ∀ i, i < len → ∃ y : α, OK y ∧ ∀ j u, (enc y)[j]? = some u → w.cell? (a.add (i * k + j)) = some u := by
      intro i hil
      obtain ⟨cs', hc, ht'⟩ := hi i (by omega)
      obtain ⟨y, hy, hok⟩ := ho _ _ _ ht'
      obtain ⟨_, hcl, hat⟩ := World.cells?_some hc
      refine ⟨y, hok, fun j u hu => ?_⟩
      have hj : j < k := by have := (List.getElem?_eq_some_iff.1 hu).1; rwa [hE] at this
      have := hat j (by rw [hC]; exact hj)
      rw [add_add', hC] at this
      rw [this, hy]
      exact hu
    obtain ⟨f, hf⟩ : ∃ f : (i : Nat) → i < len → α, ∀ i hi, OK (f i hi) ∧ ∀ j u, (enc (f i hi))[j]? = some u → w.cell? (a.add (i * k + j)) = some u :=
      ⟨fun i hi => (hel i hi).choose, fun i hi => (hel i hi).choose_spec⟩
    let l : List α := (List.finRange len).map fun i => f i.1 i.2
    have hl : l.length = len := by simp [l]
    refine ⟨some a, cap, l, by rw [hl], by rw [hl]; exact hlc, hcm, ?_, ?_⟩
    · intro hne
      have h0 : 0 < len := by
        rcases Nat.eq_zero_or_pos len with h0 | h0
        · exact absurd (List.eq_nil_of_length_eq_zero (by rw [hl]; exact h0)) hne
        · exact h0
      have hc0 : ∃ u, w.cell? (a.add 0) = some u := by
        have hl0 : 0 < (enc (f 0 h0)).length := by rw [hE]; exact hk0
        exact ⟨_, by simpa using (hf 0 h0).2 0 _ (List.getElem?_eq_getElem hl0)⟩
      obtain ⟨u0, hu0⟩ := hc0
      rw [show a.add 0 = a by simp [Addr.add]] at hu0
      have hsp := World.cell?_spot hu0
      have hb := cell_lt hu0
      refine ⟨a.block, a.off, by obtain ⟨b, o, s⟩ := a; simp only at hsp; subst hsp; rfl, hb, fun i x hx j u hu => ?_⟩
      have hil : i < len := by have := (List.getElem?_eq_some_iff.1 hx).1; rwa [hl] at this
      have hxe : x = f i hil := by
        have := (List.getElem?_eq_some_iff.1 hx).2
        rw [← this]
        simp [l]
      subst hxe
      have := (hf i hil).2 j u hu
      rw [add_lit' a _ hsp, ← Nat.add_assoc] at this
      exact this
    · intro y hy
      simp only [l, List.mem_map] at hy
      obtain ⟨i, _, rfl⟩ := hy
      exact (hf i.1 i.2).1

/-- a struct's cells, part by part -/
theorem pieces (cs : List Value) (o s o' : Nat) (h : o' = o + s) : cs.drop o = (cs.drop o).take s ++ cs.drop o' := by
  subst h
  rw [← List.drop_drop, List.take_append_drop]
end
end Go.Proofs.YtelchfijalkibaaGreatDoor
/- Arguments opened with the form's own reach: every slice that is met takes at most reachBytes. -/
namespace Go.Proofs.YtelchfijalkibaaGreatDoor
open Go.ChangeShapes Go.WideShapes Go.ChangeAt Go.RowKit Go.Lib Go.Deep

def Sized {H : Type} (P : Program) (t : TypeId) (d : DataW H) : Prop := ∀ n ∈ d.weights P t, n ≤ reachBytes

section
variable {H : Type} {encH : TypeId × Value → H} {P : Program} {w : World} {base : Nat} {spare : Nat → Bool} {held : Bool} {α : Type} {enc : α → List Value} {k t e : Nat}

theorem Sized.of {ts : List TypeId} {ds : List (DataW H)} (h : (DataW.weightsEach P ts ds).all (· ≤ reachBytes) = true) {j : Nat} {t : TypeId} {d : DataW H} (ht : ts[j]? = some t) (hd : ds[j]? = some d) : Sized P t d := fun n hn => by
  have := List.all_eq_true.1 h _ (DataW.weights_mem_each ht hd n hn)
  simpa using this
theorem Sized.each {ts : List TypeId} {ds : List (DataW H)} (h : ∀ n ∈ DataW.weightsEach P ts ds, n ≤ reachBytes) {j : Nat} {t : TypeId} {d : DataW H} (ht : ts[j]? = some t) (hd : ds[j]? = some d) : Sized P t d := fun n hn => h n (DataW.weights_mem_each ht hd n hn)
theorem weightsAll_mem {e : TypeId} : ∀ {l : List (DataW H)} {d : DataW H}, d ∈ l → ∀ n ∈ d.weights P e, n ∈ DataW.weightsAll P e l
  | x :: l, d, hd, n, hn => by
    simp only [DataW.weightsAll, List.mem_append]
    rcases List.mem_cons.1 hd with rfl | hd
    · exact Or.inl hn
    · exact Or.inr (weightsAll_mem hd n hn)
theorem Sized.field {fs : Array Field} (ht : P.underlying t = some (.struct fs)) {ds : List (DataW H)} (h : Sized P t (.agg ds)) {i : Nat} {f : Field} (hf : fs[i]? = some f) {d : DataW H} (hd : ds[i]? = some d) : Sized P f.type d :=
  Sized.each (ts := fs.toList.map (·.type)) (ds := ds) (j := i) (fun n hn => h n (by simp only [DataW.weights, ht]; exact hn)) (by simp [hf]) hd
theorem Sized.len (ht : P.underlying t = some (.slice e)) {es sp : List (DataW H)} (h : Sized P t (.slice es sp)) : es.length * P.bytesOf e ≤ reachBytes := by
  have := h ((es.length + sp.length) * P.bytesOf e) (by simp only [DataW.weights, ht]; exact List.mem_cons_self ..)
  exact Nat.le_trans (Nat.mul_le_mul_right _ (Nat.le_add_right _ _)) this
theorem Sized.elem (ht : P.underlying t = some (.slice e)) {es sp : List (DataW H)} (h : Sized P t (.slice es sp)) {d : DataW H} (hd : d ∈ es) : Sized P e d := fun n hn =>
  h n (by simp only [DataW.weights, ht]; exact List.mem_cons_of_mem _ (List.mem_append_left _ (weightsAll_mem hd n hn)))

/-- how the cells of one element of bounded size are opened -/
def OpensS (encH : TypeId × Value → H) (P : Program) (w : World) (base : Nat) (spare : Nat → Bool) (held : Bool) (e : Nat) (enc : α → List Value) (OK : α → Prop) : Prop :=
  ∀ (fuel : Nat) (cs : List Value) (x : DataW H × List MemPlace), DataW.trod encH P w base spare held fuel e cs = some x → Sized P e x.1 → ∃ a : α, cs = enc a ∧ OK a
theorem Opens.s {OK : α → Prop} (h : Opens encH P w base spare held e enc OK) : OpensS encH P w base spare held e enc OK := fun fuel cs x hx _ => h fuel cs x hx

theorem open_listS {OK : α → Prop} (ht : P.underlying t = some (.slice e)) (hC : P.cellsOf e = k) (hk0 : 0 < k) (hE : ∀ x, (enc x).length = k) (ho : OpensS encH P w base spare held e enc OK)
    {fuel : Nat} {cs : List Value} {x : DataW H × List MemPlace} (h : DataW.trod encH P w base spare held fuel t cs = some x) (hz : Sized P t x.1) :
    ∃ (A : Option Addr) (cap : Nat) (l : List α), cs = [.slice A l.length cap] ∧ l.length ≤ cap ∧ cap ≤ maxLen ∧ Rd enc k w w.heap.size A l ∧ (∀ a ∈ l, OK a) ∧ l.length * P.bytesOf e ≤ reachBytes := by
  rcases open_slice ht h with ⟨rfl, _⟩ | ⟨a, len, cap, m, n, D, Pl, rfl, _, hlc, hcm, hmm, hxe, hi⟩
  · exact ⟨none, 0, [], rfl, Nat.le_refl _, Nat.zero_le _, Rd.nil, by simp, by simp⟩
  · have hlm : len ≤ m := by rw [hmm]; split <;> omega
    rw [hxe] at hz
    have hlen := Sized.len ht hz
    rw [List.length_map, List.length_range] at hlen
    have hel : ∀ i, i < len → ∃ y : α, OK y ∧ ∀ j u, (enc y)[j]? = some u → w.cell? (a.add (i * k + j)) = some u := by
      intro i hil
      obtain ⟨cs', hc, ht'⟩ := hi i (by omega)
      obtain ⟨y, hy, hok⟩ := ho _ _ _ ht' (Sized.elem ht hz (List.mem_map.2 ⟨i, List.mem_range.2 hil, rfl⟩))
      obtain ⟨_, hcl, hat⟩ := World.cells?_some hc
      refine ⟨y, hok, fun j u hu => ?_⟩
      have hj : j < k := by have := (List.getElem?_eq_some_iff.1 hu).1; rwa [hE] at this
      have := hat j (by rw [hC]; exact hj)
      rw [add_add', hC] at this
      rw [this, hy]
      exact hu
    obtain ⟨f, hf⟩ : ∃ f : (i : Nat) → i < len → α, ∀ i hi, OK (f i hi) ∧ ∀ j u, (enc (f i hi))[j]? = some u → w.cell? (a.add (i * k + j)) = some u :=
      ⟨fun i hi => (hel i hi).choose, fun i hi => (hel i hi).choose_spec⟩
    let l : List α := (List.finRange len).map fun i => f i.1 i.2
    have hl : l.length = len := by simp [l]
    refine ⟨some a, cap, l, by rw [hl], by rw [hl]; exact hlc, hcm, ?_, ?_, by rw [hl]; exact hlen⟩
    · intro hne
      have h0 : 0 < len := by
        rcases Nat.eq_zero_or_pos len with h0 | h0
        · exact absurd (List.eq_nil_of_length_eq_zero (by rw [hl]; exact h0)) hne
        · exact h0
      have hc0 : ∃ u, w.cell? (a.add 0) = some u := by
        have hl0 : 0 < (enc (f 0 h0)).length := by rw [hE]; exact hk0
        exact ⟨_, by simpa using (hf 0 h0).2 0 _ (List.getElem?_eq_getElem hl0)⟩
      obtain ⟨u0, hu0⟩ := hc0
      rw [show a.add 0 = a by simp [Addr.add]] at hu0
      have hsp := World.cell?_spot hu0
      have hb := cell_lt hu0
      refine ⟨a.block, a.off, by obtain ⟨b, o, s⟩ := a; simp only at hsp; subst hsp; rfl, hb, fun i x hx j u hu => ?_⟩
      have hil : i < len := by have := (List.getElem?_eq_some_iff.1 hx).1; rwa [hl] at this
      have hxe : x = f i hil := by
        have := (List.getElem?_eq_some_iff.1 hx).2
        rw [← this]
        simp [l]
      subst hxe
      have := (hf i hil).2 j u hu
      rw [add_lit' a _ hsp, ← Nat.add_assoc] at this
      exact this
    · intro y hy
      simp only [l, List.mem_map] at hy
      obtain ⟨i, _, rfl⟩ := hy
      exact (hf i.1 i.2).1
end
end Go.Proofs.YtelchfijalkibaaGreatDoor
