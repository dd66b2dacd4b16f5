/- zone.copied, zone.Find and the reference's Find, walked. -/
import Derived.Test.YtcpfiiapfggmpaaGreatJDisAll
import Derived.Test.YtcpfiiapfggmpaaGreatJSpanMath
namespace Go.Proofs.YtcpfiiapfggmpaaGreat
open Go.RowKit Go.Lib

/-- a zone whose slices are the call's own -/
def ZOwn (w : World) (base : Nat) (z : Zn) : Prop := Own 91 encW 3 w base z.hA z.hc z.hs ∧ Own 228 encW 3 w base z.sA z.sc z.ss
theorem ZOwn.ok {w : World} {base : Nat} {z : Zn} (h : ZOwn w base z) : ZOk w z := ⟨h.1.rd encW_ok, h.2.rd encW_ok⟩
theorem ZOwn.other {w : World} {base : Nat} {z : Zn} (h : ZOwn w base z) {p : Addr} (hp : p.block < base) (v : Value) : ZOwn (w.setCell p v) base z := ⟨h.1.other hp v, h.2.other hp v⟩
theorem ZOwn.mono {w : World} {base base' : Nat} {z : Zn} (h : ZOwn w base z) (hb : base' ≤ base) : ZOwn w base' z := ⟨h.1.mono hb, h.2.mono hb⟩

set_option maxRecDepth 100000 in
set_option maxHeartbeats 2000000 in
theorem copied_any (z : Zn) {w : World} (h : ZOk w z) (hs0 : small z) :
    Calls Tryz.prog 83 #[ZV z] w fun e w' => ∃ z', e = .returned (ZV z') ∧ zc z' = zc z ∧ ZOwn w' w.heap.size z' ∧ Below w.heap.size w w' := by
  obtain ⟨nm, hA, hc, hs, sA, sc, ss, gr, fr, dm, ms⟩ := z
  have h1 : Rd encW 3 w w.heap.size hA hs := h.1
  have h2 : Rd encW 3 w w.heap.size sA ss := h.2
  have hl1 : hs.length ≤ 60 := hs0.1
  have hl2 : ss.length ≤ 40 := hs0.2
  clear h hs0
  simp only [ZV]
  obtain ⟨W0, hW0⟩ : ∃ W0, (w.alloc (.cells #[.string nm, .slice hA hs.length hc, .slice sA ss.length sc, .int .i64 gr, .int .i64 fr, .int .i64 dm, .int .i64 ms] 76)).alloc (.cells #[.string ⟨#[]⟩, .slice none 0 0, .slice none 0 0, .int .i64 0, .int .i64 0, .int .i64 0, .int .i64 0] 76) = W0 := ⟨_, rfl⟩
  have hb0 : Below w.heap.size w W0 := by rw [← hW0]; exact ((Below.refl _ w).al _).al _
  have hz : W0.heap.size = w.heap.size + 2 := by rw [← hW0]; simp
  have cA : ∀ j v, j < 7 → (#[.string nm, .slice hA hs.length hc, .slice sA ss.length sc, .int .i64 gr, .int .i64 fr, .int .i64 dm, .int .i64 ms] : Array Value)[j]? = some v → W0.cell? ⟨w.heap.size, j, none⟩ = some v := fun j v _ hv => by
    rw [← hW0]
    refine (World.cell?_alloc_lt (w.alloc _) _ ⟨w.heap.size, j, none⟩ (by simp)).trans ?_
    rw [cell_of_row _ _ _ _ _ (0, 0) (heap_alloc_new w _)]
    exact hv
  have cB : ∀ j, j < 7 → ∃ v, W0.cell? ⟨w.heap.size + 1, j, none⟩ = some v := fun j hj => by
    rw [← hW0, cell_of_row _ _ _ _ _ (0, 0) (heap_alloc_new' (w.alloc _) _ (w.heap.size + 1) (by simp))]
    exact ⟨_, Array.getElem?_eq_getElem (by simpa using hj)⟩
  have fA : ∀ b j, w.heap.size ≤ b → b < w.heap.size + 2 → W0.frozen? ⟨b, j, none⟩ = false := fun b j h1 h2 => by
    rw [← hW0]
    rcases (by omega : b = w.heap.size ∨ b = w.heap.size + 1) with rfl | rfl
    · simp
    · simp
  have Hz := Lib.hid hz
  have CA := Lib.hid cA
  have CB := Lib.hid cB
  have FA := Lib.hid fA
  have r1 := h1.keep hb0
  clear cA cB fA hz h1
  subst hW0
  go_enter Tryz.func83, Tryz.ntmps83
  go_wp2_with (first | (at_builtin; refine wpList_appS (l := ([] : List Wn)) rfl (.const (.slice none 0 0)) (.tmp 4) tyW encW_ok rfl (w.heap.size + 2) rfl rfl (Own.nil _ _) hs rfl rfl r1 (by simp; omega) (by simp; omega) (by simp) ?_; intro A1 c1 w1 ho1 hb1 hs1 hf1; have a0 := (hb1.cell (p := ⟨w.heap.size, 0, none⟩) (by simp)).trans (CA.out 0 _ (by omega) rfl); have a1 := (hb1.cell (p := ⟨w.heap.size, 1, none⟩) (by simp)).trans (CA.out 1 _ (by omega) rfl); have a2 := (hb1.cell (p := ⟨w.heap.size, 2, none⟩) (by simp)).trans (CA.out 2 _ (by omega) rfl); have a3 := (hb1.cell (p := ⟨w.heap.size, 3, none⟩) (by simp)).trans (CA.out 3 _ (by omega) rfl); have a4 := (hb1.cell (p := ⟨w.heap.size, 4, none⟩) (by simp)).trans (CA.out 4 _ (by omega) rfl); have a5 := (hb1.cell (p := ⟨w.heap.size, 5, none⟩) (by simp)).trans (CA.out 5 _ (by omega) rfl); have a6 := (hb1.cell (p := ⟨w.heap.size, 6, none⟩) (by simp)).trans (CA.out 6 _ (by omega) rfl); have f1 := (hb1.frozen (p := ⟨w.heap.size, 1, none⟩) (by simp)).trans (FA.out w.heap.size 1 (by omega) (by omega)); have z1 : w.heap.size + 1 < w1.heap.size := (by have := hb1.size; simp at this; omega); have HB := Lib.hid hb1; have HO := Lib.hid ho1; clear hb1 hs1 hf1 ho1) | (at_builtin; refine wpList_appS (l := ([] : List Wn)) rfl (.const (.slice none 0 0)) (.tmp 8) tyP encW_ok rfl w1.heap.size rfl rfl (Own.nil _ _) ss rfl rfl (h2.keep ((hb0.trans (HB.out.mono (by omega))).setCell (p := ⟨w.heap.size, 1, none⟩) (Nat.le_refl _) _)) (by simp; omega) (by simp; omega) (by simp) ?_; intro A2 c2 w2 ho2 hb2 hs2 hf2; have e0 : w2.cell? ⟨w.heap.size, 0, none⟩ = some (.string nm) := (hb2.cell (p := ⟨w.heap.size, 0, none⟩) (by first | omega | (simp; omega))).trans ((World.cell?_setCell_other _ _ _ _ (by simp)).trans a0); have e1 : w2.cell? ⟨w.heap.size, 1, none⟩ = some (.slice A1 hs.length c1) := (hb2.cell (p := ⟨w.heap.size, 1, none⟩) (by first | omega | (simp; omega))).trans (World.cell?_setCell_same _ _ _ a1); have e2 : w2.cell? ⟨w.heap.size, 2, none⟩ = some (.slice sA ss.length sc) := (hb2.cell (p := ⟨w.heap.size, 2, none⟩) (by first | omega | (simp; omega))).trans ((World.cell?_setCell_other _ _ _ _ (by simp)).trans a2); have e3 : w2.cell? ⟨w.heap.size, 3, none⟩ = some (.int .i64 gr) := (hb2.cell (p := ⟨w.heap.size, 3, none⟩) (by first | omega | (simp; omega))).trans ((World.cell?_setCell_other _ _ _ _ (by simp)).trans a3); have e4 : w2.cell? ⟨w.heap.size, 4, none⟩ = some (.int .i64 fr) := (hb2.cell (p := ⟨w.heap.size, 4, none⟩) (by first | omega | (simp; omega))).trans ((World.cell?_setCell_other _ _ _ _ (by simp)).trans a4); have e5 : w2.cell? ⟨w.heap.size, 5, none⟩ = some (.int .i64 dm) := (hb2.cell (p := ⟨w.heap.size, 5, none⟩) (by first | omega | (simp; omega))).trans ((World.cell?_setCell_other _ _ _ _ (by simp)).trans a5); have e6 : w2.cell? ⟨w.heap.size, 6, none⟩ = some (.int .i64 ms) := (hb2.cell (p := ⟨w.heap.size, 6, none⟩) (by first | omega | (simp; omega))).trans ((World.cell?_setCell_other _ _ _ _ (by simp)).trans a6); obtain ⟨v0, g0⟩ := CB.out 0 (by omega); have g0' : w2.cell? ⟨w.heap.size + 1, 0, none⟩ = some v0 := (hb2.cell (p := ⟨w.heap.size + 1, 0, none⟩) (by first | omega | (simp; omega))).trans ((World.cell?_setCell_other _ _ _ _ (by simp)).trans ((HB.out.cell (p := ⟨w.heap.size + 1, 0, none⟩) (by simp)).trans g0)); clear g0; obtain ⟨v1, g1⟩ := CB.out 1 (by omega); have g1' : w2.cell? ⟨w.heap.size + 1, 1, none⟩ = some v1 := (hb2.cell (p := ⟨w.heap.size + 1, 1, none⟩) (by first | omega | (simp; omega))).trans ((World.cell?_setCell_other _ _ _ _ (by simp)).trans ((HB.out.cell (p := ⟨w.heap.size + 1, 1, none⟩) (by simp)).trans g1)); clear g1; obtain ⟨v2, g2⟩ := CB.out 2 (by omega); have g2' : w2.cell? ⟨w.heap.size + 1, 2, none⟩ = some v2 := (hb2.cell (p := ⟨w.heap.size + 1, 2, none⟩) (by first | omega | (simp; omega))).trans ((World.cell?_setCell_other _ _ _ _ (by simp)).trans ((HB.out.cell (p := ⟨w.heap.size + 1, 2, none⟩) (by simp)).trans g2)); clear g2; obtain ⟨v3, g3⟩ := CB.out 3 (by omega); have g3' : w2.cell? ⟨w.heap.size + 1, 3, none⟩ = some v3 := (hb2.cell (p := ⟨w.heap.size + 1, 3, none⟩) (by first | omega | (simp; omega))).trans ((World.cell?_setCell_other _ _ _ _ (by simp)).trans ((HB.out.cell (p := ⟨w.heap.size + 1, 3, none⟩) (by simp)).trans g3)); clear g3; obtain ⟨v4, g4⟩ := CB.out 4 (by omega); have g4' : w2.cell? ⟨w.heap.size + 1, 4, none⟩ = some v4 := (hb2.cell (p := ⟨w.heap.size + 1, 4, none⟩) (by first | omega | (simp; omega))).trans ((World.cell?_setCell_other _ _ _ _ (by simp)).trans ((HB.out.cell (p := ⟨w.heap.size + 1, 4, none⟩) (by simp)).trans g4)); clear g4; obtain ⟨v5, g5⟩ := CB.out 5 (by omega); have g5' : w2.cell? ⟨w.heap.size + 1, 5, none⟩ = some v5 := (hb2.cell (p := ⟨w.heap.size + 1, 5, none⟩) (by first | omega | (simp; omega))).trans ((World.cell?_setCell_other _ _ _ _ (by simp)).trans ((HB.out.cell (p := ⟨w.heap.size + 1, 5, none⟩) (by simp)).trans g5)); clear g5; obtain ⟨v6, g6⟩ := CB.out 6 (by omega); have g6' : w2.cell? ⟨w.heap.size + 1, 6, none⟩ = some v6 := (hb2.cell (p := ⟨w.heap.size + 1, 6, none⟩) (by first | omega | (simp; omega))).trans ((World.cell?_setCell_other _ _ _ _ (by simp)).trans ((HB.out.cell (p := ⟨w.heap.size + 1, 6, none⟩) (by simp)).trans g6)); clear g6; have k0 : w2.frozen? ⟨w.heap.size + 1, 0, none⟩ = false := (hb2.frozen (p := ⟨w.heap.size + 1, 0, none⟩) (by first | omega | (simp; omega))).trans ((World.frozen?_setCell _ _ _ _).trans ((HB.out.frozen (p := ⟨w.heap.size + 1, 0, none⟩) (by simp)).trans (FA.out (w.heap.size + 1) 0 (by omega) (by omega)))); have k1 : w2.frozen? ⟨w.heap.size + 1, 1, none⟩ = false := (hb2.frozen (p := ⟨w.heap.size + 1, 1, none⟩) (by first | omega | (simp; omega))).trans ((World.frozen?_setCell _ _ _ _).trans ((HB.out.frozen (p := ⟨w.heap.size + 1, 1, none⟩) (by simp)).trans (FA.out (w.heap.size + 1) 1 (by omega) (by omega)))); have k2 : w2.frozen? ⟨w.heap.size + 1, 2, none⟩ = false := (hb2.frozen (p := ⟨w.heap.size + 1, 2, none⟩) (by first | omega | (simp; omega))).trans ((World.frozen?_setCell _ _ _ _).trans ((HB.out.frozen (p := ⟨w.heap.size + 1, 2, none⟩) (by simp)).trans (FA.out (w.heap.size + 1) 2 (by omega) (by omega)))); have k3 : w2.frozen? ⟨w.heap.size + 1, 3, none⟩ = false := (hb2.frozen (p := ⟨w.heap.size + 1, 3, none⟩) (by first | omega | (simp; omega))).trans ((World.frozen?_setCell _ _ _ _).trans ((HB.out.frozen (p := ⟨w.heap.size + 1, 3, none⟩) (by simp)).trans (FA.out (w.heap.size + 1) 3 (by omega) (by omega)))); have k4 : w2.frozen? ⟨w.heap.size + 1, 4, none⟩ = false := (hb2.frozen (p := ⟨w.heap.size + 1, 4, none⟩) (by first | omega | (simp; omega))).trans ((World.frozen?_setCell _ _ _ _).trans ((HB.out.frozen (p := ⟨w.heap.size + 1, 4, none⟩) (by simp)).trans (FA.out (w.heap.size + 1) 4 (by omega) (by omega)))); have k5 : w2.frozen? ⟨w.heap.size + 1, 5, none⟩ = false := (hb2.frozen (p := ⟨w.heap.size + 1, 5, none⟩) (by first | omega | (simp; omega))).trans ((World.frozen?_setCell _ _ _ _).trans ((HB.out.frozen (p := ⟨w.heap.size + 1, 5, none⟩) (by simp)).trans (FA.out (w.heap.size + 1) 5 (by omega) (by omega)))); have k6 : w2.frozen? ⟨w.heap.size + 1, 6, none⟩ = false := (hb2.frozen (p := ⟨w.heap.size + 1, 6, none⟩) (by first | omega | (simp; omega))).trans ((World.frozen?_setCell _ _ _ _).trans ((HB.out.frozen (p := ⟨w.heap.size + 1, 6, none⟩) (by simp)).trans (FA.out (w.heap.size + 1) 6 (by omega) (by omega)))); have k20 : w2.frozen? ⟨w.heap.size, 2, none⟩ = false := (hb2.frozen (p := ⟨w.heap.size, 2, none⟩) (by first | omega | (simp; omega))).trans ((World.frozen?_setCell _ _ _ _).trans ((HB.out.frozen (p := ⟨w.heap.size, 2, none⟩) (by simp)).trans (FA.out w.heap.size 2 (by omega) (by omega)))); clear a0 a1 a2 a3 a4 a5 a6 f1; have HB2 := Lib.hid hb2; have HO2 := Lib.hid ho2; clear hb2 hs2 hf2 ho2))
  refine bodyPost_ret (v := ZV ⟨nm, A1, c1, hs, A2, c2, ss, gr, fr, dm, ms⟩) (by simp [results, Tryz.results83, go_sem, g0', g1', g2', g3', g4', g5', g6']) rfl ?_
  have o1 := (HO.out.other (p := ⟨w.heap.size, 1, none⟩) (by simp) (.slice A1 hs.length c1)).keep HB2.out (by simp)
  have o2 := (HO2.out.mono (base' := w.heap.size + 2) (by omega))
  have b2 : Below w.heap.size w w2 := ((hb0.trans (HB.out.mono (by omega))).setCell (p := ⟨w.heap.size, 1, none⟩) (Nat.le_refl _) _).trans (HB2.out.mono (by omega))
  rw [List.nil_append] at o1 o2
  refine ⟨_, rfl, rfl, ⟨Own.mono (base := w.heap.size + 2) ?_ (by omega), Own.mono (base := w.heap.size + 2) ?_ (by omega)⟩, ?_⟩
  · repeat refine Own.other ?_ (by simp) _
    exact o1
  · repeat refine Own.other ?_ (by simp) _
    exact o2
  · repeat refine Below.setCell ?_ (by simp) _
    exact b2

/-! ### Find -/
def findZ (l : List Zn) (nm : ByteArray) : Option Zn := l.find? fun z => eqS z.name nm
def zeroZ : Zn := ⟨⟨#[]⟩, none, 0, [], none, 0, [], 0, 0, 0, 0⟩
def FindR (l : List Zn) (nm : ByteArray) (w w' : World) (e : Ending) : Prop :=
  ∃ z', e = .returned (.tuple #[ZV z', .bool (findZ l nm).isSome]) ∧ zc z' = zc ((findZ l nm).getD zeroZ) ∧ ZOk w' z' ∧ Below w.heap.size w w'
theorem findZ_at {l : List Zn} {nm : ByteArray} {k : Nat} {z : Zn} (hx : l[k]? = some z) (h : ∀ y ∈ l.take k, eqS y.name nm = false) (hz : eqS z.name nm = true) : findZ l nm = some z := by
  unfold findZ
  have hk := (List.getElem?_eq_some_iff.1 hx)
  obtain ⟨hk, rfl⟩ := hk
  rw [List.find?_eq_some_iff_getElem]
  refine ⟨hz, k, hk, rfl, fun j hj => ?_⟩
  have := h l[j] (by rw [List.mem_take_iff_getElem]; exact ⟨j, by omega, rfl⟩)
  simp [this]
theorem findZ_none {l : List Zn} {nm : ByteArray} (h : ∀ y ∈ l.take l.length, eqS y.name nm = false) : findZ l nm = none := by
  rw [List.take_length] at h
  unfold findZ
  rw [List.find?_eq_none]
  intro x hx
  rw [h x hx]
  simp
theorem Rd.z {w : World} {B : Nat} {A : Option Addr} {l : List Zn} (h : Rd encZ 7 w B A l) {i : Nat} (hi : i < l.length) :
    ∃ b off z, A = some ⟨b, off, none⟩ ∧ b < B ∧ l[i]? = some z ∧ w.cell? ⟨b, off + i * 7, none⟩ = some (.string z.name) ∧ w.cell? ⟨b, off + i * 7 + 1, none⟩ = some (.slice z.hA z.hs.length z.hc) ∧ w.cell? ⟨b, off + i * 7 + 2, none⟩ = some (.slice z.sA z.ss.length z.sc) ∧ w.cell? ⟨b, off + i * 7 + 3, none⟩ = some (.int .i64 z.grace) ∧ w.cell? ⟨b, off + i * 7 + 4, none⟩ = some (.int .i64 z.free) ∧ w.cell? ⟨b, off + i * 7 + 5, none⟩ = some (.int .i64 z.dayMax) ∧ w.cell? ⟨b, off + i * 7 + 6, none⟩ = some (.int .i64 z.maxStay) := by
  obtain ⟨b, off, z, hA, hb, hx, hc⟩ := h.at_ hi
  exact ⟨b, off, z, hA, hb, hx, hc 0 _ rfl, hc 1 _ rfl, hc 2 _ rfl, hc 3 _ rfl, hc 4 _ rfl, hc 5 _ rfl, hc 6 _ rfl⟩
/-- a list of zones, each read -/
def ZsOk (w : World) (l : List Zn) : Prop := ∀ z ∈ l, ZOk w z
theorem ZsOk.st {w w' : World} {l : List Zn} (h : ZsOk w l) (hb : Below w.heap.size w w') : ZsOk w' l := fun z hz => (h z hz).st hb

set_option maxRecDepth 100000 in
set_option maxHeartbeats 2000000 in
theorem zfind_any {A : Option Addr} (c : Nat) {l : List Zn} {nm : ByteArray} {w : World} (h : Rd encZ 7 w w.heap.size A l) (hz : ZsOk w l) (hsm : ∀ z ∈ l, small z) (hlen : l.length ≤ 9223372036854775807) :
    Calls Tryz.prog 39 #[.slice A l.length c, .string nm] w fun e w' => FindR l nm w w' e := by
  have hb0 : Below w.heap.size w (w.alloc (.cells #[.string ⟨#[]⟩, .slice none 0 0, .slice none 0 0, .int .i64 0, .int .i64 0, .int .i64 0, .int .i64 0] 76)) := (Below.refl _ w).al _
  have hz0 : w.heap.size < (w.alloc (.cells #[.string ⟨#[]⟩, .slice none 0 0, .slice none 0 0, .int .i64 0, .int .i64 0, .int .i64 0, .int .i64 0] 76)).heap.size := by simp
  have b0 : (w.alloc (.cells #[.string ⟨#[]⟩, .slice none 0 0, .slice none 0 0, .int .i64 0, .int .i64 0, .int .i64 0, .int .i64 0] 76)).cell? ⟨w.heap.size, 0, none⟩ = some (.string ⟨#[]⟩) := by simp
  have f0 : (w.alloc (.cells #[.string ⟨#[]⟩, .slice none 0 0, .slice none 0 0, .int .i64 0, .int .i64 0, .int .i64 0, .int .i64 0] 76)).frozen? ⟨w.heap.size, 0, none⟩ = false := by simp
  have b1 : (w.alloc (.cells #[.string ⟨#[]⟩, .slice none 0 0, .slice none 0 0, .int .i64 0, .int .i64 0, .int .i64 0, .int .i64 0] 76)).cell? ⟨w.heap.size, 1, none⟩ = some (.slice none 0 0) := by simp
  have f1 : (w.alloc (.cells #[.string ⟨#[]⟩, .slice none 0 0, .slice none 0 0, .int .i64 0, .int .i64 0, .int .i64 0, .int .i64 0] 76)).frozen? ⟨w.heap.size, 1, none⟩ = false := by simp
  have b2 : (w.alloc (.cells #[.string ⟨#[]⟩, .slice none 0 0, .slice none 0 0, .int .i64 0, .int .i64 0, .int .i64 0, .int .i64 0] 76)).cell? ⟨w.heap.size, 2, none⟩ = some (.slice none 0 0) := by simp
  have f2 : (w.alloc (.cells #[.string ⟨#[]⟩, .slice none 0 0, .slice none 0 0, .int .i64 0, .int .i64 0, .int .i64 0, .int .i64 0] 76)).frozen? ⟨w.heap.size, 2, none⟩ = false := by simp
  have b3 : (w.alloc (.cells #[.string ⟨#[]⟩, .slice none 0 0, .slice none 0 0, .int .i64 0, .int .i64 0, .int .i64 0, .int .i64 0] 76)).cell? ⟨w.heap.size, 3, none⟩ = some (.int .i64 0) := by simp
  have f3 : (w.alloc (.cells #[.string ⟨#[]⟩, .slice none 0 0, .slice none 0 0, .int .i64 0, .int .i64 0, .int .i64 0, .int .i64 0] 76)).frozen? ⟨w.heap.size, 3, none⟩ = false := by simp
  have b4 : (w.alloc (.cells #[.string ⟨#[]⟩, .slice none 0 0, .slice none 0 0, .int .i64 0, .int .i64 0, .int .i64 0, .int .i64 0] 76)).cell? ⟨w.heap.size, 4, none⟩ = some (.int .i64 0) := by simp
  have f4 : (w.alloc (.cells #[.string ⟨#[]⟩, .slice none 0 0, .slice none 0 0, .int .i64 0, .int .i64 0, .int .i64 0, .int .i64 0] 76)).frozen? ⟨w.heap.size, 4, none⟩ = false := by simp
  have b5 : (w.alloc (.cells #[.string ⟨#[]⟩, .slice none 0 0, .slice none 0 0, .int .i64 0, .int .i64 0, .int .i64 0, .int .i64 0] 76)).cell? ⟨w.heap.size, 5, none⟩ = some (.int .i64 0) := by simp
  have f5 : (w.alloc (.cells #[.string ⟨#[]⟩, .slice none 0 0, .slice none 0 0, .int .i64 0, .int .i64 0, .int .i64 0, .int .i64 0] 76)).frozen? ⟨w.heap.size, 5, none⟩ = false := by simp
  have b6 : (w.alloc (.cells #[.string ⟨#[]⟩, .slice none 0 0, .slice none 0 0, .int .i64 0, .int .i64 0, .int .i64 0, .int .i64 0] 76)).cell? ⟨w.heap.size, 6, none⟩ = some (.int .i64 0) := by simp
  have f6 : (w.alloc (.cells #[.string ⟨#[]⟩, .slice none 0 0, .slice none 0 0, .int .i64 0, .int .i64 0, .int .i64 0, .int .i64 0] 76)).frozen? ⟨w.heap.size, 6, none⟩ = false := by simp
  have Hat := Lib.hid (show ∀ k z, l[k]? = some z → (∀ y ∈ l.take k, eqS y.name nm = false) → eqS z.name nm = true → findZ l nm = some z from fun k z => findZ_at)
  have Hno := Lib.hid (@findZ_none l nm)
  unfold FindR
  generalize findZ l nm = r at *
  go_enter Tryz.func39, Tryz.ntmps39
  go_wp2
  generalize w.alloc (.cells #[.string ⟨#[]⟩, .slice none 0 0, .slice none 0 0, .int .i64 0, .int .i64 0, .int .i64 0, .int .i64 0] 76) = w1 at *
  go_loopw [10] (fun i wr => ∃ k : Nat, k ≤ l.length ∧ i = .int .i64 k ∧ Hid (∀ y ∈ l.take k, eqS y.name nm = false) ∧ Below w1.heap.size w1 wr) (fun i _ => l.length - (RowKit.intOf i).toNat)
  case atStart => exact ⟨0, Nat.zero_le _, rfl, (by unfold Hid; simp), Below.refl _ _⟩
  case round =>
    obtain ⟨k, hk, rfl, HN, hbr⟩ := hrel
    have bel := hb0.st hbr
    by_cases hi : k < l.length
    · obtain ⟨b, off, z, rfl, hb, hx, d0, d1, d2, d3, d4, d5, d6⟩ := (h.keep bel).z hi
      have hzk := hz z (List.mem_of_getElem? hx)
      have hsz := hsm z (List.mem_of_getElem? hx)
      have hbr2 := hbr.al (.cells #[.string z.name, .slice z.hA z.hs.length z.hc, .slice z.sA z.ss.length z.sc, .int .i64 z.grace, .int .i64 z.free, .int .i64 z.dayMax, .int .i64 z.maxStay] 76)
      have C := Lib.hid (copied_any z (hzk.st (hb0.st hbr2)) hsz)
      cases he : eqS z.name nm
      · have R := Lib.hid (all_succ' hx HN.out he)
        have he2 : (z.name.toList == nm.toList) = false := he
        clear hx he b0 b1 b2 b3 b4 b5 b6 f0 f1 f2 f3 f4 f5 f6 h hz hsm
        go_wp2_with fail
        go_roundw
        case rel => exact ⟨k + 1, by omega, by go_num, R, hbr2⟩
        case measure => simp [RowKit.intOf]; omega
      · have R := Lib.hid (Hat.out k z hx HN.out he)
        have he2 : (z.name.toList == nm.toList) = true := he
        clear hx he h hz hsm
        go_wp2_with fail
        refine C.out.mono ?_
        rintro e w2 ⟨z', rfl, hzc, hok, hb2⟩
        have hb3 := hbr2.st hb2
        have c0 := (hb3.cell (p := ⟨w.heap.size, 0, none⟩) hz0).trans b0
        have c1 := (hb3.cell (p := ⟨w.heap.size, 1, none⟩) hz0).trans b1
        have c2 := (hb3.cell (p := ⟨w.heap.size, 2, none⟩) hz0).trans b2
        have c3 := (hb3.cell (p := ⟨w.heap.size, 3, none⟩) hz0).trans b3
        have c4 := (hb3.cell (p := ⟨w.heap.size, 4, none⟩) hz0).trans b4
        have c5 := (hb3.cell (p := ⟨w.heap.size, 5, none⟩) hz0).trans b5
        have c6 := (hb3.cell (p := ⟨w.heap.size, 6, none⟩) hz0).trans b6
        have g0 := (hb3.frozen (p := ⟨w.heap.size, 0, none⟩) hz0).trans f0
        have g1 := (hb3.frozen (p := ⟨w.heap.size, 1, none⟩) hz0).trans f1
        have g2 := (hb3.frozen (p := ⟨w.heap.size, 2, none⟩) hz0).trans f2
        have g3 := (hb3.frozen (p := ⟨w.heap.size, 3, none⟩) hz0).trans f3
        have g4 := (hb3.frozen (p := ⟨w.heap.size, 4, none⟩) hz0).trans f4
        have g5 := (hb3.frozen (p := ⟨w.heap.size, 5, none⟩) hz0).trans f5
        have g6 := (hb3.frozen (p := ⟨w.heap.size, 6, none⟩) hz0).trans f6
        have Hc := Lib.hid hzc
        have Hok := Lib.hid hok
        clear hzc hok b0 b1 b2 b3 b4 b5 b6 f0 f1 f2 f3 f4 f5 f6
        go_wp2_with fail
        refine bodyPost_ret (v := .tuple #[ZV z', .bool true]) (by simp [results, Tryz.results39, go_sem, c0, c1, c2, c3, c4, c5, c6]) rfl ?_
        refine ⟨z', by rw [R.out]; rfl, by rw [R.out]; exact Hc.out, ?_, ?_⟩
        · refine ZOwn.ok (base := w.heap.size + 1) ?_
          repeat refine ZOwn.other ?_ (by simp) _
          exact Hok.out.mono (by have := hbr2.size; omega)
        · repeat refine Below.setCell ?_ (by simp) _
          exact hb0.st hb3
    · obtain rfl : k = l.length := by omega
      have R := Lib.hid (Hno.out HN.out)
      have c0 := (hbr.cell (p := ⟨w.heap.size, 0, none⟩) hz0).trans b0
      have c1 := (hbr.cell (p := ⟨w.heap.size, 1, none⟩) hz0).trans b1
      have c2 := (hbr.cell (p := ⟨w.heap.size, 2, none⟩) hz0).trans b2
      have c3 := (hbr.cell (p := ⟨w.heap.size, 3, none⟩) hz0).trans b3
      have c4 := (hbr.cell (p := ⟨w.heap.size, 4, none⟩) hz0).trans b4
      have c5 := (hbr.cell (p := ⟨w.heap.size, 5, none⟩) hz0).trans b5
      have c6 := (hbr.cell (p := ⟨w.heap.size, 6, none⟩) hz0).trans b6
      have g0 := (hbr.frozen (p := ⟨w.heap.size, 0, none⟩) hz0).trans f0
      have g1 := (hbr.frozen (p := ⟨w.heap.size, 1, none⟩) hz0).trans f1
      have g2 := (hbr.frozen (p := ⟨w.heap.size, 2, none⟩) hz0).trans f2
      have g3 := (hbr.frozen (p := ⟨w.heap.size, 3, none⟩) hz0).trans f3
      have g4 := (hbr.frozen (p := ⟨w.heap.size, 4, none⟩) hz0).trans f4
      have g5 := (hbr.frozen (p := ⟨w.heap.size, 5, none⟩) hz0).trans f5
      have g6 := (hbr.frozen (p := ⟨w.heap.size, 6, none⟩) hz0).trans f6
      clear b0 b1 b2 b3 b4 b5 b6 f0 f1 f2 f3 f4 f5 f6
      go_wp2_with fail
      refine bodyPost_ret (v := .tuple #[ZV zeroZ, .bool false]) (by simp [zeroZ, results, Tryz.results39, go_sem, c0, c1, c2, c3, c4, c5, c6]) rfl ?_
      refine ⟨zeroZ, by rw [R.out]; rfl, by rw [R.out]; rfl, ⟨Rd.nil, Rd.nil⟩, ?_⟩
      repeat refine Below.setCell ?_ (by simp) _
      exact bel
end Go.Proofs.YtcpfiiapfggmpaaGreat
