/- span.join at one and two lists, walked. -/
import Derived.Test.YtbeoopofckbijaaJoin
namespace Go.Proofs.Ytbeoopofckbijaa
open Go.RowKit Go.Lib

/-- what is handed back: a new slice that reads as the normal form of the set S -/
def NFr (S : Int → Prop) (w w' : World) (e : Ending) : Prop :=
  ∃ A c n, e = .returned (.slice A n.length c) ∧ NF n ∧ (∀ t, Mem n t ↔ S t) ∧ Own 26 encIv 2 w' w.heap.size A c n ∧ Below w.heap.size w w'

theorem join1 {A : Option Addr} (c : Nat) {l : List Iv} {w : World} (h : Rd encIv 2 w w.heap.size A l) (hl : l.length ≤ 100000000000) :
    Calls Try.prog 35 #[.slice (some ⟨w.heap.size, 0, none⟩) 1 1] (w.alloc (.cells #[.slice A l.length c] 33)) fun e w' => NFr (Mem l) w w' e := by
  have hz : w.heap.size < (w.alloc (.cells #[.slice A l.length c] 33)).heap.size := by simp
  have hS : Rd encS 1 (w.alloc (.cells #[.slice A l.length c] 33)) (w.alloc (.cells #[.slice A l.length c] 33)).heap.size (some ⟨w.heap.size, 0, none⟩) [((A, c, l) : Sl)] := by
    intro _
    refine ⟨_, _, rfl, hz, fun i x hi j u hu => ?_⟩
    match i, j with
    | 0, 0 => simp at hi; subst hi; simp [encS] at hu; subst hu; simp
    | i + 1, _ => simp at hi
    | 0, j + 1 => simp [encS] at hu
  refine (join_any (some ⟨w.heap.size, 0, none⟩) 1 [((A, c, l) : Sl)] (w.alloc (.cells #[.slice A l.length c] 33)) hS ?_ (by simp [tot]; omega) (by simp)).mono ?_
  · intro s hs
    simp at hs
    subst hs
    exact (h.keepW fun p hp => World.cell?_alloc_lt w _ p hp).more (Nat.le_of_lt hz)
  · rintro e w' ⟨A', c', n, rfl, h1, h2, _, h3, h4⟩
    exact ⟨A', c', n, rfl, h1, fun t => by rw [h2]; simp, h3.mono (Nat.le_of_lt hz), ((Below.refl _ w).alloc (Nat.le_refl _) _).trans (h4.mono (Nat.le_of_lt hz))⟩
theorem join2 {A B : Option Addr} (c d : Nat) {a b : List Iv} {w : World} (ha : Rd encIv 2 w w.heap.size A a) (hb : Rd encIv 2 w w.heap.size B b) (hla : a.length ≤ 100000000000) (hlb : b.length ≤ 100000000000) :
    Calls Try.prog 35 #[.slice (some ⟨w.heap.size, 0, none⟩) 2 2] (w.alloc (.cells #[.slice A a.length c, .slice B b.length d] 33)) fun e w' => NFr (fun t => Mem a t ∨ Mem b t) w w' e := by
  have hz : w.heap.size < (w.alloc (.cells #[.slice A a.length c, .slice B b.length d] 33)).heap.size := by simp
  have hS : Rd encS 1 (w.alloc (.cells #[.slice A a.length c, .slice B b.length d] 33)) (w.alloc (.cells #[.slice A a.length c, .slice B b.length d] 33)).heap.size (some ⟨w.heap.size, 0, none⟩) [((A, c, a) : Sl), ((B, d, b) : Sl)] := by
    intro _
    refine ⟨_, _, rfl, hz, fun i x hi j u hu => ?_⟩
    match i, j with
    | 0, 0 => simp at hi; subst hi; simp [encS] at hu; subst hu; simp
    | 1, 0 => simp at hi; subst hi; simp [encS] at hu; subst hu; simp
    | i + 2, _ => simp at hi
    | 0, j + 1 => simp [encS] at hu
    | 1, j + 1 => simp [encS] at hu
  refine (join_any (some ⟨w.heap.size, 0, none⟩) 2 [((A, c, a) : Sl), ((B, d, b) : Sl)] (w.alloc (.cells #[.slice A a.length c, .slice B b.length d] 33)) hS ?_ (by simp [tot]; omega) (by simp)).mono ?_
  · intro s hs
    simp at hs
    rcases hs with rfl | rfl
    · exact (ha.keepW fun p hp => World.cell?_alloc_lt w _ p hp).more (Nat.le_of_lt hz)
    · exact (hb.keepW fun p hp => World.cell?_alloc_lt w _ p hp).more (Nat.le_of_lt hz)
  · rintro e w' ⟨A', c', n, rfl, h1, h2, _, h3, h4⟩
    exact ⟨A', c', n, rfl, h1, fun t => by rw [h2]; simp, h3.mono (Nat.le_of_lt hz), ((Below.refl _ w).alloc (Nat.le_refl _) _).trans (h4.mono (Nat.le_of_lt hz))⟩

end Go.Proofs.Ytbeoopofckbijaa
