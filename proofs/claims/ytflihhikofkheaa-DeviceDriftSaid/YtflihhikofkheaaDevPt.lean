/- Points and networks as values. -/
import Derived.Test.YtflihhikofkheaaDevEnc
import Derived.Test.YtflihhikofkheaaStrEq
import Derived.Test.YtflihhikofkheaaIdx
import Derived.Test.YtflihhikofkheaaShelf
namespace Go.Proofs.Ytflihhikofkheaa
open Go.RowKit Go.Lib Go.Shelf

structure Pt where
  name : ByteArray
  kind : Int
  sys : ByteArray
instance : Inhabited Pt := ⟨⟨⟨#[]⟩, 0, ⟨#[]⟩⟩⟩
def encPt (d : Pt) : List Value := [.string d.name, .int .i64 d.kind, .string d.sys]
theorem encPt_ok : Enc encPt 3 := ⟨fun _ => rfl, fun x u hu => by simp [encPt] at hu; rcases hu with rfl | rfl | rfl <;> rfl⟩
def PV (d : Pt) : Value := .agg #[.string d.name, .int .i64 d.kind, .string d.sys]
theorem tyPt : TyS Try.prog 23 59 3 40 := TyS.mk' (z := .agg #[.string ⟨#[]⟩, .int .i64 0, .string ⟨#[]⟩]) Try.underlying23 (by kernel_rfl) rfl (by omega)
theorem Rd.pt {w : World} {B : Nat} {A : Option Addr} {l : List Pt} (h : Rd encPt 3 w B A l) {i : Nat} (hi : i < l.length) :
    ∃ b off d, A = some ⟨b, off, none⟩ ∧ b < B ∧ l[i]? = some d ∧ w.cell? ⟨b, off + i * 3, none⟩ = some (.string d.name) ∧ w.cell? ⟨b, off + i * 3 + 1, none⟩ = some (.int .i64 d.kind) ∧ w.cell? ⟨b, off + i * 3 + 2, none⟩ = some (.string d.sys) := by
  obtain ⟨b, off, d, hA, hb, hx, hc⟩ := h.at_ hi
  exact ⟨b, off, d, hA, hb, hx, hc 0 _ rfl, hc 1 _ rfl, hc 2 _ rfl⟩
/-- a network: its points are read, its links never -/
structure Nw where
  pA : Option Addr
  pc : Nat
  ps : List Pt
  lA : Option Addr
  ln : Nat
  lc : Nat
def NV (n : Nw) : Value := .agg #[.slice n.pA n.ps.length n.pc, .slice n.lA n.ln n.lc]
def NwOk (w : World) (n : Nw) : Prop := Rd encPt 3 w w.heap.size n.pA n.ps
theorem NwOk.st {w w' : World} {n : Nw} (h : NwOk w n) (hb : Below w.heap.size w w') : NwOk w' n := Rd.st h hb
def zeroPt : Pt := ⟨⟨#[]⟩, 0, ⟨#[]⟩⟩
def hasPt (l : List Pt) (nm : ByteArray) : Bool := l.any fun p => eqS p.name nm

set_option maxHeartbeats 2000000 in
theorem index_D (p : Dv → Bool) (g : Nat) (lb : Array Value) (eg : ∀ args w, (callFunc g args).run Try.prog w = .ok (.enter g args) w) {A : Option Addr} (c : Nat) {l : List Dv} {w : World}
    (hp : ∀ (W : World) (x : Dv), Below w.heap.size w W → Calls Try.prog g (#[.agg (encD x).toArray] ++ lb) W fun e w' => e = .returned (.bool (p x)) ∧ Below W.heap.size W w')
    (h : Rd encD 6 w w.heap.size A l) (hl : l.length ≤ 100000000000) :
    Calls Try.prog 51 #[.slice A l.length c, .func (.func g) #[] lb] w fun e w' => (∃ i, e = .returned (.int .i64 i) ∧ IdxR p l i) ∧ Below w.heap.size w w' := by
  by_cases hne : l = []
  · subst hne
    clear h hp eg
    go_enter Try.func51, Try.ntmps51
    go_wp2_with go_in
    refine wp_loop_rounds 1 ?_
    rw [rounds_succ]
    go_wp2
    go_ret
    exact ⟨⟨_, rfl, .inl ⟨rfl, by simp⟩⟩, Below.refl _ _⟩
  · obtain ⟨b, off, rfl, hb, hc⟩ := h hne
    have hcon := AnyQ.slices_IndexFunc Try.lay_indexf_f51 6 Try.isAgg36 Try.sizeOf36 encD encD_ok.1 p g lb eg b off l.length c l w (fun W x hW => (hp W x hW).mono fun e w' ⟨h1, h2⟩ => ⟨h1, hW.st h2⟩) (Nat.le_refl _) (by omega) hb
      (fun j hj i v hi => hc j l[j]! (by rw [getElem!_pos l j hj]; exact List.getElem?_eq_getElem hj) i v hi)
    rw [List.take_length] at hcon
    exact hcon.mono fun e w' ⟨h1, h2⟩ => ⟨⟨_, h1, idxR_of p default l⟩, h2⟩
set_option maxHeartbeats 2000000 in
theorem index_Pt (p : Pt → Bool) (g : Nat) (lb : Array Value) (eg : ∀ args w, (callFunc g args).run Try.prog w = .ok (.enter g args) w) {A : Option Addr} (c : Nat) {l : List Pt} {w : World}
    (hp : ∀ (W : World) (x : Pt), Below w.heap.size w W → Calls Try.prog g (#[.agg (encPt x).toArray] ++ lb) W fun e w' => e = .returned (.bool (p x)) ∧ Below W.heap.size W w')
    (h : Rd encPt 3 w w.heap.size A l) (hl : l.length ≤ 100000000000) :
    Calls Try.prog 45 #[.slice A l.length c, .func (.func g) #[] lb] w fun e w' => (∃ i, e = .returned (.int .i64 i) ∧ IdxR p l i) ∧ Below w.heap.size w w' := by
  by_cases hne : l = []
  · subst hne
    clear h hp eg
    go_enter Try.func45, Try.ntmps45
    go_wp2_with go_in
    refine wp_loop_rounds 1 ?_
    rw [rounds_succ]
    go_wp2
    go_ret
    exact ⟨⟨_, rfl, .inl ⟨rfl, by simp⟩⟩, Below.refl _ _⟩
  · obtain ⟨b, off, rfl, hb, hc⟩ := h hne
    have hcon := AnyQ.slices_IndexFunc Try.lay_indexf_f45 3 Try.isAgg59 Try.sizeOf59 encPt encPt_ok.1 p g lb eg b off l.length c l w (fun W x hW => (hp W x hW).mono fun e w' ⟨h1, h2⟩ => ⟨h1, hW.st h2⟩) (Nat.le_refl _) (by omega) hb
      (fun j hj i v hi => hc j l[j]! (by rw [getElem!_pos l j hj]; exact List.getElem?_eq_getElem hj) i v hi)
    rw [List.take_length] at hcon
    exact hcon.mono fun e w' ⟨h1, h2⟩ => ⟨⟨_, h1, idxR_of p default l⟩, h2⟩
end Go.Proofs.Ytflihhikofkheaa
