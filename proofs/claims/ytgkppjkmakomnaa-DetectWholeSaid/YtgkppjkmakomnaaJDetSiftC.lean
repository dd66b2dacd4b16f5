/- Joined texts: DetSiftC, Idx, DevIxD. -/
import Derived.Test.YtgkppjkmakomnaaDetSort
import Derived.Test.YtgkppjkmakomnaaDetMap
import Derived.Test.YtgkppjkmakomnaaDetSiftM
import Derived.Test.YtgkppjkmakomnaaDetSame
import Derived.Test.YtgkppjkmakomnaaJDetCmp
import Derived.Lib.SlBy
import Derived.Test.YtgkppjkmakomnaaJFirst
import Derived.Test.YtgkppjkmakomnaaJDevEnc
import Derived.Test.YtgkppjkmakomnaaJStabList
import Derived.Test.YtgkppjkmakomnaaShelf
/- detect.Sift: the counting loop, in plain words and walked. -/
set_option linter.unusedSimpArgs false
namespace Go.Proofs.Ytgkppjkmakomnaa
open Go.RowKit Go.Lib

def srcOf (d : Dt) : Src := (d.dev, d.seq)
def isSrc (s : Src) (d : Dt) : Bool := eqS d.dev s.1 && d.seq == s.2
theorem isSrc_iff (s : Src) (d : Dt) : isSrc s d = true ↔ srcOf d = s := by
  unfold isSrc srcOf
  rw [Bool.and_eq_true, eqS_iff, beq_iff_eq]
  constructor
  · rintro ⟨h1, h2⟩; exact Prod.ext h1 h2
  · rintro rfl; exact ⟨rfl, rfl⟩
/-- how many detections have a source -/
def cntS (l : List Dt) (s : Src) : Int := ((l.countP (isSrc s) : Nat) : Int)
theorem cntS_nil (s : Src) : cntS [] s = 0 := rfl
theorem cntS_same {l : List Dt} {k : Nat} {d : Dt} (h : l[k]? = some d) : cntS (l.take (k + 1)) (srcOf d) = cntS (l.take k) (srcOf d) + 1 := by
  unfold cntS
  rw [take_snoc h, List.countP_append, List.countP_singleton, if_pos ((isSrc_iff _ _).2 rfl)]
  omega
theorem cntS_other {l : List Dt} {k : Nat} {d : Dt} (h : l[k]? = some d) (s : Src) (hs : s ≠ srcOf d) : cntS (l.take (k + 1)) s = cntS (l.take k) s := by
  unfold cntS
  rw [take_snoc h, List.countP_append, List.countP_singleton, if_neg (fun q => hs ((isSrc_iff _ _).1 q).symm)]
  omega
theorem cntS_le (l : List Dt) (k : Nat) (s : Src) : 0 ≤ cntS (l.take k) s ∧ cntS (l.take k) s ≤ (k : Int) := by
  unfold cntS
  have h1 := List.countP_le_length (p := isSrc s) (l := l.take k)
  rw [List.length_take] at h1
  omega
theorem cntS_conf {l ds : List Dt} (hm : ∀ d, d ∈ l ↔ d ∈ ds) (ha : AscC cmpDt l) {d : Dt} (hd : d ∈ l) : (decide (1 < cntS l (srcOf d))) = conB ds d := by
  have hnd : l.Pairwise (fun a b => a ≠ b) := ha.imp fun {a b} h e => by subst e; have := cmpDt_zero.2 (rfl : a = a); omega
  rw [Bool.eq_iff_iff, decide_eq_true_eq, conB_iff]
  unfold cntS
  rw [List.countP_eq_length_filter]
  have hf : (l.filter (isSrc (srcOf d))).Pairwise (fun a b => a ≠ b) := hnd.filter _
  have hdf : d ∈ l.filter (isSrc (srcOf d)) := List.mem_filter.2 ⟨hd, (isSrc_iff _ _).2 rfl⟩
  have hmf : ∀ e, e ∈ l.filter (isSrc (srcOf d)) ↔ e ∈ ds ∧ e.dev = d.dev ∧ e.seq = d.seq := fun e => by
    rw [List.mem_filter, isSrc_iff, hm]
    exact and_congr_right fun _ => ⟨fun h => ⟨congrArg Prod.fst h, congrArg Prod.snd h⟩, fun h => Prod.ext h.1 h.2⟩
  generalize l.filter (isSrc (srcOf d)) = f at *
  match f, hf, hdf, hmf with
  | [], _, hdf, _ => simp at hdf
  | [x], _, hdf, hmf =>
    constructor
    · intro h; simp at h
    · rintro ⟨e, he, h1, h2, h3⟩
      have := (hmf e).2 ⟨he, h1, h2⟩
      rw [List.mem_singleton] at this hdf
      exact absurd (this.trans hdf.symm) h3
  | x :: y :: r, hf, hdf, hmf =>
    constructor
    · intro _
      have hxy : x ≠ y := (List.pairwise_cons.1 hf).1 y (by simp)
      by_cases e : x = d
      · have := (hmf y).1 (by simp)
        exact ⟨y, this.1, this.2.1, this.2.2, fun h => hxy (e.trans h.symm)⟩
      · have := (hmf x).1 (by simp)
        exact ⟨x, this.1, this.2.1, this.2.2, e⟩
    · intro _; simp only [List.length_cons]; omega
end Go.Proofs.Ytgkppjkmakomnaa
/- slices.IndexFunc's answer, in plain words. No program in sight. -/
namespace Go.Proofs.Ytgkppjkmakomnaa

/-- i is the first index at which p holds, or -1 -/
def IdxR {α : Type} (p : α → Bool) (l : List α) (i : Int) : Prop :=
  (i = -1 ∧ ∀ y ∈ l, p y = false) ∨ ∃ (k : Nat) (x : α), l[k]? = some x ∧ i = (k : Int) ∧ p x = true ∧ ∀ y ∈ l.take k, p y = false
theorem idxR_from {α : Type} (p : α → Bool) (d : α) : ∀ (l : List α) (i : Nat), (Lib.idxByFrom (fun _ y => p y) d l i = -1 ∧ ∀ y ∈ l, p y = false) ∨ ∃ (k : Nat) (x : α), l[k]? = some x ∧ Lib.idxByFrom (fun _ y => p y) d l i = ((i + k : Nat) : Int) ∧ p x = true ∧ ∀ y ∈ l.take k, p y = false
  | [], i => .inl ⟨rfl, by simp⟩
  | y :: l, i => by
    cases hy : p y
    · have e : Lib.idxByFrom (fun _ y => p y) d (y :: l) i = Lib.idxByFrom (fun _ y => p y) d l (i + 1) := by simp [Lib.idxByFrom, hy]
      rw [e]
      rcases idxR_from p d l (i + 1) with ⟨h1, h2⟩ | ⟨k, x, h1, h2, h3, h4⟩
      · exact .inl ⟨h1, fun z hz => by rcases List.mem_cons.1 hz with rfl | hz; (exact hy); (exact h2 z hz)⟩
      · refine .inr ⟨k + 1, x, h1, by rw [h2]; congr 1; omega, h3, fun z hz => ?_⟩
        rw [List.take_succ_cons, List.mem_cons] at hz
        rcases hz with rfl | hz
        · exact hy
        · exact h4 z hz
    · exact .inr ⟨0, y, rfl, by simp [Lib.idxByFrom, hy], hy, by simp⟩
theorem idxR_of {α : Type} (p : α → Bool) (d : α) (l : List α) : IdxR p l (Lib.idxBy (fun _ y => p y) l d) := by
  rcases idxR_from p d l 0 with h | ⟨k, x, h1, h2, h3, h4⟩
  · exact .inl h
  · exact .inr ⟨k, x, h1, by unfold Lib.idxBy; rw [h2]; congr 1; omega, h3, h4⟩
theorem IdxR.any_no {α : Type} {p : α → Bool} {l : List α} (h : ∀ y ∈ l, p y = false) : l.any p = false ∧ l.find? p = none :=
  ⟨by rw [List.any_eq_false]; intro y hy; rw [h y hy]; simp, by rw [List.find?_eq_none]; intro y hy; rw [h y hy]; simp⟩
theorem IdxR.any_at {α : Type} {p : α → Bool} {l : List α} {k : Nat} {x : α} (hx : l[k]? = some x) (hp : p x = true) (h : ∀ y ∈ l.take k, p y = false) : l.any p = true ∧ l.find? p = some x := by
  refine ⟨List.any_eq_true.2 ⟨x, List.mem_of_getElem? hx, hp⟩, ?_⟩
  obtain ⟨hk, rfl⟩ := List.getElem?_eq_some_iff.1 hx
  rw [List.find?_eq_some_iff_getElem]
  refine ⟨hp, k, hk, rfl, fun j hj => ?_⟩
  have := h l[j] (by rw [List.mem_take_iff_getElem]; exact ⟨j, by omega, rfl⟩)
  simp [this]
end Go.Proofs.Ytgkppjkmakomnaa
/- slices.IndexFunc at devices. -/
namespace Go.Proofs.Ytgkppjkmakomnaa
open Go.RowKit Go.Lib Go.Shelf

set_option maxHeartbeats 2000000 in
theorem index_D (p : Dv → Bool) (g : Nat) (lb : Array Value) (eg : ∀ args w, (callFunc g args).run Try.prog w = .ok (.enter g args) w) {A : Option Addr} (c : Nat) {l : List Dv} {w : World}
    (hp : ∀ (W : World) (x : Dv), Below w.heap.size w W → Calls Try.prog g (#[.agg (encD x).toArray] ++ lb) W fun e w' => e = .returned (.bool (p x)) ∧ Below W.heap.size W w')
    (h : Rd encD 6 w w.heap.size A l) (hl : l.length ≤ 100000000000) :
    Calls Try.prog 72 #[.slice A l.length c, .func (.func g) #[] lb] w fun e w' => (∃ i, e = .returned (.int .i64 i) ∧ IdxR p l i) ∧ Below w.heap.size w w' := by
  by_cases hne : l = []
  · subst hne
    clear h hp eg
    go_enter Try.func72, Try.ntmps72
    go_wp2_with go_in
    refine wp_loop_rounds 1 ?_
    rw [rounds_succ]
    go_wp2
    go_ret
    exact ⟨⟨_, rfl, .inl ⟨rfl, by simp⟩⟩, Below.refl _ _⟩
  · obtain ⟨b, off, rfl, hb, hc⟩ := h hne
    have hcon := AnyQ.slices_IndexFunc Try.lay_indexf_f72 6 Try.isAgg59 Try.sizeOf59 encD encD_ok.1 p g lb eg b off l.length c l w (fun W x hW => (hp W x hW).mono fun e w' ⟨h1, h2⟩ => ⟨h1, hW.st h2⟩) (Nat.le_refl _) (by omega) hb
      (fun j hj i v hi => hc j l[j]! (by rw [getElem!_pos l j hj]; exact List.getElem?_eq_getElem hj) i v hi)
    rw [List.take_length] at hcon
    exact hcon.mono fun e w' ⟨h1, h2⟩ => ⟨⟨_, h1, idxR_of p default l⟩, h2⟩
end Go.Proofs.Ytgkppjkmakomnaa
