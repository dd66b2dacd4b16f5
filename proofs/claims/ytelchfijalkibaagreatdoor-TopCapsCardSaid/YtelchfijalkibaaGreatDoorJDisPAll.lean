/- Joined texts: DisPAll, AppAt, SliceOp. -/
import Derived.Test.YtelchfijalkibaaGreatDoorJTarRRate
import Derived.Test.YtelchfijalkibaaGreatDoorJDisAll
import Derived.Test.YtelchfijalkibaaGreatDoorJRelMath
import Derived.Deep.RegionHeld3
import Derived.Deep.DrawnRows
import Derived.Test.YtelchfijalkibaaGreatDoorJFirst
import Derived.Maps.AppendAt
import Derived.Laws.Slices
/- Lists of discounts that are valid: the program's CheckAll accepts them; walked. -/
set_option linter.unusedSimpArgs false
namespace Go.Proofs.YtelchfijalkibaaGreatDoor
open Go.RowKit Go.Lib Go.Shelf

instance : Inhabited Dc := ⟨⟨⟨#[]⟩, 0, 0, ⟨#[]⟩, ⟨#[]⟩, 0, 0, 0, 0, 0⟩⟩
theorem containsD_any (p : Dc → Bool) (g : Nat) (lb : Array Value) (eg : ∀ args w, (callFunc g args).run Tryz.prog w = .ok (.enter g args) w) {A : Option Addr} (c : Nat) {l : List Dc} {w : World}
    (hp : ∀ (W : World) (x : Dc), Below w.heap.size w W → Calls Tryz.prog g (#[.agg (encDc x).toArray] ++ lb) W fun e w' => e = .returned (.bool (p x)) ∧ Below w.heap.size w w')
    (h : Rd encDc 10 w w.heap.size A l) (hl : l.length ≤ 100000000000) :
    Calls Tryz.prog 97 #[.slice A l.length c, .func (.func g) #[] lb] w fun e w' => e = .returned (.bool (l.any p)) ∧ Below w.heap.size w w' := by
  by_cases hne : l = []
  · subst hne
    clear h hp eg
    go_enter Tryz.func97, Tryz.ntmps97
    go_wp2_with go_in
    refine wp_loop_rounds 1 ?_
    rw [rounds_succ]
    go_wp2
    go_ret
    exact ⟨rfl, Below.refl _ _⟩
  · obtain ⟨b, off, rfl, hb, hc⟩ := h hne
    have hcon := AnyQ.slices_ContainsFunc Tryz.lay_containsf_f97 10 Tryz.isAgg99 Tryz.sizeOf99 encDc encDc_ok.1 p g lb eg b off l.length c l w (fun W x hW => hp W x hW) (Nat.le_refl _) (by omega) hb
      (fun j hj i v hi => hc j l[j]! (by rw [getElem!_pos l j hj]; exact List.getElem?_eq_getElem hj) i v hi)
    rw [List.take_length] at hcon
    exact hcon

set_option maxRecDepth 100000 in
set_option maxHeartbeats 4000000 in
theorem sameClosure_any (x : Dc) (nm : ByteArray) (b : Nat) (W : World) (hb : b < W.heap.size) (hc : W.cell? ⟨b, 0, none⟩ = some (.string nm)) :
    Calls Tryz.prog 98 #[.agg (encDc x).toArray, .pointer (some ⟨b, 0, none⟩)] W fun e w' => e = .returned (.bool (eqS x.nm nm)) ∧ Below W.heap.size W w' := by
  have hbel := (Below.refl W.heap.size W).al (.cells #[.string x.nm, .int .i64 x.kd, .int .i64 x.am, .string x.gr, .string x.sy, .int .i64 x.cl, .int .i64 x.wd, .int .i64 x.wf, .int .i64 x.wt, .int .i64 x.le] 99)
  have hb3 : b ≠ W.heap.size := by omega
  show Calls Tryz.prog 98 #[.agg #[.string x.nm, .int .i64 x.kd, .int .i64 x.am, .string x.gr, .string x.sy, .int .i64 x.cl, .int .i64 x.wd, .int .i64 x.wf, .int .i64 x.wt, .int .i64 x.le], .pointer (some ⟨b, 0, none⟩)] W fun e w' => e = .returned (.bool (eqS x.nm nm)) ∧ Below W.heap.size W w'
  have t0 : (x.nm.toList == nm.toList) = eqS x.nm nm := rfl
  generalize eqS x.nm nm = r at *
  cases r
  all_goals
    go_enter Tryz.func98, Tryz.ntmps98
    go_wp2
    go_ret
    exact ⟨rfl, hbel⟩
set_option maxRecDepth 100000 in
set_option maxHeartbeats 16000000 in
theorem pall_any {A : Option Addr} (c : Nat) {l : List Dc} {w : World} (hok : LOk l) (hlc : l.length ≤ c) (hr : Rd encDc 10 w w.heap.size A l) :
    Calls Tryz.prog 83 #[.slice A l.length c] w fun e w' => e = .returned (.int .i64 0) ∧ Below w.heap.size w w' := by
  have HR := Lib.hid hr
  have HO := Lib.hid hok
  have HC := Lib.hid hlc
  clear hlc
  have eg := Lib.hid (enters_of Tryz.func98 (by kernel_rfl) rfl)
  have q2 : ¬ (12 : Int) < (l.length : Int) := by have := hok.few; omega
  clear hr hok
  go_enter Tryz.func83, Tryz.ntmps83
  go_wp2_with fail
  go_loopw [11] (fun j wr => ∃ k : Nat, k ≤ l.length ∧ j = .int .i64 k ∧ Below w.heap.size w wr) (fun j _ => l.length - (RowKit.intOf j).toNat)
  case atStart => exact ⟨0, Nat.zero_le _, rfl, Below.refl _ _⟩
  case round =>
    obtain ⟨k, hk, rfl, bW⟩ := hrel
    have k1 : (0 : Int) ≤ (k : Int) := by omega
    by_cases hi : k < l.length
    · have k2 : (k : Int) < (l.length : Int) := by omega
      obtain ⟨b, off, x, rfl, hb, hx, hc⟩ := (HR.out.st bW).at_ hi
      have HX := Lib.hid hx
      have d0 := hc 0 _ rfl
      have d1 := hc 1 _ rfl
      have d2 := hc 2 _ rfl
      have d3 := hc 3 _ rfl
      have d4 := hc 4 _ rfl
      have d5 := hc 5 _ rfl
      have d6 := hc 6 _ rfl
      have d7 := hc 7 _ rfl
      have d8 := hc 8 _ rfl
      have d9 := hc 9 _ rfl
      simp only [Nat.add_zero] at d0
      have CX := Lib.hid (fun (X : World) => pcheck_any (HO.out.all.ok k x hi hx) X)
      have HI := Lib.hid hi
      clear hx hi hc hb
      obtain ⟨Y, hY⟩ : ∃ Y, wr.alloc (.cells #[.string x.nm, .int .i64 x.kd, .int .i64 x.am, .string x.gr, .string x.sy, .int .i64 x.cl, .int .i64 x.wd, .int .i64 x.wf, .int .i64 x.wt, .int .i64 x.le] 99) = Y := ⟨_, rfl⟩
      have bY : Below wr.heap.size wr Y := by rw [← hY]; exact (Below.refl _ wr).al _
      have B1 : Blk Y wr.heap.size #[.string x.nm, .int .i64 x.kd, .int .i64 x.am, .string x.gr, .string x.sy, .int .i64 x.cl, .int .i64 x.wd, .int .i64 x.wf, .int .i64 x.wt, .int .i64 x.le] 99 := by rw [← hY]; exact Blk.new wr _ _
      have z0 := B1.cell 0 (v := .string x.nm) rfl
      have z1 := B1.cell 1 (v := .int .i64 x.kd) rfl
      have z2 := B1.cell 2 (v := .int .i64 x.am) rfl
      have z3 := B1.cell 3 (v := .string x.gr) rfl
      have z4 := B1.cell 4 (v := .string x.sy) rfl
      have z5 := B1.cell 5 (v := .int .i64 x.cl) rfl
      have z6 := B1.cell 6 (v := .int .i64 x.wd) rfl
      have z7 := B1.cell 7 (v := .int .i64 x.wf) rfl
      have z8 := B1.cell 8 (v := .int .i64 x.wt) rfl
      have z9 := B1.cell 9 (v := .int .i64 x.le) rfl
      go_wp2_with fail
      refine (CX.out _).mono ?_
      rintro e W3 ⟨rfl, hbn⟩
      have bY := bY.st hbn
      have B1 := B1.below hbn B1.lt
      have bW := bW.st bY
      clear hbn z0 z1 z2 z3 z4 z5 z6 z7 z8 z9 d0 d1 d2 d3 d4 d5 d6 d7 d8 d9 CX hY
      have z0 := B1.cell 0 (v := .string x.nm) rfl
      have hkl : l.length.min k = k := Nat.min_eq_right (Nat.le_of_lt HI.out)
      have hl2 : (l.take k).length = k := by rw [List.length_take]; exact Nat.min_eq_left (Nat.le_of_lt HI.out)
      have hno : (l.take k).any (fun y => eqS y.nm x.nm) = false := by
        rw [List.any_eq_false]
        intro y hy
        obtain ⟨j, hj, rfl⟩ := List.mem_iff_getElem.1 hy
        rw [List.getElem_take]
        have hjk : j < k := by rw [hl2] at hj; exact hj
        have h := HO.out.all.nd k j x l[j] hjk HI.out HX.out (List.getElem?_eq_getElem _)
        simp [h]
      have CA := Lib.hid (containsD_any (fun y => eqS y.nm x.nm) 98 #[.pointer (some ⟨wr.heap.size, 0, none⟩)] eg.out c (w := W3) (fun W y hW => (sameClosure_any y x.nm wr.heap.size W (Nat.lt_of_lt_of_le B1.lt hW.size) ((hW.cell (p := ⟨wr.heap.size, 0, none⟩) B1.lt).trans z0)).mono fun e w' ⟨he, hw'⟩ => ⟨he, hW.trans (hw'.mono hW.size)⟩) ((HR.out.st bW).take k) (by rw [hl2]; have := HO.out.few; have := HI.out; omega))
      rw [hl2, hno] at CA
      have HW := Lib.hid bW
      have kc : k ≤ c := by have := HI.out; have := HC.out; omega
      clear hno hl2 hkl z0 bY bW
      go_wp2_with fail
      refine CA.out.mono ?_
      rintro e W4 ⟨rfl, hbn⟩
      have bW4 := HW.out.st hbn
      clear hbn CA
      go_wp2_with fail
      go_roundw
      case rel => exact ⟨k + 1, HI.out, by go_num, bW4⟩
      case measure => have := HI.out; simp [RowKit.intOf]; omega
    · obtain rfl : k = l.length := by omega
      go_wp2_with fail
      go_ret
      exact ⟨rfl, bW⟩
end Go.Proofs.YtelchfijalkibaaGreatDoor
/- append of one element to a slice of the call's own, with where the new slice lies. -/
namespace Go.Proofs.YtelchfijalkibaaGreatDoor
open Go.RowKit Go.Lib
section
variable {α : Type} {enc : α → List Value} {k : Nat} {A : Option Addr} {c : Nat} {l : List α} {P : Program} {t e bytes : Nat}
theorem wpList_app1a {w0 : World} {ops : Array Oper} {rest : List Oper} {o : Oper} {a : Act} {Q : Exit → Act → World → Prop} (hgd : o.guard = none) (s y : Operand)
    (T : TyS P t e k bytes) (hE : Enc enc k)
    (ho : o.op = .call { callee := .builtin .append, args := #[s, y], argTypes := #[t, t] })
    {cs : Array Value} (x : α) (hcs : cs.toList = enc x)
    (base : Nat) {n : Nat} (hs : a.eval s = .slice A n c) (hn : n = l.length) (hown : Own e enc k w0 base A c l)
    {g0 : Nat} (hx : a.eval y = .slice (some ⟨g0, 0, none⟩) 1 1) (hg0 : w0.heap.size = g0)
    (hbytes : (l.length + 1) * bytes ≤ 140737488355328) (hmax : l.length ≤ 8000000000000000000) (hbase : base ≤ w0.heap.size)
    (h : ∀ A' c' w', Own e enc k w' base A' c' (l ++ [x]) → Below base w0 w' → w0.heap.size < w'.heap.size → (∀ b, b < w0.heap.size → (∀ g, A = some ⟨g, 0, none⟩ → b ≠ g) → w'.heap[b]? = w0.heap[b]?) →
      (∀ g, A' = some ⟨g, 0, none⟩ → A = some ⟨g, 0, none⟩ ∨ w0.heap.size ≤ g) → wpList P ops Q rest (a.put o.dst (.slice A' (n + 1) c')) w') : wpList P ops Q (o :: rest) a (w0.alloc (.cells cs e)) := by
  subst hn
  subst hg0
  obtain ⟨i, z, hi, hz, hsz, hby, hzs⟩ := T.info
  refine wpList_append_own_at (w0.alloc (.cells cs e)) hgd s y t ho base e i z k bytes T.under hi hz hsz hby hzs T.pos (.slice A l.length c) l.length (l.flatMap enc) hs (hown.alloc _) ⟨w0.heap.size, 0, none⟩ 1 1 ([x].flatMap enc) hx (by rw [flat_length hE]; rfl) ?_ ?_ (by unfold maxLen; omega) hbytes (by simp; omega) ?_
  · intro j u hu
    have hadd : (⟨w0.heap.size, 0, none⟩ : Addr).add j = ⟨w0.heap.size, j, none⟩ := by unfold Addr.add; split <;> simp_all
    rw [hadd, cell_of_row _ _ _ cs e (0, 0) (heap_alloc_new w0 _)]
    simp only [List.flatMap_cons, List.flatMap_nil, List.append_nil] at hu
    rw [← hcs] at hu
    simpa using hu
  · intro u hu
    rw [List.mem_flatMap] at hu
    obtain ⟨y, _, hy⟩ := hu
    exact hE.2 y u hy
  · intro v' w' hown' hg _ hloc
    obtain ⟨A', c'', hv⟩ : ∃ A' c'', v' = .slice A' (l.length + 1) c'' := by
      rcases hown'.2 with ⟨hv, h0⟩ | ⟨g, cap, cur, hv, _⟩
      · exact ⟨none, 0, by rw [hv, h0]⟩
      · exact ⟨_, _, by rw [hv]⟩
    subst hv
    have hgs := hg.size
    have hblk : ∀ b, b < w0.heap.size → (∀ g, A = some ⟨g, 0, none⟩ → b ≠ g) → w'.heap[b]? = w0.heap[b]? := fun b hb hne => by
      refine (hg.block b (by simp; omega) fun hh => ?_).trans ((World.grownBy_alloc w0 _ none).block b hb (by simp))
      cases A with
      | none => simp [Value.ownBlock] at hh
      | some q =>
        rcases hown.form with ⟨hA, _⟩ | ⟨g, hA, _⟩
        · cases hA
        · injection hA with hA
          subst hA
          simp [Value.ownBlock] at hh
          exact hne g rfl hh
    refine h A' c'' w' ?_ ?_ (by simp at hgs; omega) hblk ?_
    · unfold Own
      rw [← List.flatMap_append] at hown'
      rw [show (l ++ [x]).length = l.length + 1 by simp]
      exact hown'
    · refine ((Below.refl base w0).alloc hbase _).trans ((Below.refl base _).grown hg (by simp; omega) fun g hgo => ?_)
      exact (World.ownsRow.lt (World.ownsRow.alloc hown (.cells cs e)) g (by rw [hgo])).1
    · intro g hA
      subst hA
      simp only [Value.ownBlock] at hloc
      cases A with
      | none => right; simp at hloc; omega
      | some q =>
        rcases hown.form with ⟨hA, _⟩ | ⟨g', hA, _⟩
        · cases hA
        · injection hA with hA
          subst hA
          simp at hloc
          rcases hloc with q | q
          · left; rw [q]
          · right; omega
/-- two slices of the call's own in different blocks -/
def Ap (A B : Option Addr) : Prop := ∀ g, A = some ⟨g, 0, none⟩ → B ≠ some ⟨g, 0, none⟩
theorem Ap.symm {A B : Option Addr} (h : Ap A B) : Ap B A := fun g h1 h2 => h g h2 h1
theorem Ap.keep {A B : Option Addr} {c : Nat} {l : List α} {base : Nat} {w w' : World} (h : Ap A B) (ho : Own e enc k w base B c l) (hf : ∀ b, b < w.heap.size → (∀ g, A = some ⟨g, 0, none⟩ → b ≠ g) → w'.heap[b]? = w.heap[b]?) : Own e enc k w' base B c l :=
  ho.keepB fun g hg hl => hf g hl fun g' e q => h g' e (by rw [hg, q])
end
end Go.Proofs.YtelchfijalkibaaGreatDoor
/- Slicing a slice: x[:j], x[j:], as operations. -/
namespace Go.Proofs.YtelchfijalkibaaGreatDoor
open Go.RowKit Go.Lib
section
variable {α : Type} {enc : α → List Value} {k : Nat} {A : Option Addr} {l : List α} {P : Program} {t e bytes : Nat} {w : World}
theorem TyS.size (T : TyS P t e k bytes) (w : World) : (Go.sizeOf e).run P w = .ok k w := by
  obtain ⟨i, z, hi, hz, hsz, hby, hzs⟩ := T.info
  simp [Go.sizeOf, typeInfo, hi, hsz]
theorem Rd.drop {B : Nat} (h : Rd enc k w B A l) (j c : Nat) (hj : j ≤ l.length) (hc : l.length ≤ c) : Rd enc k w B (if c = j then A else A.map (·.add (j * k))) (l.drop j) := by
  intro hne
  have hlt : j < l.length := by
    rcases Nat.lt_or_ge j l.length with q | q
    · exact q
    · exact absurd (List.drop_eq_nil_of_le q) hne
  obtain ⟨b, off, hA, hb, hcell⟩ := h (fun q => by rw [q] at hlt; cases hlt)
  rw [if_neg (by omega), hA]
  refine ⟨b, off + j * k, by simp [Addr.add], hb, fun i x hi m u hu => ?_⟩
  rw [List.getElem?_drop] at hi
  have := hcell (j + i) x hi m u hu
  rw [show off + (j + i) * k + m = off + j * k + i * k + m by rw [Nat.add_mul]; omega] at this
  exact this
end
end Go.Proofs.YtelchfijalkibaaGreatDoor
