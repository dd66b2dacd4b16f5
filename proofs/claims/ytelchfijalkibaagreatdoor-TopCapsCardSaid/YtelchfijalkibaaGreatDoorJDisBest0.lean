/- Joined texts: DisBest0, DisBestS. -/
import Derived.Test.YtelchfijalkibaaGreatDoorJDisAmt
import Derived.Test.YtelchfijalkibaaGreatDoorJDisPAll
import Derived.Test.YtelchfijalkibaaGreatDoorJDetMath
import Derived.Test.YtelchfijalkibaaGreatDoorJTarBand
import Derived.Test.YtelchfijalkibaaGreatDoorJNetChk
/- The small parts of Best: the closure of the group, slices.IndexFunc, ContainsFunc, Compare, Clone at integers; walked. -/
set_option linter.unusedSimpArgs false
namespace Go.Proofs.YtelchfijalkibaaGreatDoor
open Go.RowKit Go.Lib

def encN (n : Nat) : List Value := [.int .i64 n]
theorem encN_ok : Enc encN 1 := ⟨fun _ => rfl, fun x u hu => by simp [encN] at hu; rcases hu with rfl; rfl⟩
theorem tyN : TyS Tryz.prog 33 3 1 8 := TyS.mk' (z := .int .i64 0) Tryz.underlying33 (by kernel_rfl) rfl (by omega)
theorem Rd.n {w : World} {B : Nat} {A : Option Addr} {l : List Nat} (h : Rd encN 1 w B A l) {i : Nat} (hi : i < l.length) :
    ∃ b off, A = some ⟨b, off, none⟩ ∧ b < B ∧ w.cell? ⟨b, off + i, none⟩ = some (.int .i64 (l[i] : Nat)) := by
  obtain ⟨b, off, x, hA, hb, hx, hc⟩ := h.at_ hi
  have e : l[i] = x := (List.getElem?_eq_some_iff.1 hx).2
  refine ⟨b, off, hA, hb, ?_⟩
  rw [e]
  have := hc 0 (.int .i64 x) rfl
  simpa using this

set_option maxRecDepth 100000 in
set_option maxHeartbeats 4000000 in
theorem clash_any {lA : Option Addr} (lc : Nat) {l : List Dc} {B : Nat} {W : World} (hr : Rd encDc 10 W B lA l) {Lb ib k i : Nat} (hL : W.cell? ⟨Lb, 0, none⟩ = some (.slice lA l.length lc)) (hI : W.cell? ⟨ib, 0, none⟩ = some (.int .i64 i)) (hk : k < l.length) (hi : i < l.length) :
    Calls Tryz.prog 88 #[.int .i64 k, .pointer (some ⟨Lb, 0, none⟩), .pointer (some ⟨ib, 0, none⟩)] W fun e w' => e = .returned (.bool (clashB l k i)) ∧ ∃ m, w' = W.drewN m := by
  obtain ⟨b, off, x, hA, hb, hx, hc⟩ := hr.at_ hk
  obtain ⟨b', off', y, hA', hb', hy, hc'⟩ := hr.at_ hi
  have HC : Hid (clashB l k i = (!(emp x.gr) && eqS x.gr y.gr)) := Lib.hid (by unfold clashB; rw [hx, hy])
  generalize clashB l k i = r at *
  subst hA
  injection hA' with q
  injection q with q1 q2
  subst q1
  subst q2
  have d3 := hc 3 (.string x.gr) rfl
  have e3 := hc' 3 (.string y.gr) rfl
  have n0 : (0 : Int) ≤ (k : Int) := by omega
  have n1 : (k : Int) < (l.length : Int) := by omega
  have n2 : (0 : Int) ≤ (i : Int) := by omega
  have n3 : (i : Int) < (l.length : Int) := by omega
  have n4 : decide (k < l.length) = true := decide_eq_true hk
  have n5 : decide (i < l.length) = true := decide_eq_true hi
  clear hc hc' hx hy hb hb' hr
  cases g : emp x.gr
  · obtain ⟨e1, e2, e3⟩ := toList_neE g
    have t0 : (x.gr.toList == y.gr.toList) = eqS x.gr y.gr := rfl
    have R := Lib.hid (HC.out.trans (show _ = eqS x.gr y.gr by rw [g]; rfl))
    generalize eqS x.gr y.gr = bb at *
    clear HC g
    go_enter Tryz.func88, Tryz.ntmps88
    go_wp2_with fail
    go_quiet (fail)
    go_wp2_with fail
    go_ret
    rw [R.out]
    exact ⟨ret_bool (by first | rfl | simp), _, rfl⟩
  · obtain ⟨e1, e2, e3⟩ := toList_eE g
    have R := Lib.hid (HC.out.trans (show _ = false by rw [g]; rfl))
    clear HC g
    go_enter Tryz.func88, Tryz.ntmps88
    go_wp2_with fail
    go_quiet (fail)
    go_wp2_with fail
    go_ret
    rw [R.out]
    exact ⟨rfl, _, rfl⟩

set_option maxRecDepth 100000 in
set_option maxHeartbeats 4000000 in
theorem idxN_any {A : Option Addr} (cap : Nat) {c : List Nat} (p : Nat → Bool) (g : Nat) (lb : Array Value) (eg : ∀ args w, (callFunc g args).run Tryz.prog w = .ok (.enter g args) w) {w : World} (hcl : c.length ≤ 1000) (hr : Rd encN 1 w w.heap.size A c)
    (hp : ∀ m k, k ∈ c → Calls Tryz.prog g (#[.int .i64 k] ++ lb) (w.drewN m) fun e w' => e = .returned (.bool (p k)) ∧ ∃ q, w' = (w.drewN m).drewN q) :
    Calls Tryz.prog 99 #[.slice A c.length cap, .func (.func g) #[] lb] w fun e w' => (∃ i : Int, e = .returned (.int .i64 i) ∧ decide (0 ≤ i) = c.any p) ∧ ∃ m, w' = w.drewN m := by
  have HR := Lib.hid hr
  have HP := Lib.hid hp
  have EG := Lib.hid eg
  clear hr hp eg
  go_enter Tryz.func99, Tryz.ntmps99
  go_wp2_with fail
  go_loopw [8] (fun j wr => ∃ k : Nat, k ≤ c.length ∧ j = .int .i64 k ∧ (∃ m, wr = w.drewN m) ∧ (c.take k).any p = false) (fun j _ => c.length - (RowKit.intOf j).toNat)
  case atStart => exact ⟨0, Nat.zero_le _, rfl, ⟨0, rfl⟩, by simp⟩
  case round =>
    obtain ⟨k, hk, rfl, ⟨m, rfl⟩, hno⟩ := hrel
    have HN := Lib.hid hno
    clear hno
    have k1 : (0 : Int) ≤ (k : Int) := by omega
    by_cases hi : k < c.length
    · have k2 : (k : Int) < (c.length : Int) := by omega
      obtain ⟨b, off, rfl, hb, hx⟩ := HR.out.n hi
      have CP := Lib.hid (HP.out m c[k] (List.getElem_mem hi))
      have HX := Lib.hid (show c[k]? = some c[k] from List.getElem?_eq_getElem hi)
      generalize c[k] = x at *
      have HI := Lib.hid hi
      have eg := EG.out
      clear hb hi
      go_wp2_with fail
      cases hb : p x
      · rw [hb] at CP
        have HP0 := Lib.hid hb
        clear hb
        refine CP.out.mono ?_
        rintro e w' ⟨rfl, q, rfl⟩
        go_wp2_with fail
        go_roundw
        case rel => exact ⟨k + 1, HI.out, by go_num, ⟨m + q, rfl⟩, by rw [take_snoc HX.out, List.any_append, HN.out]; simp [HP0.out]⟩
        case measure => have := HI.out; simp [RowKit.intOf]; omega
      · rw [hb] at CP
        have R := Lib.hid (show c.any p = true from List.any_eq_true.2 ⟨x, List.mem_of_getElem? HX.out, hb⟩)
        clear hb
        refine CP.out.mono ?_
        rintro e w' ⟨rfl, q, rfl⟩
        go_wp2_with fail
        go_ret
        exact ⟨⟨(k : Int), rfl, by rw [R.out]; simp⟩, m + q, rfl⟩
    · obtain rfl : k = c.length := by omega
      have R := Lib.hid (show c.any p = false by have h := HN.out; rwa [List.take_length] at h)
      clear HN
      go_wp2_with fail
      go_ret
      exact ⟨⟨-1, rfl, by rw [R.out]; rfl⟩, m, rfl⟩
set_option maxRecDepth 100000 in
set_option maxHeartbeats 4000000 in
theorem hasN_any {A : Option Addr} (cap : Nat) {c : List Nat} (p : Nat → Bool) (g : Nat) (lb : Array Value) (eg : ∀ args w, (callFunc g args).run Tryz.prog w = .ok (.enter g args) w) {w : World} (hcl : c.length ≤ 1000) (hr : Rd encN 1 w w.heap.size A c)
    (hp : ∀ m k, k ∈ c → Calls Tryz.prog g (#[.int .i64 k] ++ lb) (w.drewN m) fun e w' => e = .returned (.bool (p k)) ∧ ∃ q, w' = (w.drewN m).drewN q) :
    Calls Tryz.prog 87 #[.slice A c.length cap, .func (.func g) #[] lb] w fun e w' => e = .returned (.bool (c.any p)) ∧ ∃ m, w' = w.drewN m := by
  have CI := Lib.hid (idxN_any cap p g lb eg hcl hr hp)
  clear hr hp eg
  go_enter Tryz.func87, Tryz.ntmps87
  go_wp2_with fail
  refine CI.out.mono ?_
  rintro e w' ⟨⟨i, rfl, hi⟩, q, rfl⟩
  have R := Lib.hid hi
  clear hi
  go_wp2_with fail
  go_ret
  exact ⟨ret_bool (by exact R.out), q, rfl⟩
/-- slices.Compare at two lists of one length -/
def LtR (b : Bool) (e : Ending) : Prop := ∃ r : Int, e = .returned (.int .i64 r) ∧ decide (r < 0) = b
theorem lexN_same {a b : List Nat} {k : Nat} (ha : a.take k = b.take k) : lexN a b = lexN (a.drop k) (b.drop k) := by
  induction k generalizing a b with
  | zero => rfl
  | succ k ih =>
    cases a with
    | nil => cases b with
      | nil => rfl
      | cons y b => simp at ha
    | cons x a => cases b with
      | nil => simp at ha
      | cons y b =>
        simp only [List.take_succ_cons, List.cons.injEq] at ha
        obtain ⟨rfl, ha⟩ := ha
        simp only [List.drop_succ_cons]
        rw [← ih ha]
        simp [lexN]
set_option maxRecDepth 100000 in
set_option maxHeartbeats 4000000 in
theorem compare_any {A B : Option Addr} (ca cb : Nat) {a b : List Nat} (hl : a.length = b.length) (hcl : a.length ≤ 1000) {w : World} (ha : Rd encN 1 w w.heap.size A a) (hb : Rd encN 1 w w.heap.size B b) :
    Calls Tryz.prog 85 #[.slice A a.length ca, .slice B b.length cb] w fun e w' => LtR (lexN a b) e ∧ w' = w := by
  have HA := Lib.hid ha
  have HB := Lib.hid hb
  have HL := Lib.hid hl
  have CC := Lib.hid (fun (x y : Int) (X : World) => cmpInt_any x y X)
  rw [← hl]
  clear ha hb hl
  go_enter Tryz.func85, Tryz.ntmps85
  go_wp2_with fail
  go_loopw [11] (fun j wr => ∃ k : Nat, k ≤ a.length ∧ j = .int .i64 k ∧ wr = w ∧ a.take k = b.take k) (fun j _ => a.length - (RowKit.intOf j).toNat)
  case atStart => exact ⟨0, Nat.zero_le _, rfl, rfl, by simp⟩
  case round =>
    obtain ⟨k, hk, rfl, hw, hs⟩ := hrel
    have hw := hw.symm
    subst hw
    have HS := Lib.hid hs
    clear hs
    have k1 : (0 : Int) ≤ (k : Int) := by omega
    by_cases hi : k < a.length
    · have k2 : (k : Int) < (a.length : Int) := by omega
      have hi2 : k < b.length := by rw [← HL.out]; exact hi
      obtain ⟨g1, o1, rfl, _, hx⟩ := HA.out.n hi
      obtain ⟨g2, o2, rfl, _, hy⟩ := HB.out.n hi2
      have HX := Lib.hid (show a[k]? = some a[k] from List.getElem?_eq_getElem hi)
      have HY := Lib.hid (show b[k]? = some b[k] from List.getElem?_eq_getElem hi2)
      generalize a[k] = x at *
      generalize b[k] = y at *
      have HI := Lib.hid hi
      have R := Lib.hid ((lexN_same HS.out).trans (by rw [drop_at HX.out, drop_at HY.out]))
      have CX := Lib.hid (CC.out x y w)
      clear hi hi2
      have k3 : ¬ (a.length : Int) ≤ (k : Int) := by omega
      have k4 : ((a.length : Int) ≤ (k : Int)) = False := eq_false k3
      go_wp2_with fail
      refine CX.out.mono ?_
      rintro e w' ⟨rfl, hw'⟩
      rw [hw']
      clear hw' w' CX
      rcases Nat.lt_trichotomy x y with h | h | h
      · rw [show cmpI (x : Int) (y : Int) = -1 by unfold cmpI Lib.compareInt; rw [if_pos (by omega)]]
        have R := Lib.hid (R.out.trans (show _ = true by simp [lexN, h]))
        clear h
        go_wp2_with fail
        go_ret
        exact ⟨⟨-1, rfl, by rw [R.out]; rfl⟩, rfl⟩
      · rw [show cmpI (x : Int) (y : Int) = 0 by unfold cmpI Lib.compareInt; rw [if_neg (by omega), if_neg (by omega)]]
        have HXY := Lib.hid h
        clear h
        go_wp2_with fail
        go_roundw
        case rel => exact ⟨k + 1, HI.out, by go_num, by first | rfl | trivial, by rw [take_snoc HX.out, take_snoc HY.out, HS.out, HXY.out]⟩
        case measure => have := HI.out; simp [RowKit.intOf]; omega
      · rw [show cmpI (x : Int) (y : Int) = 1 by unfold cmpI Lib.compareInt; rw [if_neg (by omega), if_pos (by omega)]]
        have R := Lib.hid (R.out.trans (show _ = false by simp [lexN]; exact ⟨by omega, fun q => absurd q (by omega)⟩))
        clear h
        go_wp2_with fail
        go_ret
        exact ⟨⟨1, rfl, by rw [R.out]; rfl⟩, rfl⟩
    · obtain rfl : k = a.length := by omega
      have R := Lib.hid (show lexN a b = false by have h := HS.out; rw [List.take_length, HL.out, List.take_length] at h; rw [h]; exact lexN_irr b)
      clear HS
      go_wp2_with fail
      go_ret
      exact ⟨⟨0, rfl, by rw [R.out]; rfl⟩, rfl⟩
set_option maxRecDepth 100000 in
set_option maxHeartbeats 2000000 in
theorem cloneN_any {A : Option Addr} (c : Nat) {l : List Nat} {w : World} (h : Rd encN 1 w w.heap.size A l) (hn : A = none → l = []) (hl : l.length ≤ 1000) :
    Calls Tryz.prog 86 #[.slice A l.length c] w fun e w' => ∃ A' c', e = .returned (.slice A' l.length c') ∧ Own 3 encN 1 w' w.heap.size A' c' l ∧ Below w.heap.size w w' := by
  have qn : ∀ (w : World) (a : Option Addr) (n c n' c' : Nat), (binOp .eql 33 (.slice a n c) (.slice none n' c')).run Tryz.prog w = .ok (.bool a.isNone) w := fun w a n c n' c' => Lib.run_eql_slice_nil w _ _ a n c n' c' Tryz.underlying33
  cases A with
  | none =>
    obtain rfl := hn rfl
    clear h hn
    go_enter Tryz.func86, Tryz.ntmps86
    go_wp2
    go_ret
    exact ⟨none, 0, rfl, Own.nil _ _, Below.refl _ _⟩
  | some a =>
    have H := Lib.hid h
    clear h hn
    have hown := Own.lit (e := 3) (cs := #[]) w w.heap.size ([] : List Nat) (g := w.heap.size) encN_ok rfl rfl (Nat.le_refl _) (by simp)
    have hb0 := (Below.refl w.heap.size w).al (.cells #[] 3)
    have hr := H.out.st hb0
    have hbs : w.heap.size ≤ (w.alloc (.cells #[] 3)).heap.size := by simp
    go_enter Tryz.func86, Tryz.ntmps86
    go_wp2_with (at_builtin; refine wpList_appS rfl (.tmp 5) (.tmp 6) tyN encN_ok rfl _ rfl (by first | rfl | simp) hown l rfl (by first | rfl | simp) hr (by first | omega | (simp; done) | (simp; omega)) (by first | omega | (simp; done) | (simp; omega)) hbs ?_; intro A4 c4 w4 hown4 hb4 hs4 hf4)
    go_ret
    exact ⟨A4, c4, by simp, by simpa using hown4, hb0.trans hb4⟩
end Go.Proofs.YtelchfijalkibaaGreatDoor
/- The state in which Best's closure runs: its boxes, its two lists. -/
set_option linter.unusedSimpArgs false
namespace Go.Proofs.YtelchfijalkibaaGreatDoor
open Go.RowKit Go.Lib

def addF (Lb Cb p : Nat) : Value := .func (.func 84) #[] #[.pointer (some ⟨Cb, 0, none⟩), .pointer (some ⟨p + 2, 0, none⟩), .pointer (some ⟨p + 1, 0, none⟩), .pointer (some ⟨p, 0, none⟩), .pointer (some ⟨Lb, 0, none⟩), .pointer (some ⟨p + 3, 0, none⟩)]
/-- Best's boxes lie at Lb, Cb and from p on; now is c, best is b -/
structure BSt (lA : Option Addr) (lc : Nat) (l : List Dc) (n : Int) (Lb Cb p : Nat) (W : World) (A : Option Addr) (cap : Nat) (c : List Nat) (bA : Option Addr) (bcap : Nat) (b : List Nat) : Prop where
  lL : Lb < p
  lC : Cb < p
  hl : Blk W Lb #[.slice lA l.length lc] 36
  hc : Blk W Cb #[.int .i64 n] 3
  hb : Blk W p #[.slice bA b.length bcap] 33
  hn : Blk W (p + 1) #[.slice A c.length cap] 33
  hm : Blk W (p + 2) #[.int .i64 (red l n b)] 3
  ha : Blk W (p + 3) #[addF Lb Cb p] 167
  on : Own 3 encN 1 W (p + 4) A cap c
  ob : Own 3 encN 1 W (p + 4) bA bcap b
  ne : ∀ g, A = some ⟨g, 0, none⟩ → bA ≠ some ⟨g, 0, none⟩
  rl : Rd encDc 10 W p lA l
theorem rd_set {α : Type} {enc : α → List Value} {k : Nat} {W : World} {B : Nat} {A : Option Addr} {l : List α} (h : Rd enc k W B A l) {j : Nat} (hj : B ≤ j) (v : Value) : Rd enc k (W.setCell ⟨j, 0, none⟩ v) B A l :=
  h.keepIf fun b' _ _ _ _ => World.cell?_of_block (Below.heap_setCell _ _ _ _ (by show b' ≠ j; omega))
section
variable {lA : Option Addr} {lc : Nat} {l : List Dc} {n : Int} {Lb Cb p : Nat} {W W' : World} {A : Option Addr} {cap : Nat} {c : List Nat} {bA : Option Addr} {bcap : Nat} {b : List Nat}
theorem BSt.size (h : BSt lA lc l n Lb Cb p W A cap c bA bcap b) : p + 4 ≤ W.heap.size := h.ha.lt
/-- what lies outside of now's list is kept -/
theorem BSt.keep (h : BSt lA lc l n Lb Cb p W A cap c bA bcap b) (hb : Below W.heap.size W W') : BSt lA lc l n Lb Cb p W' A cap c bA bcap b :=
  ⟨h.lL, h.lC, h.hl.below hb h.hl.lt, h.hc.below hb h.hc.lt, h.hb.below hb h.hb.lt, h.hn.below hb h.hn.lt, h.hm.below hb h.hm.lt, h.ha.below hb h.ha.lt, h.on.keep hb (Nat.le_refl _), h.ob.keep hb (Nat.le_refl _), h.ne, h.rl.keep (hb.mono (by have := h.size; omega))⟩
/-- now and best, as they are read -/
theorem BSt.rn (h : BSt lA lc l n Lb Cb p W A cap c bA bcap b) : Rd encN 1 W W.heap.size A c := h.on.rd encN_ok
theorem BSt.rb (h : BSt lA lc l n Lb Cb p W A cap c bA bcap b) : Rd encN 1 W W.heap.size bA b := h.ob.rd encN_ok
/-- best becomes now's copy -/
theorem BSt.took (h : BSt lA lc l n Lb Cb p W A cap c bA bcap b) {bA2 : Option Addr} {bc2 : Nat} {b2 : List Nat} (hb : Below W.heap.size W W') (ho : Own 3 encN 1 W' W.heap.size bA2 bc2 b2) :
    BSt lA lc l n Lb Cb p ((W'.setCell ⟨p, 0, none⟩ (.slice bA2 b2.length bc2)).setCell ⟨p + 2, 0, none⟩ (.int .i64 (red l n b2))) A cap c bA2 bc2 b2 := by
  have k := h.keep hb
  have hs := h.size
  have lL := h.lL
  have lC := h.lC
  have e0 : Blk (W'.setCell ⟨p, 0, none⟩ (.slice bA2 b2.length bc2)) (p + 2) #[.int .i64 (red l n b)] 3 := k.hm.other (p := ⟨p, 0, none⟩) (by show p + 2 ≠ p; omega) _
  refine ⟨h.lL, h.lC, (k.hl.other (p := ⟨p, 0, none⟩) (by show Lb ≠ p; omega) _).other (p := ⟨p + 2, 0, none⟩) (by show Lb ≠ p + 2; omega) _, (k.hc.other (p := ⟨p, 0, none⟩) (by show Cb ≠ p; omega) _).other (p := ⟨p + 2, 0, none⟩) (by show Cb ≠ p + 2; omega) _,
    (k.hb.set 0 _).other (p := ⟨p + 2, 0, none⟩) (by show p ≠ p + 2; omega) _, (k.hn.other (p := ⟨p, 0, none⟩) (by show p + 1 ≠ p; omega) _).other (p := ⟨p + 2, 0, none⟩) (by show p + 1 ≠ p + 2; omega) _, e0.set 0 _,
    (k.ha.other (p := ⟨p, 0, none⟩) (by show p + 3 ≠ p; omega) _).other (p := ⟨p + 2, 0, none⟩) (by show p + 3 ≠ p + 2; omega) _,
    (k.on.other (p := ⟨p, 0, none⟩) (by show p < p + 4; omega) _).other (p := ⟨p + 2, 0, none⟩) (by show p + 2 < p + 4; omega) _,
    ((ho.mono hs).other (p := ⟨p, 0, none⟩) (by show p < p + 4; omega) _).other (p := ⟨p + 2, 0, none⟩) (by show p + 2 < p + 4; omega) _, ?_, ?_⟩
  · intro g hA hB
    have h1 := h.on.ne (b := g) (by rcases ho.form with ⟨q, _⟩ | ⟨g', q, hg, _⟩; (rw [q] at hB; cases hB); (rw [q] at hB; injection hB with hB; injection hB with hB; omega)) g hA
    exact h1 rfl
  · exact rd_set (rd_set k.rl (Nat.le_refl _) _) (by omega) _
/-- now becomes another list -/
theorem BSt.now (h : BSt lA lc l n Lb Cb p W A cap c bA bcap b) {A2 : Option Addr} {cap2 : Nat} {c2 : List Nat} (hb : Below (p + 4) W W') (hk : ∀ g, bA = some ⟨g, 0, none⟩ → W'.heap[g]? = W.heap[g]?) (ho : Own 3 encN 1 W' (p + 4) A2 cap2 c2) (hl : ∀ g, A2 = some ⟨g, 0, none⟩ → A = some ⟨g, 0, none⟩ ∨ W.heap.size ≤ g) :
    BSt lA lc l n Lb Cb p (W'.setCell ⟨p + 1, 0, none⟩ (.slice A2 c2.length cap2)) A2 cap2 c2 bA bcap b := by
  have hs := h.size
  have lL := h.lL
  have lC := h.lC
  refine ⟨h.lL, h.lC, (h.hl.below hb (by omega)).other (p := ⟨p + 1, 0, none⟩) (by show Lb ≠ p + 1; omega) _, (h.hc.below hb (by omega)).other (p := ⟨p + 1, 0, none⟩) (by show Cb ≠ p + 1; omega) _,
    (h.hb.below hb (by omega)).other (p := ⟨p + 1, 0, none⟩) (by show p ≠ p + 1; omega) _, (h.hn.below hb (by omega)).set 0 _, (h.hm.below hb (by omega)).other (p := ⟨p + 1, 0, none⟩) (by show p + 2 ≠ p + 1; omega) _,
    (h.ha.below hb (by omega)).other (p := ⟨p + 1, 0, none⟩) (by show p + 3 ≠ p + 1; omega) _, ho.other (p := ⟨p + 1, 0, none⟩) (by show p + 1 < p + 4; omega) _,
    (h.ob.keepB fun g hA _ => hk g hA).other (p := ⟨p + 1, 0, none⟩) (by show p + 1 < p + 4; omega) _, ?_, ?_⟩
  · intro g hA hB
    rcases hl g hA with q | q
    · exact h.ne g q hB
    · exact h.ob.ne (b := g) q g hB rfl
  · exact rd_set (h.rl.keep (hb.mono (by omega))) (by omega) _
end
/-- from a state to a later one: what is kept, where now's list lies -/
structure Rel (p : Nat) (A : Option Addr) (W : World) (A' : Option Addr) (W' : World) : Prop where
  below : Below p W W'
  fr : ∀ k, p + 4 ≤ k → k < W.heap.size → A ≠ some ⟨k, 0, none⟩ → W'.heap[k]? = W.heap[k]?
  loc : ∀ g, A' = some ⟨g, 0, none⟩ → A = some ⟨g, 0, none⟩ ∨ W.heap.size ≤ g
theorem Rel.refl (p : Nat) (A : Option Addr) (W : World) : Rel p A W A W := ⟨Below.refl _ _, fun _ _ _ _ => rfl, fun _ h => .inl h⟩
theorem Rel.trans {p : Nat} {A0 A1 A2 : Option Addr} {W0 W1 W2 : World} (h : Rel p A0 W0 A1 W1) (k : Rel p A1 W1 A2 W2) : Rel p A0 W0 A2 W2 := by
  refine ⟨h.below.trans k.below, fun j h1 h2 h3 => (k.fr j h1 (Nat.lt_of_lt_of_le h2 h.below.size) fun e => ?_).trans (h.fr j h1 h2 h3), fun g hg => ?_⟩
  · rcases h.loc j e with q | q
    · exact h3 q
    · omega
  · rcases k.loc g hg with q | q
    · exact h.loc g q
    · right; have := h.below.size; omega
theorem Rel.of_below {p : Nat} {A : Option Addr} {W W' : World} (hp : p ≤ W.heap.size) (h : Below W.heap.size W W') : Rel p A W A W' := ⟨h.mono hp, fun k _ hk _ => h.block k hk, fun _ h => .inl h⟩
theorem Rel.set {p j : Nat} {A : Option Addr} {W : World} (h1 : p ≤ j) (h2 : j < p + 4) (A' : Option Addr) (hl : ∀ g, A' = some ⟨g, 0, none⟩ → A = some ⟨g, 0, none⟩ ∨ W.heap.size ≤ g) (v : Value) : Rel p A W A' (W.setCell ⟨j, 0, none⟩ v) :=
  ⟨(Below.refl p W).setCell (p := ⟨j, 0, none⟩) h1 v, fun k hk _ _ => Below.heap_setCell _ _ _ _ (by show k ≠ j; omega), hl⟩
/-- a list's block is not one that lies elsewhere -/
theorem own_ne {A : Option Addr} {cap : Nat} {c : List Nat} {W : World} {B g : Nat} (h : Own 3 encN 1 W B A cap c) (hg : W.heap.size ≤ g) : A ≠ some ⟨g, 0, none⟩ := fun e => h.ne (b := g) hg g e rfl
/-- a list that is cut short -/
theorem Own.cut {A : Option Addr} {cap : Nat} {c : List Nat} {i : Nat} {W : World} {B : Nat} (h : Own 3 encN 1 W B A cap (c ++ [i])) : Own 3 encN 1 W B A cap c := by
  obtain ⟨h1, h2⟩ := h
  have hlen : (c ++ [i]).length = c.length + 1 := by simp
  refine ⟨by rw [flat_length encN_ok], ?_⟩
  rcases h2 with ⟨_, h0⟩ | ⟨g, cp, cur, hv, hb, hh, hle, hm, hs, ht⟩
  · rw [hlen] at h0; omega
  · right
    injection hv with q1 q2 q3
    subst q1 q3
    refine ⟨g, cap, cur, rfl, hb, hh, by omega, hm, hs, ?_⟩
    have e : (c.flatMap encN) = ((c ++ [i]).flatMap encN).take (c.length * 1) := by
      rw [List.flatMap_append, List.take_append_of_le_length (by rw [flat_length encN_ok]; omega), List.take_of_length_le (by rw [flat_length encN_ok]; omega)]
    rw [e, ← ht, List.take_take, hlen]
    congr 1
    omega
end Go.Proofs.YtelchfijalkibaaGreatDoor
