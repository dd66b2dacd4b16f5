/- Joined texts: BillTot, BillDaysM. -/
import Derived.Test.YtlnnbkpcnhlfcaaDoorBillROf
import Derived.Test.YtlnnbkpcnhlfcaaDoorJMake
import Derived.Test.YtlnnbkpcnhlfcaaDoorJMoneyLeaf
import Derived.Test.YtlnnbkpcnhlfcaaDoorJValid
import Derived.Test.YtlnnbkpcnhlfcaaDoorJDevEnc
/- bill.Total, walked. -/
set_option linter.unusedSimpArgs false
namespace Go.Proofs.YtlnnbkpcnhlfcaaDoor
open Go.RowKit Go.Lib

def inT (f t : Int) (x : CV) : Bool := decide (f ≤ x.tm) && decide (x.tm < t)
def totL (cs : List CV) (f t : Int) : List Int := (cs.filter (inT f t)).map CV.ct
def totE (ac : List Av) (nm : ByteArray) (cs : List CV) (f t : Int) : Int := if (ac.find? (named nm)).isSome = false then 25 else if validB f t = false then 12 else sumE (totL (ofL ac nm cs) f t)
def totV (ac : List Av) (nm : ByteArray) (cs : List CV) (f t : Int) : Int := if (ac.find? (named nm)).isSome = false then 0 else if validB f t = false then 0 else sumV (totL (ofL ac nm cs) f t)
theorem totL_tk {cs : List CV} {f t : Int} {k : Nat} {x : CV} (hx : cs[k]? = some x) : totL (cs.take (k + 1)) f t = totL (cs.take k) f t ++ (if inT f t x = true then [x.ct] else []) := by
  unfold totL
  rw [take_snoc hx, List.filter_append, List.map_append]
  cases h : inT f t x <;> simp [List.filter_cons, h]

set_option maxRecDepth 100000 in
set_option maxHeartbeats 2000000 in
theorem tot_any {aA cA A : Option Addr} {acs : List Ac} {caps : List Cp} {l : List Cg} (ac cc c : Nat) (nm : ByteArray) (f t : Int) {w : World} (h : BLO w aA ac acs cA caps A l) :
    Calls Tryd.prog 22 #[.agg #[.slice none 0 0, .slice none 0 0, .slice none 0 0, .slice none 0 0, .slice none 0 0, .slice none 0 0, .int .i64 0, .int .i64 0, .slice none 0 0, .int .i64 0, .slice none 0 0, .slice none 0 0, .slice none 0 0, .slice none 0 0, .slice cA caps.length cc, .slice none 0 0, .slice none 0 0, .slice aA acs.length ac, .slice none 0 0, .slice none 0 0, .slice none 0 0, .slice none 0 0, .int .i64 0, .slice none 0 0, .string ⟨#[]⟩], .string nm, .slice A l.length c, .agg #[.int .i64 f, .int .i64 t]] w fun e w' => e = .returned (.tuple #[.int .i64 (totV (vals acs) nm (cvs l) f t), .int .i64 (totE (vals acs) nm (cvs l) f t)]) ∧ Below w.heap.size w w' := by
  have H := Lib.hid h
  obtain ⟨Y1, hY1⟩ : ∃ Y, w.alloc (.cells #[.slice none 0 0, .slice none 0 0, .slice none 0 0, .slice none 0 0, .slice none 0 0, .slice none 0 0, .int .i64 0, .int .i64 0, .slice none 0 0, .int .i64 0, .slice none 0 0, .slice none 0 0, .slice none 0 0, .slice none 0 0, .slice cA caps.length cc, .slice none 0 0, .slice none 0 0, .slice aA acs.length ac, .slice none 0 0, .slice none 0 0, .slice none 0 0, .slice none 0 0, .int .i64 0, .slice none 0 0, .string ⟨#[]⟩] 62) = Y := ⟨_, rfl⟩
  obtain ⟨Y2, hY2⟩ : ∃ Y, Y1.alloc (.cells #[.int .i64 f, .int .i64 t] 68) = Y := ⟨_, rfl⟩
  have s1 : Y1.heap.size = w.heap.size + 1 := by rw [← hY1]; simp
  have s2 : Y2.heap.size = w.heap.size + 1 + 1 := by rw [← hY2, ← s1]; simp
  have BC : Blk Y2 w.heap.size #[.slice none 0 0, .slice none 0 0, .slice none 0 0, .slice none 0 0, .slice none 0 0, .slice none 0 0, .int .i64 0, .int .i64 0, .slice none 0 0, .int .i64 0, .slice none 0 0, .slice none 0 0, .slice none 0 0, .slice none 0 0, .slice cA caps.length cc, .slice none 0 0, .slice none 0 0, .slice aA acs.length ac, .slice none 0 0, .slice none 0 0, .slice none 0 0, .slice none 0 0, .int .i64 0, .slice none 0 0, .string ⟨#[]⟩] 62 := by rw [← hY2, ← hY1]; exact (Blk.new w _ _).alloc _
  have BI : Blk Y2 (w.heap.size + 1) #[.int .i64 f, .int .i64 t] 68 := by rw [← hY2, ← s1]; exact Blk.new Y1 _ _
  have bW : Below w.heap.size w Y2 := by rw [← hY2, ← hY1]; exact ((Below.refl _ w).al _).al _
  have g17 := BC.cell 17 (v := .slice aA acs.length ac) rfl
  have CF := Lib.hid (find_any ac nm (h.al.st bW) h.sm)
  have HZ : Hid (totV (vals acs) nm (cvs l) f t = if ((vals acs).find? (named nm)).isSome = false then 0 else if validB f t = false then 0 else sumV (totL (ofL (vals acs) nm (cvs l)) f t)) := Lib.hid rfl
  have HE : Hid (totE (vals acs) nm (cvs l) f t = if ((vals acs).find? (named nm)).isSome = false then 25 else if validB f t = false then 12 else sumE (totL (ofL (vals acs) nm (cvs l)) f t)) := Lib.hid rfl
  generalize totV (vals acs) nm (cvs l) f t = rv at *
  generalize totE (vals acs) nm (cvs l) f t = re at *
  clear h
  go_enter Tryd.func22, Tryd.ntmps22
  go_wp2_with fail
  refine CF.out.mono ?_
  rintro e w3 ⟨ab, rfl, -, hab, hbn⟩
  generalize ((vals acs).find? (named nm)).isSome = ok at *
  simp only [AcV]
  have bW3 := bW.st hbn
  have BC := BC.below hbn BC.lt
  have BI := BI.below hbn BI.lt
  have sz3 := hbn.size
  clear CF hbn g17 hY1 hY2 bW
  obtain ⟨Y4, hY4⟩ : ∃ Y, w3.alloc (.cells #[.string ab.v.name, .string ab.v.ag, .bool ab.v.pre, .slice ab.oA ab.v.os.length ab.oc, .int .i64 ab.v.r0, .int .i64 ab.v.r1, .int .i64 ab.v.r2, .int .i64 ab.v.r3, .bool ab.v.ex] 91) = Y := ⟨_, rfl⟩
  have b4 : Below w3.heap.size w3 Y4 := by rw [← hY4]; exact (Below.refl _ w3).al _
  have bW4 := bW3.st b4
  have BC := BC.below b4 BC.lt
  have BI := BI.below b4 BI.lt
  have sz4 := b4.size
  cases ok
  · have HZ := Lib.hid (HZ.out.trans (if_pos rfl))
    have HE := Lib.hid (HE.out.trans (if_pos rfl))
    go_wp2_with fail
    go_ret2
    exact ⟨by rw [HZ.out, HE.out]; rfl, bW4⟩
  · have HZ := Lib.hid (HZ.out.trans (if_neg (by simp)))
    have HE := Lib.hid (HE.out.trans (if_neg (by simp)))
    have i0 := BI.cell 0 (v := .int .i64 f) rfl
    have i1 := BI.cell 1 (v := .int .i64 t) rfl
    have CV := Lib.hid (valid_any f t)
    obtain ⟨Y5, hY5⟩ : ∃ Y, Y4.alloc (.cells #[.int .i64 f, .int .i64 t] 68) = Y := ⟨_, rfl⟩
    have b5 : Below Y4.heap.size Y4 Y5 := by rw [← hY5]; exact (Below.refl _ Y4).al _
    have bW5 := bW4.st b5
    have BC := BC.below b5 BC.lt
    have BI := BI.below b5 BI.lt
    have sz5 := b5.size
    cases hv : validB f t
    · rw [hv] at CV HZ HE
      have HZ := Lib.hid (HZ.out.trans (if_pos rfl))
      have HE := Lib.hid (HE.out.trans (if_pos rfl))
      go_wp2_with (go_at_call 44; with_reducible refine (CV.out _).mono ?_; rintro e w' ⟨rfl, rfl⟩)
      go_ret2
      exact ⟨by rw [HZ.out, HE.out]; rfl, by first | exact bW5 | (rw [hY5]; exact bW5)⟩
    · rw [hv] at CV HZ HE
      have HZ := Lib.hid (HZ.out.trans (if_neg (by simp)))
      have HE := Lib.hid (HE.out.trans (if_neg (by simp)))
      have i0 := BI.cell 0 (v := .int .i64 f) rfl
      have i1 := BI.cell 1 (v := .int .i64 t) rfl
      have CO := Lib.hid (of_any ac cc c nm (H.out.st bW5))
      clear hv
      go_wp2_with (first | (go_at_call 44; with_reducible refine (CV.out _).mono ?_; rintro e w' ⟨rfl, rfl⟩; rw [hY5]) | (refine wpList_boxLoad rfl (ty := 62) (x := .tmp 4) (cs := #[.slice none 0 0, .slice none 0 0, .slice none 0 0, .slice none 0 0, .slice none 0 0, .slice none 0 0, .int .i64 0, .int .i64 0, .slice none 0 0, .int .i64 0, .slice none 0 0, .slice none 0 0, .slice none 0 0, .slice none 0 0, .slice cA caps.length cc, .slice none 0 0, .slice none 0 0, .slice aA acs.length ac, .slice none 0 0, .slice none 0 0, .slice none 0 0, .slice none 0 0, .int .i64 0, .slice none 0 0, .string ⟨#[]⟩]) rfl BC rfl ⟨_, Tryd.underlying62, by kernel_rfl⟩ ?_))
      refine CO.out.mono ?_
      rintro e w6 ⟨A6, c6, r, rfl, hrv, hown, -, hbn⟩
      have HR := Lib.hid (hown.rd encCg_ok)
      have HRV := Lib.hid hrv
      have HOF := Lib.hid (ofL_len (vals acs) nm (cvs l))
      have hrl : r.length ≤ 1000 := by have := HOF.out; rw [← hrv, cvs_len, cvs_len] at this; exact Nat.le_trans this H.out.cll
      have bW6 := bW5.st hbn
      have BI := BI.below hbn BI.lt
      have HBI := Lib.hid BI
      have hsz6 : w.heap.size + 1 < w6.heap.size := BI.lt
      clear CO CV hbn hown hrv BC BI i0 i1 hY5 hY4 b4 b5 bW3 bW4 bW5
      go_wp2_with fail
      go_loopw [12, 32] (fun o i wr => ∃ (k : Nat) (q : List Int) (A' : Option Addr) (c' : Nat), k ≤ r.length ∧ i = .int .i64 k ∧ o = .slice A' q.length c' ∧ Hid (q.length ≤ k) ∧ Hid (q = totL ((cvs r).take k) f t) ∧ Own 3 encI 1 wr w6.heap.size A' c' q ∧ Below w6.heap.size w6 wr) (fun _ i _ => r.length - (RowKit.intOf i).toNat)
      case atStart => exact ⟨0, [], none, 0, Nat.zero_le _, rfl, rfl, (by unfold Hid; simp), Lib.hid (by simp [totL]), Own.nil _ _, Below.refl _ _⟩
      case round =>
        obtain ⟨k, q, A', c', hk, rfl, rfl, HQL, HQ, hown, bY⟩ := hrel
        by_cases hi : k < r.length
        · obtain ⟨b, off, x, rfl, hb, hx, d0, d1, d2, d3, d4, d5, d6⟩ := (HR.out.st bY).cg hi
          have HK := Lib.hid hi
          have HT := Lib.hid (totL_tk (f := f) (t := t) (cvs_at hx))
          obtain ⟨⟨key, veh, sys, cls, tm, lns, cn⟩, lA, lc⟩ := x
          simp only at *
          obtain ⟨Y7, hY7⟩ : ∃ Y, wr.alloc (.cells #[.string key, .string veh, .string sys, .int .i64 cls, .int .i64 tm, .slice lA lns.length lc, .int .i64 cn] 82) = Y := ⟨_, rfl⟩
          have BX : Blk Y7 wr.heap.size #[.string key, .string veh, .string sys, .int .i64 cls, .int .i64 tm, .slice lA lns.length lc, .int .i64 cn] 82 := by rw [← hY7]; exact Blk.new wr _ _
          have b7 : Below wr.heap.size wr Y7 := by rw [← hY7]; exact (Below.refl _ wr).al _
          have hsz7 : w6.heap.size ≤ wr.heap.size := bY.size
          have bY7 := bY.st b7
          have hown7 := hown.st b7
          have BI := HBI.out.below bY7 HBI.out.lt
          have i0 := BI.cell 0 (v := .int .i64 f) rfl
          have i1 := BI.cell 1 (v := .int .i64 t) rfl
          have x4 := BX.cell 4 (v := .int .i64 tm) rfl
          have x6 := BX.cell 6 (v := .int .i64 cn) rfl
          have hql : q.length ≤ 1000 := by have := HQL.out; omega
          have HIS : Hid (inT f t (⟨key, veh, sys, cls, tm, lns, cn⟩ : CV) = (decide (f ≤ tm) && decide (tm < t))) := Lib.hid rfl
          clear hx hi hb hown b7 bY
          by_cases q1 : f ≤ tm
          · by_cases q2 : tm < t
            · have R : Hid (q ++ [cn] = totL ((cvs r).take (k + 1)) f t) := Lib.hid (by rw [HT.out, HIS.out, ← HQ.out, decide_eq_true q1, decide_eq_true q2]; rfl)
              clear HT HQ HIS
              go_wp2_with (at_builtin; refine wpList_app1b rfl (.tmp 48) (.tmp 51) tyI encI_ok rfl (cn : Int) rfl _ rfl (by simp) hown7 rfl (by first | rfl | simp) (by first | omega | (simp; omega)) (by first | omega | (simp; omega)) (by first | exact bY7.size | (have := bY7.size; omega)) ?_; intro A8 c8 w8 hown8 hb8 hs8 hf8; have hbel8 := bY7.trans hb8)
              clear hown7 hb8 hf8
              go_wp2_with fail
              go_roundw
              case rel => exact ⟨k + 1, q ++ [cn], A8, c8, HK.out, by go_num, by simp, Lib.hid (by have := HQL.out; simp; omega), R, hown8, hbel8⟩
              case measure => have := HK.out; simp [RowKit.intOf]; omega
            · have R : Hid (q = totL ((cvs r).take (k + 1)) f t) := Lib.hid (by rw [HT.out, HIS.out, ← HQ.out, decide_eq_false q2]; simp)
              clear HT HQ HIS
              go_wp2_with fail
              go_roundw
              case rel => exact ⟨k + 1, q, _, _, HK.out, by go_num, rfl, Lib.hid (by have := HQL.out; omega), R, hown7, bY7⟩
              case measure => have := HK.out; simp [RowKit.intOf]; omega
          · have R : Hid (q = totL ((cvs r).take (k + 1)) f t) := Lib.hid (by rw [HT.out, HIS.out, ← HQ.out, decide_eq_false q1]; simp)
            clear HT HQ HIS
            go_wp2_with fail
            go_roundw
            case rel => exact ⟨k + 1, q, _, _, HK.out, by go_num, rfl, Lib.hid (by have := HQL.out; omega), R, hown7, bY7⟩
            case measure => have := HK.out; simp [RowKit.intOf]; omega
        · obtain rfl : k = r.length := by omega
          have R : q = totL (ofL (vals acs) nm (cvs l)) f t := by rw [HQ.out, List.take_of_length_le (Nat.le_of_eq (cvs_len r)), HRV.out]
          rw [← R] at HZ HE
          have CS := Lib.hid (msumx_any c' (hown.rd encI_ok) (by have := HQL.out; omega))
          have bW9 := bW6.st bY
          clear HQ R
          generalize sumV q = sv at *
          generalize sumE q = se at *
          go_wp2_with fail
          refine CS.out.mono ?_
          rintro e w9 ⟨rfl, hbn⟩
          go_wp2_with fail
          go_ret2
          exact ⟨by rw [HZ.out, HE.out]; rfl, bW9.st hbn⟩
end Go.Proofs.YtlnnbkpcnhlfcaaDoor
/- Days and their sums, in plain words. No program in sight. -/
namespace Go.Proofs.YtlnnbkpcnhlfcaaDoor

abbrev DI := Int × Int
def totD (it : List DI) (d : Int) : Int := (it.map fun p => if p.1 = d then p.2 else 0).sum
theorem totD_snoc (it : List DI) (d e c : Int) : totD (it ++ [(e, c)]) d = totD it d + if e = d then c else 0 := by simp [totD]
theorem totD_none {it : List DI} {d : Int} (h : ∀ c, (d, c) ∉ it) : totD it d = 0 := by
  induction it with
  | nil => rfl
  | cons p it ih =>
    have := ih fun c hc => h c (List.mem_cons_of_mem _ hc)
    unfold totD at *
    rw [List.map_cons, List.sum_cons, this, if_neg]
    · rfl
    · rintro rfl; exact h p.2 (List.mem_cons_self ..)
theorem totD_perm {it it2 : List DI} (h : it.Perm it2) (d : Int) : totD it d = totD it2 d := by
  unfold totD
  induction h with
  | nil => rfl
  | cons x _ ih => rw [List.map_cons, List.sum_cons, ih, List.map_cons, List.sum_cons]
  | swap x y l => simp only [List.map_cons, List.sum_cons]; omega
  | trans _ _ i1 i2 => exact i1.trans i2
/-- the days ascend, each with its sum -/
structure DaysR (it : List DI) (ds ss : List Int) : Prop where
  asc : ds.Pairwise (· < ·)
  len : ds.length = ss.length
  mem : ∀ d, d ∈ ds ↔ ∃ c, (d, c) ∈ it
  sum : ∀ (k : Nat) (d s : Int), ds[k]? = some d → ss[k]? = some s → s = totD it d
theorem DaysR.nil : DaysR [] [] [] := ⟨List.Pairwise.nil, rfl, by simp, by simp⟩
theorem DaysR.perm {it it2 : List DI} {ds ss : List Int} (h : DaysR it ds ss) (p : it.Perm it2) : DaysR it2 ds ss :=
  ⟨h.asc, h.len, fun d => (h.mem d).trans ⟨fun ⟨c, hc⟩ => ⟨c, p.mem_iff.1 hc⟩, fun ⟨c, hc⟩ => ⟨c, p.mem_iff.2 hc⟩⟩, fun k d s h1 h2 => (h.sum k d s h1 h2).trans (totD_perm p d)⟩
theorem asc_unique : ∀ {a b : List Int}, a.Pairwise (· < ·) → b.Pairwise (· < ·) → (∀ d, d ∈ a ↔ d ∈ b) → a = b := by
  intro a b ha hb h
  have na : a.Nodup := ha.imp fun {x y} q e => by omega
  have nb : b.Nodup := hb.imp fun {x y} q e => by omega
  refine List.Perm.eq_of_pairwise (le := fun x y : Int => x ≤ y) (fun x y _ _ h1 h2 => Int.le_antisymm h1 h2) (ha.imp fun {x y} q => by omega) (hb.imp fun {x y} q => by omega) ?_
  exact (List.perm_ext_iff_of_nodup na nb).2 h
theorem DaysR.unique {it : List DI} {ds ss ds2 ss2 : List Int} (h : DaysR it ds ss) (h2 : DaysR it ds2 ss2) : ds = ds2 ∧ ss = ss2 := by
  have e : ds = ds2 := asc_unique h.asc h2.asc fun d => (h.mem d).trans (h2.mem d).symm
  subst e
  refine ⟨rfl, List.ext_getElem? fun k => ?_⟩
  by_cases hk : k < ds.length
  · have l1 := h.len
    have l2 := h2.len
    have a1 := List.getElem?_eq_getElem (l := ss) (show k < ss.length by omega)
    have a2 := List.getElem?_eq_getElem (l := ss2) (show k < ss2.length by omega)
    have a0 := List.getElem?_eq_getElem hk
    rw [a1, a2, h.sum k _ _ a0 a1, h2.sum k _ _ a0 a2]
  · have l1 := h.len
    have l2 := h2.len
    rw [List.getElem?_eq_none (by omega), List.getElem?_eq_none (by omega)]
theorem asc_get {ds : List Int} (h : ds.Pairwise (· < ·)) {i k : Nat} {a b : Int} (hi : ds[i]? = some a) (hk : ds[k]? = some b) (hik : i ≠ k) : a ≠ b := by
  obtain ⟨h1, rfl⟩ := List.getElem?_eq_some_iff.1 hi
  obtain ⟨h2, rfl⟩ := List.getElem?_eq_some_iff.1 hk
  rw [List.pairwise_iff_getElem] at h
  rcases Nat.lt_or_gt_of_ne hik with q | q
  · have := h i k h1 h2 q; omega
  · have := h k i h2 h1 q; omega
/-- one more of a day that is there -/
theorem DaysR.add {it : List DI} {ds ss : List Int} {k : Nat} {d s : Int} (h : DaysR it ds ss) (hk : ds[k]? = some d) (hs : ss[k]? = some s) (c : Int) : DaysR (it ++ [(d, c)]) ds (ss.set k (s + c)) := by
  refine ⟨h.asc, by rw [List.length_set]; exact h.len, fun e => ?_, fun j e u hj hu => ?_⟩
  · rw [h.mem e]
    constructor
    · rintro ⟨x, hx⟩; exact ⟨x, List.mem_append_left _ hx⟩
    · rintro ⟨x, hx⟩
      rcases List.mem_append.1 hx with hx | hx
      · exact ⟨x, hx⟩
      · rw [List.mem_singleton] at hx
        injection hx with e1 e2
        subst e1
        exact (h.mem e).1 (List.mem_of_getElem? hk)
  · rw [totD_snoc]
    by_cases q : j = k
    · subst q
      rw [hk] at hj
      obtain rfl := Option.some.inj hj
      rw [List.getElem?_set_self (List.getElem?_eq_some_iff.1 hs).1] at hu
      rw [if_pos rfl, ← h.sum j _ _ hk hs]
      exact (Option.some.inj hu).symm
    · rw [List.getElem?_set_ne (by omega)] at hu
      rw [if_neg (asc_get h.asc hk hj (Ne.symm q)), ← h.sum j _ _ hj hu]; omega
/-- a new day at its place -/
theorem DaysR.ins {it : List DI} {ds ss : List Int} {k : Nat} {d : Int} (h : DaysR it ds ss) (hk : k ≤ ds.length) (h1 : ∀ x ∈ ds.take k, x < d) (h2 : ∀ x ∈ ds.drop k, d < x) (c : Int) :
    DaysR (it ++ [(d, c)]) (ds.take k ++ d :: ds.drop k) (ss.take k ++ c :: ss.drop k) := by
  have hl := h.len
  have hsp : ds = ds.take k ++ ds.drop k := (List.take_append_drop k ds).symm
  have hnd : d ∉ ds := fun q => by
    rw [hsp] at q
    rcases List.mem_append.1 q with q | q
    · have := h1 d q; omega
    · have := h2 d q; omega
  have ha : (ds.take k ++ ds.drop k).Pairwise (· < ·) := by rw [← hsp]; exact h.asc
  obtain ⟨a1, a2, a3⟩ := List.pairwise_append.1 ha
  refine ⟨?_, by simp [hl], fun e => ?_, fun j e u hj hu => ?_⟩
  · refine List.pairwise_append.2 ⟨a1, List.pairwise_cons.2 ⟨h2, a2⟩, fun x hx y hy => ?_⟩
    rcases List.mem_cons.1 hy with rfl | hy
    · exact h1 x hx
    · exact a3 x hx y hy
  · have : e ∈ ds.take k ++ d :: ds.drop k ↔ e = d ∨ e ∈ ds := by
      conv => rhs; rw [hsp]
      simp only [List.mem_append, List.mem_cons]
      constructor
      · rintro (q | q | q)
        · exact .inr (.inl q)
        · exact .inl q
        · exact .inr (.inr q)
      · rintro (q | q | q)
        · exact .inr (.inl q)
        · exact .inl q
        · exact .inr (.inr q)
    rw [this, h.mem e]
    constructor
    · rintro (rfl | ⟨x, hx⟩)
      · exact ⟨c, by simp⟩
      · exact ⟨x, List.mem_append_left _ hx⟩
    · rintro ⟨x, hx⟩
      rcases List.mem_append.1 hx with hx | hx
      · exact .inr ⟨x, hx⟩
      · rw [List.mem_singleton] at hx
        injection hx with e1 _
        exact .inl e1
  · rw [totD_snoc]
    have lt : (ds.take k).length = k := by rw [List.length_take]; omega
    have ls : (ss.take k).length = k := by rw [List.length_take]; omega
    by_cases q : j < k
    · rw [List.getElem?_append_left (by omega), List.getElem?_take, if_pos q] at hj hu
      have hne : d ≠ e := fun e1 => hnd (e1 ▸ List.mem_of_getElem? hj)
      rw [if_neg hne, ← h.sum j _ _ hj hu]; omega
    · rw [List.getElem?_append_right (by omega)] at hj hu
      rw [lt] at hj
      rw [ls] at hu
      cases hjk : j - k with
      | zero =>
        rw [hjk] at hj hu
        simp at hj hu
        subst hj hu
        rw [if_pos rfl, totD_none (fun x hx => hnd ((h.mem d).2 ⟨x, hx⟩))]; omega
      | succ m =>
        rw [hjk] at hj hu
        simp only [List.getElem?_cons_succ, List.getElem?_drop] at hj hu
        have hne : d ≠ e := fun e1 => hnd (e1 ▸ List.mem_of_getElem? hj)
        rw [if_neg hne, ← h.sum _ _ _ hj hu]; omega
/-- a new day at the end -/
theorem DaysR.snoc {it : List DI} {ds ss : List Int} {d : Int} (h : DaysR it ds ss) (h1 : ∀ x ∈ ds, x < d) (c : Int) : DaysR (it ++ [(d, c)]) (ds ++ [d]) (ss ++ [c]) := by
  have := h.ins (k := ds.length) (Nat.le_refl _) (by rwa [List.take_length]) (by simp) c
  rw [List.take_length, List.drop_length, h.len, List.take_length, List.drop_length] at this
  exact this
/-- a charge that Days counts -/
def dayB (x : CV) : Bool := decide (0 ≤ dayN x.tm) && fitsB x.ct
def itemL (cs : List CV) : List DI := (cs.filter dayB).map fun x => (dayN x.tm, x.ct)
theorem itemL_snoc (cs : List CV) (x : CV) : itemL (cs ++ [x]) = itemL cs ++ if dayB x = true then [(dayN x.tm, x.ct)] else [] := by
  unfold itemL
  rw [List.filter_append, List.map_append]
  congr 1
  cases h : dayB x <;> simp [List.filter_cons, h]
theorem totD_bnd {it : List DI} (h : ∀ p ∈ it, -1125899906842624 ≤ p.2 ∧ p.2 ≤ 1125899906842624) (d : Int) : -(1125899906842624 * (it.length : Int)) ≤ totD it d ∧ totD it d ≤ 1125899906842624 * (it.length : Int) := by
  induction it with
  | nil => simp [totD]
  | cons p it ih =>
    have a := h p (by simp)
    have b := ih fun q hq => h q (List.mem_cons_of_mem _ hq)
    unfold totD at *
    rw [List.map_cons, List.sum_cons, List.length_cons]
    split <;> omega
theorem itemL_fits {cs : List CV} : ∀ p ∈ itemL cs, -1125899906842624 ≤ p.2 ∧ p.2 ≤ 1125899906842624 := by
  intro p hp
  obtain ⟨x, hx, rfl⟩ := List.mem_map.1 hp
  have := (List.mem_filter.1 hx).2
  unfold dayB fitsB at this
  simp only [Bool.and_eq_true, decide_eq_true_eq] at this
  exact this.2
theorem itemL_len (cs : List CV) : (itemL cs).length ≤ cs.length := by unfold itemL; rw [List.length_map]; exact List.length_filter_le _ _
end Go.Proofs.YtlnnbkpcnhlfcaaDoor
