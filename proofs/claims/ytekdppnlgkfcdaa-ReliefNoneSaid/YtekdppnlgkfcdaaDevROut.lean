/- The reference's Outage, walked: the cuts, then the segments. -/
import Derived.Test.YtekdppnlgkfcdaaDevIns
import Derived.Test.YtekdppnlgkfcdaaJHas
import Derived.Test.YtekdppnlgkfcdaaDevRWorks
import Derived.Deep.RegionHeld3
import Derived.Deep.RegionWith
import Derived.Deep.DrawnRows
import Derived.IntWalk
namespace Go.Proofs.Ytekdppnlgkfcdaa
open Go.RowKit Go.Lib Go.Sort Go.Shelf

def noneB (r : List Dv) (t : Int) : Bool := tB t && !(r.any fun d => worksB d t)
theorem noneB_iff (r : List Dv) (t : Int) : noneB r t = true ↔ NoneAt r t := by
  unfold noneB NoneAt
  cases ht : tB t
  · have := tB_no ht
    simp only [Bool.false_and, Bool.false_eq_true, false_iff]
    rintro ⟨h, _⟩
    exact this h
  · have := tB_yes ht
    simp only [Bool.true_and, Bool.not_eq_true', List.any_eq_false]
    constructor
    · intro h
      refine ⟨this, fun d hd => ?_⟩
      have := h d hd
      unfold worksB at this
      rw [ht, Bool.true_and] at this
      rw [← hasB_iff]
      simpa using this
    · rintro ⟨_, h⟩ d hd
      have := (hasB_iff _ _).2 (h d hd)
      unfold worksB
      rw [ht, this]
      simp
theorem cuts_out {r : List Dv} {p : List Int} (hp : CutOk p) (he : ∀ d ∈ r, ∀ x ∈ d.ds, vld x → x.1 ∈ p ∧ x.2 ∈ p) : NF (segL (noneB r) p) ∧ ∀ t, Mem (segL (noneB r) p) t ↔ NoneAt r t := by
  refine segL_holds (noneB_iff r) hp.asc hp.all (fun t u htu hno => ?_) (by rintro ⟨h, _⟩; omega) (by rintro ⟨h, _⟩; omega)
  have k0 := hno 0 hp.lo
  have k1 := hno _ hp.hi
  have e : ∀ d ∈ r, (Mem d.ds t ↔ Mem d.ds u) := fun d hd => mem_const d.ds p (he d hd) t u htu hno
  unfold NoneAt
  constructor
  · rintro ⟨h, k⟩
    exact ⟨by omega, fun d hd => (e d hd).1 (k d hd)⟩
  · rintro ⟨h, k⟩
    exact ⟨by omega, fun d hd => (e d hd).2 (k d hd)⟩
theorem cuts0 : CutOk [0, 68719476736] := ⟨by simp, by simp, by simp, by simp⟩

/-- the segments that are done after k rounds -/
def segN (c : Int → Bool) (p : List Int) (k : Nat) : List Iv := ((segs p).take k).foldl (segStep c) []
theorem segN_succ {c : Int → Bool} {p : List Int} {k : Nat} {x y : Int} (hx : p[k]? = some x) (hy : p[k + 1]? = some y) : segN c p (k + 1) = segStep c (segN c p k) (x, y) := by
  unfold segN
  rw [take_snoc (segs_get p k x y hx hy), List.foldl_append]
  rfl
theorem segN_length (c : Int → Bool) (p : List Int) (k : Nat) : (segN c p k).length ≤ k := by
  have key : ∀ (l out : List Iv), (l.foldl (segStep c) out).length ≤ out.length + l.length := by
    intro l
    induction l with
    | nil => intro out; simp
    | cons x l ih =>
      intro out
      rw [List.foldl_cons]
      have := ih (segStep c out x)
      have := segStep_length c out x
      simp only [List.length_cons]
      omega
  have := key ((segs p).take k) []
  have h2 : ((segs p).take k).length ≤ k := List.length_take_le _ _
  simp only [List.length_nil] at this
  unfold segN
  omega
theorem segN_all (c : Int → Bool) (p : List Int) {k : Nat} (h : p.length ≤ k + 1) : segN c p k = segL c p := by
  unfold segN segL
  rw [List.take_of_length_le (by rw [segs_length]; omega)]
theorem Rd.ints {w : World} {B : Nat} {A : Option Addr} {l : List Int} (h : Rd encI 1 w B A l) {i : Nat} (hi : i + 1 < l.length) :
    ∃ b off x y, A = some ⟨b, off, none⟩ ∧ b < B ∧ l[i]? = some x ∧ l[i + 1]? = some y ∧ w.cell? ⟨b, off + i, none⟩ = some (.int .i64 x) ∧ w.cell? ⟨b, off + (i + 1), none⟩ = some (.int .i64 y) := by
  obtain ⟨b, off, x, hA, hb, hx, hc⟩ := h.i (show i < l.length by omega)
  obtain ⟨b', off', y, hA', hb', hy, hc'⟩ := h.i hi
  rw [hA] at hA'
  injection hA' with e
  injection e with e1 e2
  subst e1 e2
  exact ⟨b, off, x, y, hA, hb, hx, hy, hc, hc'⟩
theorem any_snoc {α : Type} {l : List α} {k : Nat} {x : α} (p : α → Bool) (hx : l[k]? = some x) : (l.take (k + 1)).any p = ((l.take k).any p || p x) := by
  rw [take_snoc hx]; simp

set_option maxRecDepth 100000 in
set_option maxHeartbeats 16000000 in
theorem rout_any {A : Option Addr} (c : Nat) {l : List Dv} (pt : ByteArray) (kd : Int) {w : World} (h : Rd encD 6 w w.heap.size A l) (hz : DsOk w l) (hl : l.length ≤ 60) (hd : ∀ d ∈ l, d.ds.length ≤ 40) :
    Calls Try.prog 48 #[.slice A l.length c, .string pt, .int .i64 kd] w fun e w' => ∃ r, AtOf pt kd l r ∧ NFr (NoneAt r) w w' e := by
  have CA := Lib.hid (rat_any c pt kd h (by omega))
  have HSM : Hid (∀ r, AtOf pt kd l r → (∀ d ∈ r, d ∈ l) → r.length ≤ 60 ∧ ∀ d ∈ r, d.ds.length ≤ 40) := by
    intro r hr hm
    have := hr.perm.length_eq
    simp only [List.length_map] at this
    have := List.length_filter_le (selB pt kd) l
    exact ⟨by omega, fun d hd' => hd d (hm d hd')⟩
  have HZ := Lib.hid hz
  clear h hz hd
  go_enter Try.func48, Try.ntmps48
  go_wp2_with fail
  refine CA.out.mono ?_
  rintro e w1 ⟨A1, c1, r, rfl, hro, hmem, hat, hb1⟩
  have HAT := Lib.hid hat
  obtain ⟨hrl, hrs⟩ := HSM.out r hat hmem
  have HRS := Lib.hid hrs
  have HRD := Lib.hid (fun d hd => (HZ.out d (hmem d hd)).st hb1)
  have HRO := Lib.hid (hro.rd encD_ok)
  have hcut0 : Own 3 encI 1 (w1.alloc (.cells #[.int .i64 0, .int .i64 68719476736] 3)) w1.heap.size (some ⟨w1.heap.size, 0, none⟩) 2 [0, 68719476736] := Own.lit (e := 3) (cs := #[.int .i64 0, .int .i64 68719476736]) w1 w1.heap.size [0, 68719476736] encI_ok rfl rfl (Nat.le_refl _) (by simp)
  have hbE := (Below.refl w1.heap.size w1).al (.cells #[.int .i64 0, .int .i64 68719476736] 3)
  clear hat hrs hro CA HSM HZ hmem
  obtain ⟨wE, hwE⟩ : ∃ wE, wE = w1 := ⟨_, rfl⟩
  rw [← hwE] at HRD HRO hb1 hcut0 hbE ⊢
  clear hwE
  go_wp2_with fail
  go_loopw [8, 9] (fun v i wr => ∃ (k : Nat) (Ac : Option Addr) (cc : Nat) (p : List Int), k ≤ r.length ∧ i = .int .i64 k ∧ v = .slice Ac p.length cc ∧ p.length ≤ 2 + 80 * k ∧ Hid (CutOk p) ∧ Hid (∀ d ∈ r.take k, ∀ x ∈ d.ds, vld x → x.1 ∈ p ∧ x.2 ∈ p) ∧ Own 3 encI 1 wr wE.heap.size Ac cc p ∧ Below wE.heap.size wE wr) (fun _ i _ => r.length - (intOf i).toNat)
  case atStart => exact ⟨0, some ⟨wE.heap.size, 0, none⟩, 2, [0, 68719476736], Nat.zero_le _, rfl, rfl, by simp, cuts0, (by unfold Hid; simp), hcut0, hbE⟩
  case round =>
    clear hcut0 hbE
    obtain ⟨k, Ac, cc, p, hk, rfl, rfl, hpl, HC, HE, hown, hbr⟩ := hrel
    by_cases hlt : k < r.length
    · obtain ⟨b, off, d, rfl, hg, hx, d0, d1, d2, d3, d4, d5⟩ := HRO.out.d hlt
      have hmem := List.mem_of_getElem? hx
      have HDZ := Lib.hid (HRD.out d hmem).2
      have hdl := HRS.out d hmem
      have HEn : Hid (∀ p' : List Int, (∀ x ∈ p, x ∈ p') → (∀ x ∈ d.ds, vld x → x.1 ∈ p' ∧ x.2 ∈ p') → ∀ d' ∈ r.take (k + 1), ∀ x ∈ d'.ds, vld x → x.1 ∈ p' ∧ x.2 ∈ p') := by
        intro p' h1 h2 d' hd' x hx' hv
        rw [take_snoc hx, List.mem_append] at hd'
        rcases hd' with hd' | hd'
        · have := HE.out d' hd' x hx' hv
          exact ⟨h1 _ this.1, h1 _ this.2⟩
        · simp only [List.mem_singleton] at hd'
          subst hd'
          exact h2 x hx' hv
      have hk1 : (0 : Int) ≤ (k : Int) := by omega
      have hk2 : (k : Int) < (r.length : Int) := by omega
      have HLT := Lib.hid hlt
      obtain ⟨wo, rfl⟩ : ∃ wo, wo = wr := ⟨_, rfl⟩
      clear hx hmem HE HRO HRD HRS d0 d1 d2 d3 d4
      obtain ⟨nm, pt1, kd1, ln, oA, oc, os, dA, dc, ds⟩ := d
      simp only at *
      go_wp2_with fail
      go_loopw [8, 10] (fun v i wr => ∃ (j : Nat) (A' : Option Addr) (c' : Nat) (q : List Int), j ≤ ds.length ∧ i = .int .i64 j ∧ v = .slice A' q.length c' ∧ q.length ≤ 2 + 80 * k + 2 * j ∧ Hid (CutOk q) ∧ Hid (∀ x ∈ p, x ∈ q) ∧ Hid (∀ x ∈ ds.take j, vld x → x.1 ∈ q ∧ x.2 ∈ q) ∧ Own 3 encI 1 wr wE.heap.size A' c' q ∧ Below wE.heap.size wE wr) (fun _ i _ => ds.length - (intOf i).toNat)
      case atStart => exact ⟨0, Ac, cc, p, Nat.zero_le _, rfl, rfl, by omega, HC, (fun x hx => hx), (by unfold Hid; simp), hown, hbr⟩
      case round =>
        clear hown hbr
        obtain ⟨j, A', c', q, hj, rfl, rfl, hql, HC2, HP2, HE2, hown, hbr⟩ := hrel
        have e5 := (hbr.cell (p := ⟨b, off + k * 6 + 5, none⟩) hg).trans d5
        have hgr : b < wr.heap.size := Nat.lt_of_lt_of_le hg hbr.size
        by_cases hjl : j < ds.length
        · obtain ⟨b', off', f, u, hA', hg', hy, g0, g1⟩ := HDZ.out.iv hjl
          subst hA'
          have e0 := (hbr.cell (p := ⟨b', off' + j * 2, none⟩) hg').trans g0
          have e1 := (hbr.cell (p := ⟨b', off' + j * 2 + 1, none⟩) hg').trans g1
          have hgr' : b' < wr.heap.size := Nat.lt_of_lt_of_le hg' hbr.size
          have CS := Lib.hid (rspan_any f u wr)
          have hj1 : (0 : Int) ≤ (j : Int) := by omega
          have hj2 : (j : Int) < (ds.length : Int) := by omega
          have HJ := Lib.hid hjl
          have hbr2 := hbr.alloc hbr.size (.cells #[.int .i64 f, .int .i64 u] 84)
          have hown2 := hown.alloc (.cells #[.int .i64 f, .int .i64 u] 84)
          have HT := Lib.hid (take_snoc hy)
          clear hy g0 g1 hjl
          cases hv : validB f u
          · have HE3 : Hid (∀ x ∈ ds.take (j + 1), vld x → x.1 ∈ q ∧ x.2 ∈ q) := by
              intro x hx hvx
              rw [HT.out, List.mem_append] at hx
              rcases hx with hx | hx
              · exact HE2.out x hx hvx
              · simp only [List.mem_singleton] at hx
                subst hx
                have := (validB_iff f u).2 hvx
                rw [hv] at this; cases this
            rw [hv] at CS
            clear HT hv
            go_wp2_with fail
            refine CS.out.mono ?_
            rintro e w2 ⟨rfl, rfl⟩
            go_wp2
            go_roundw
            case rel => exact ⟨j + 1, A', c', q, HJ.out, by go_num, rfl, by omega, HC2, HP2, HE3, hown2, hbr2⟩
            case measure => have := HJ.out; simp [intOf]; omega
          · have hvl := (validB_iff f u).1 hv
            have hv1 : 0 ≤ f := hvl.1
            have hv2 : f < u := hvl.2.1
            have hv3 : u ≤ 68719476736 := hvl.2.2
            have HE3 : Hid (∀ q2 : List Int, (∀ x, x ∈ q2 ↔ (x ∈ q ∨ x = f) ∨ x = u) → (∀ x ∈ p, x ∈ q2) ∧ ∀ x ∈ ds.take (j + 1), vld x → x.1 ∈ q2 ∧ x.2 ∈ q2) := by
              intro q2 hq2
              refine ⟨fun x hx => (hq2 x).2 (.inl (.inl (HP2.out x hx))), fun x hx hvx => ?_⟩
              rw [HT.out, List.mem_append] at hx
              rcases hx with hx | hx
              · have := HE2.out x hx hvx
                exact ⟨(hq2 _).2 (.inl (.inl this.1)), (hq2 _).2 (.inl (.inl this.2))⟩
              · simp only [List.mem_singleton] at hx
                subst hx
                exact ⟨(hq2 _).2 (.inl (.inr rfl)), (hq2 _).2 (.inr rfl)⟩
            rw [hv] at CS
            clear HT hv hvl HP2 HE2
            go_wp2_with fail
            refine CS.out.mono ?_
            rintro e w2 ⟨rfl, rfl⟩
            go_wp2_with fail
            have e5' := (World.cell?_alloc_lt wr (.cells #[.int .i64 f, .int .i64 u] 84) ⟨b, off + k * 6 + 5, none⟩ hgr).trans e5
            have e0' := (World.cell?_alloc_lt wr (.cells #[.int .i64 f, .int .i64 u] 84) ⟨b', off' + j * 2, none⟩ hgr').trans e0
            have e1' := (World.cell?_alloc_lt wr (.cells #[.int .i64 f, .int .i64 u] 84) ⟨b', off' + j * 2 + 1, none⟩ hgr').trans e1
            have hgq : b < (wr.alloc (.cells #[.int .i64 f, .int .i64 u] 84)).heap.size := by simp; omega
            have hgq' : b' < (wr.alloc (.cells #[.int .i64 f, .int .i64 u] 84)).heap.size := by simp; omega
            clear e5 e0 e1 hown hbr hgr hgr' CS
            generalize wr.alloc (.cells #[.int .i64 f, .int .i64 u] 84) = wq at *
            have C1 := Lib.hid (rins_any c' f (w := wq.drew) hown2 hbr2.size HC2.out hv1 (by omega) (by omega))
            have C2 := Lib.hid (fun (X : World) (A3 : Option Addr) (c3 : Nat) (q3 : List Int) (ho : Own 3 encI 1 X wE.heap.size A3 c3 q3) (hX : wE.heap.size ≤ X.heap.size) (hc : CutOk q3) (hl : q3.length ≤ q.length + 1) => rins_any c3 u ho hX hc (by omega : 0 ≤ u) hv3 (by omega))
            have hszq : wE.heap.size ≤ wq.drew.heap.size := hbr2.size
            clear hv1 hv2 hv3 HC2
            go_region_held3 (fun w' => w'.cell? ⟨b, off + k * 6 + 5, none⟩ = some (.slice (some ⟨b', off', none⟩) ds.length dc) ∧ w'.cell? ⟨b', off' + j * 2, none⟩ = some (.int .i64 f) ∧ w'.cell? ⟨b', off' + j * 2 + 1, none⟩ = some (.int .i64 u)) (go_keep) (first | (go_at_call 65; (with_reducible refine C1.out.mono ?_); rintro e w3 ⟨A3, c3, q3, rfl, hown3, hc3, hm3, hl3, hb3⟩; have r5 := (hb3.cell (p := ⟨b, off + k * 6 + 5, none⟩) hgq).trans e5'; have r0 := (hb3.cell (p := ⟨b', off' + j * 2, none⟩) hgq').trans e0'; have r1 := (hb3.cell (p := ⟨b', off' + j * 2 + 1, none⟩) hgq').trans e1') | (go_at_call 65; (with_reducible refine (C2.out w3 A3 c3 q3 hown3 (Nat.le_trans hszq hb3.size) hc3 hl3).mono ?_); rintro e w4 ⟨A4, c4, q4, rfl, hown4, hc4, hm4, hl4, hb4⟩; have s5 := (hb4.cell (p := ⟨b, off + k * 6 + 5, none⟩) (Nat.lt_of_lt_of_le hgq hb3.size)).trans r5; have s0 := (hb4.cell (p := ⟨b', off' + j * 2, none⟩) (Nat.lt_of_lt_of_le hgq' hb3.size)).trans r0; have s1 := (hb4.cell (p := ⟨b', off' + j * 2 + 1, none⟩) (Nat.lt_of_lt_of_le hgq' hb3.size)).trans r1))
            have HQ := Lib.hid (HE3.out q4 (fun x => by rw [hm4, hm3]))
            have HC4 := Lib.hid hc4
            have hbr4 := (hbr2.drew.trans (hb3.mono hszq)).trans (hb4.mono (Nat.le_trans hszq hb3.size))
            clear HE3 hm3 hm4 hc3 hc4 C1 C2
            go_wp2
            go_roundw
            case rel => exact ⟨j + 1, A4, c4, q4, HJ.out, by go_num, by simp, by omega, HC4, HQ.out.1, HQ.out.2, hown4, hbr4⟩
            case measure => have := HJ.out; simp [intOf]; omega
        · obtain rfl : j = ds.length := by omega
          have HEE : Hid (∀ d' ∈ r.take (k + 1), ∀ x ∈ d'.ds, vld x → x.1 ∈ q ∧ x.2 ∈ q) := HEn.out q HP2.out (by have := HE2.out; rwa [List.take_length] at this)
          clear HEn HP2 HE2 HDZ
          go_wp2
          go_roundw
          case rel => exact ⟨k + 1, A', c', q, HLT.out, by go_num, rfl, by omega, HC2, HEE, hown, hbr⟩
          case measure => have := HLT.out; simp [intOf]; omega
    · obtain rfl : k = r.length := by omega
      have HOUT := Lib.hid (cuts_out HC.out (show ∀ d ∈ r, ∀ x ∈ d.ds, vld x → x.1 ∈ p ∧ x.2 ∈ p by have := HE.out; rwa [List.take_length] at this))
      have HTB : Hid (∀ k x y, p[k]? = some x → p[k + 1]? = some y → tB x = true) := by
        intro k x y h1 h2
        have hx := HC.out.all x (List.mem_of_getElem? h1)
        have hy := HC.out.all y (List.mem_of_getElem? h2)
        have hxy : x < y := by
          obtain ⟨i1, rfl⟩ := List.getElem?_eq_some_iff.1 h1
          obtain ⟨i2, rfl⟩ := List.getElem?_eq_some_iff.1 h2
          exact List.pairwise_iff_getElem.1 HC.out.asc k (k + 1) i1 i2 (by omega)
        unfold tB
        rw [decide_eq_true_eq]
        omega
      clear HE HC
      obtain ⟨wC, hwC⟩ : ∃ wC, wC = wr := ⟨_, rfl⟩
      have hr2 := hown.rd encI_ok
      have HRO2 := Lib.hid (HRO.out.st hbr)
      have HRD2 := Lib.hid (fun d hd => (HRD.out d hd).st hbr)
      have hbel := hb1.st hbr
      rw [← hwC] at hr2 HRO2 HRD2 hbel ⊢
      clear hwC hown HRO HRD hb1 hbr
      go_wp2_with fail
      go_loopw [11, 12] (fun v i wr => ∃ (k : Nat) (A' : Option Addr) (c' : Nat) (o : List Iv), (k + 1 ≤ p.length ∨ k = 0) ∧ i = .int .i64 k ∧ Hid (segN (noneB r) p k = o) ∧ v = .slice A' o.length c' ∧ Own 84 encIv 2 wr wC.heap.size A' c' o ∧ Below wC.heap.size wC wr) (fun _ i _ => p.length - (intOf i).toNat)
      case atStart => exact ⟨0, none, 0, [], .inr rfl, rfl, rfl, rfl, Own.nil _ _, Below.refl _ _⟩
      case round =>
        obtain ⟨k, A', c', o, hk, rfl, HO, rfl, hown, hbr⟩ := hrel
        have hol : o.length ≤ k := by rw [← HO.out]; exact segN_length _ _ _
        by_cases hlt : k + 1 < p.length
        · obtain ⟨g, off, x, y, rfl, hg, hx, hy, hc0, hc1⟩ := hr2.ints hlt
          have hst : segN (noneB r) p (k + 1) = segStep (noneB r) o (x, y) := by rw [segN_succ hx hy, HO.out]
          have HN := Lib.hid (show noneB r x = !(r.any fun d => worksB d x) by unfold noneB; rw [HTB.out k x y hx hy]; rfl)
          have HST := Lib.hid hst
          have HR := Lib.hid hr2
          have hk1 : (0 : Int) ≤ (k : Int) := by omega
          have hk2 : (k : Int) < (p.length : Int) := by omega
          have hdl : decide ((k : Int) + 1 < (p.length : Int)) = true := decide_eq_true (by omega)
          have hwk : IntKind.i64.wrap ((k : Int) + 1) = (k : Int) + 1 := IntWalk.i64_in _ (by omega)
          clear hx hy hr2 hk hst HTB
          obtain ⟨wo, rfl⟩ : ∃ wo, wo = wr := ⟨_, rfl⟩
          go_wp2_with fail
          go_loopw [13, 14] (fun v i wr => ∃ (j : Nat) (q : Bool), j ≤ r.length ∧ i = .int .i64 j ∧ v = .bool q ∧ Hid ((r.take j).any (fun d => worksB d x) = q) ∧ Below wo.heap.size wo wr) (fun _ i _ => r.length - (intOf i).toNat)
          case atStart => exact ⟨0, false, Nat.zero_le _, rfl, rfl, rfl, Below.refl _ _⟩
          case round =>
            obtain ⟨j, q, hj, rfl, rfl, HQ, hb3⟩ := hrel
            by_cases hjl : j < r.length
            · obtain ⟨b, off2, d, rfl, hg2, hx, d0, d1, d2, d3, d4, d5⟩ := (HRO2.out.st (hbr.st hb3)).d hjl
              have HA := Lib.hid (any_snoc (fun d => worksB d x) hx)
              have hj1 : (0 : Int) ≤ (j : Int) := by omega
              have hj2 : (j : Int) < (r.length : Int) := by omega
              have hok := (HRD2.out d (List.mem_of_getElem? hx)).st (hbr.st hb3)
              have hdl := HRS.out d (List.mem_of_getElem? hx)
              have CW := Lib.hid (fun (X : World) (hX : Below wr.heap.size wr X) => rworks_any d x (hok.st hX) (by omega))
              have HJ := Lib.hid hjl
              have f0 := ((hbr.st hb3).cell (p := ⟨g, off + k, none⟩) hg).trans hc0
              clear hx hok
              obtain ⟨nm, pt1, kd1, ln, oA, oc, os, dA, dc, ds⟩ := d
              simp only [DV] at *
              cases q
              · have HA2 := Lib.hid (show (r.take (j + 1)).any (fun d => worksB d x) = worksB ⟨nm, pt1, kd1, ln, oA, oc, os, dA, dc, ds⟩ x by rw [HA.out, HQ.out]; rfl)
                generalize worksB ⟨nm, pt1, kd1, ln, oA, oc, os, dA, dc, ds⟩ x = q2 at *
                clear HA HQ
                have bW := Below.refl wr.heap.size wr
                have hgw : g < wr.heap.size := Nat.lt_of_lt_of_le hg (hbr.st hb3).size
                go_wp2_with fail
                go_region_held3 (fun w' => w'.cell? ⟨g, off + k, none⟩ = some (.int .i64 x) ∧ w'.cell? ⟨b, off2 + j * 6, none⟩ = some (.string nm) ∧ w'.cell? ⟨b, off2 + j * 6 + 1, none⟩ = some (.string pt1) ∧ w'.cell? ⟨b, off2 + j * 6 + 2, none⟩ = some (.int .i64 kd1) ∧ w'.cell? ⟨b, off2 + j * 6 + 3, none⟩ = some (.int .i64 ln) ∧ w'.cell? ⟨b, off2 + j * 6 + 4, none⟩ = some (.slice oA os.length oc) ∧ w'.cell? ⟨b, off2 + j * 6 + 5, none⟩ = some (.slice dA ds.length dc)) (go_keep) ((go_at_call 66; (with_reducible refine (CW.out _ (by first | exact bW | exact bW.drew)).mono ?_); rintro e wn ⟨rfl, hbn⟩; (first | have bN : Below wr.heap.size wr wn := hbn | have bN : Below wr.heap.size wr wn := bW.drew.st hbn); have f1 := (bN.cell (p := ⟨g, off + k, none⟩) hgw).trans f0; have v0 := (bN.cell (p := ⟨b, off2 + j * 6, none⟩) hg2).trans d0; have v1 := (bN.cell (p := ⟨b, off2 + j * 6 + 1, none⟩) hg2).trans d1; have v2 := (bN.cell (p := ⟨b, off2 + j * 6 + 2, none⟩) hg2).trans d2; have v3 := (bN.cell (p := ⟨b, off2 + j * 6 + 3, none⟩) hg2).trans d3; have v4 := (bN.cell (p := ⟨b, off2 + j * 6 + 4, none⟩) hg2).trans d4; have v5 := (bN.cell (p := ⟨b, off2 + j * 6 + 5, none⟩) hg2).trans d5))
                all_goals
                  go_wp2
                  go_roundw
                  case rel => exact ⟨j + 1, q2, HJ.out, by go_num, rfl, HA2, by first | exact hb3.st bN | exact (hb3.st bN).drew⟩
                  case measure => have := HJ.out; simp [intOf]; omega
              · have HA2 := Lib.hid (show (r.take (j + 1)).any (fun d => worksB d x) = true by rw [HA.out, HQ.out]; rfl)
                clear HA HQ CW
                go_wp2_with fail
                go_quiet (fail)
                go_wp2
                go_roundw
                case rel => exact ⟨j + 1, true, HJ.out, by go_num, rfl, HA2, below_drewN hb3 _⟩
                case measure => have := HJ.out; simp [intOf]; omega
            · obtain rfl : j = r.length := by omega
              have HN2 := Lib.hid (show noneB r x = !q by rw [HN.out]; have := HQ.out; rw [List.take_length] at this; rw [this])
              have hown3 := hown.st hb3
              have hb4 := hbr.st hb3
              have hc2 := (hb4.cell (p := ⟨g, off + k, none⟩) hg).trans hc0
              have hc3 := (hb4.cell (p := ⟨g, off + (k + 1), none⟩) hg).trans hc1
              have hg4 : g < wr.heap.size := Nat.lt_of_lt_of_le hg hb4.size
              clear HN HQ hown hbr hb3 hc0 hc1 HRO2 HRD2 HRS
              cases q
              · have hi : noneB r x = true := HN2.out
                rcases snoc_cases o with rfl | ⟨q, z, rfl⟩
                · have R := Lib.hid (show segN (noneB r) p (k + 1) = [(x, y)] by rw [HST.out]; simp [segStep, hi])
                  clear HST hi HN2
                  go_wp2_with fail
                  go_quiet (fail)
                  go_wp2
                  have hown4 := hown3.drewN nq
                  have hb5 := below_drewN hb4 nq
                  have hk3 : (0 : Int) ≤ (k : Int) + 1 := by omega
                  have hk4 : (k : Int) + 1 < (p.length : Int) := by omega
                  have hc4 : (wr.drewN nq).cell? ⟨g, off + k, none⟩ = some (.int .i64 x) := hc2
                  have hc5 : (wr.drewN nq).cell? ⟨g, off + (k + 1), none⟩ = some (.int .i64 y) := hc3
                  have hbq : wC.heap.size ≤ (wr.drewN nq).heap.size := hb5.size
                  have hgq : g < (wr.drewN nq).heap.size := Nat.lt_of_lt_of_le hg hb5.size
                  have hw1 : IntKind.i64.wrap ((k : Int) + 1) = (k : Int) + 1 := IntWalk.i64_in _ (by omega)
                  have hw2 : ((k : Int) + 1).toNat = k + 1 := by omega
                  clear hown3 hb4 hc2 hc3 hg4
                  generalize wr.drewN nq = wq at *
                  go_region_held3 (fun w' => w'.cell? ⟨g, off + k, none⟩ = some (.int .i64 x) ∧ w'.cell? ⟨g, off + (k + 1), none⟩ = some (.int .i64 y)) (go_keep) ((refine step_app1 (l := ([] : List Iv)) rfl (.tmp 120) (.tmp 131) tyIv encIv_ok (by rfl) ((x, y) : Iv) (by rfl) wC.heap.size (by rfl) (by first | rfl | simp) (by exact (hown4.alloc _)) (by rfl) (by first | exact heap_alloc_new _ _ | exact heap_alloc_new' _ _ _ (by simp)) (by first | omega | (simp; done) | (simp; omega)) (by first | omega | (simp; done) | (simp; omega)) (by have := hb5.size; simp; omega) ?_; intro A9 c9 w9 hown9 hb9 hs9 hf9; have hbel9 := (hb5.alloc hb5.size _).drew.trans hb9; have q0 := (hb9.cell (p := ⟨g, off + k, none⟩) hg).trans ((World.cell?_alloc_lt wq.drew _ ⟨g, off + k, none⟩ hgq).trans hc4); have q1 := (hb9.cell (p := ⟨g, off + (k + 1), none⟩) hg).trans ((World.cell?_alloc_lt wq.drew _ ⟨g, off + (k + 1), none⟩ hgq).trans hc5)))
                  clear hw1 hw2
                  go_wp2
                  go_roundw
                  case rel => exact ⟨k + 1, A9, c9, _, .inl hlt, by go_num, R, by simp, hown9, hbel9⟩
                  case measure => simp [intOf]; omega
                · obtain ⟨hA, h0, _⟩ | ⟨g', hA, hg1, hg2⟩ := hown3.form
                  · simp at h0
                  · subst hA
                    have hz1 := hown3.cells encIv_ok rfl (i := q.length) (x := z) (by simp) (j := 1) (u := .int .i64 z.2) rfl
                    have hz2 := hown3.frozen rfl (q.length * 2 + 1)
                    have hql : q.length ≤ 100000000000 := by simp at hol; omega
                    by_cases he : z.2 = x
                    · have hq : ((z.2 : Int) == x) = true := by simpa using he
                      have R := Lib.hid (show segN (noneB r) p (k + 1) = q ++ [(z.1, y)] by rw [HST.out, segStep_snoc _ _ _ _ hi, if_pos he])
                      have HX := Lib.hid he
                      clear HST he hi HN2
                      go_wp2_with fail
                      go_quiet (fail)
                      have hown4 := (hown3.drewN nq).stored encIv_ok (g := g') (i := q.length) (j := 1) (x := z) (y := (z.1, y)) (u := .int .i64 y) rfl (by simp) (by omega) rfl
                      have hb5 := (below_drewN hb4 nq).setCell (p := ⟨g', q.length * 2 + 1, none⟩) hg1 (.int .i64 y)
                      have hset : (q ++ [z]).set q.length (z.1, y) = q ++ [(z.1, y)] := by simp
                      rw [hset] at hown4
                      clear hset hown3
                      go_wp2
                      go_roundw
                      case rel => exact ⟨k + 1, _, _, _, .inl hlt, by go_num, R, by simp, hown4, hb5⟩
                      case measure => simp [intOf]; omega
                    · have hq : ((z.2 : Int) == x) = false := by simpa using he
                      have R := Lib.hid (show segN (noneB r) p (k + 1) = q ++ [z] ++ [(x, y)] by rw [HST.out, segStep_snoc _ _ _ _ hi, if_neg he])
                      clear HST hi HN2
                      go_wp2_with fail
                      go_quiet (fail)
                      go_wp2
                      have hown4 := hown3.drewN nq
                      have hb5 := below_drewN hb4 nq
                      have hk3 : (0 : Int) ≤ (k : Int) + 1 := by omega
                      have hk4 : (k : Int) + 1 < (p.length : Int) := by omega
                      have hc4 : (wr.drewN nq).cell? ⟨g, off + k, none⟩ = some (.int .i64 x) := hc2
                      have hc5 : (wr.drewN nq).cell? ⟨g, off + (k + 1), none⟩ = some (.int .i64 y) := hc3
                      have hgq : g < (wr.drewN nq).heap.size := Nat.lt_of_lt_of_le hg hb5.size
                      have hw1 : IntKind.i64.wrap ((k : Int) + 1) = (k : Int) + 1 := IntWalk.i64_in _ (by omega)
                      have hw2 : ((k : Int) + 1).toNat = k + 1 := by omega
                      clear hown3 hb4 hc2 hc3 hg4 hz1
                      generalize wr.drewN nq = wq at *
                      go_region_held3 (fun w' => w'.cell? ⟨g, off + k, none⟩ = some (.int .i64 x) ∧ w'.cell? ⟨g, off + (k + 1), none⟩ = some (.int .i64 y)) (go_keep) ((refine step_app1 (l := q ++ [z]) rfl (.tmp 120) (.tmp 131) tyIv encIv_ok (by rfl) ((x, y) : Iv) (by rfl) wC.heap.size (by rfl) (by first | rfl | simp) (by exact (hown4.alloc _)) (by rfl) (by first | exact heap_alloc_new _ _ | exact heap_alloc_new' _ _ _ (by simp)) (by first | omega | (simp; done) | (simp; omega)) (by first | omega | (simp; done) | (simp; omega)) (by have := hb5.size; simp; omega) ?_; intro A9 c9 w9 hown9 hb9 hs9 hf9; have hbel9 := (hb5.alloc hb5.size _).drew.trans hb9; have q0 := (hb9.cell (p := ⟨g, off + k, none⟩) hg).trans ((World.cell?_alloc_lt wq.drew _ ⟨g, off + k, none⟩ hgq).trans hc4); have q1 := (hb9.cell (p := ⟨g, off + (k + 1), none⟩) hg).trans ((World.cell?_alloc_lt wq.drew _ ⟨g, off + (k + 1), none⟩ hgq).trans hc5)))
                      clear hw1 hw2
                      go_wp2
                      go_roundw
                      case rel => exact ⟨k + 1, A9, c9, _, .inl hlt, by go_num, R, by simp, hown9, hbel9⟩
                      case measure => simp [intOf]; omega
              · have R := Lib.hid (show segN (noneB r) p (k + 1) = o by rw [HST.out, segStep_no _ _ _ HN2.out])
                clear HST HN2
                go_wp2
                go_roundw
                case rel => exact ⟨k + 1, A', c', o, .inl hlt, by go_num, R, rfl, hown3, hb4⟩
                case measure => simp [intOf]; omega
        · have R := Lib.hid (show segL (noneB r) p = o by rw [← HO.out]; exact (segN_all _ _ (by omega)).symm)
          have hp1 : (k : Int) + 1 < (p.length : Int) → False := by omega
          clear HO hr2
          go_wp2
          go_ret
          exact ⟨r, HAT.out, A', c', o, rfl, by rw [← R.out]; exact HOUT.out.1, by rw [← R.out]; exact HOUT.out.2, hown.mono hbel.size, hbel.st hbr⟩
end Go.Proofs.Ytekdppnlgkfcdaa
