/- Joined texts: TrpLeastM, TrpStr. -/
import Derived.Test.YtcpfiiapfggmpaaGreatTrpR
import Derived.Test.YtcpfiiapfggmpaaGreatJPrcBase
import Derived.Test.YtcpfiiapfggmpaaGreatTarTrip
import Derived.Test.YtcpfiiapfggmpaaGreatJSpanMath
import Derived.Test.YtcpfiiapfggmpaaGreatProg
/- No permitted combination of discounts is better; the charge is valid: in plain words. No program in sight. -/
namespace Go.Proofs.YtcpfiiapfggmpaaGreat
open Go.RowKit Go.Lib

/-- what a charge that is returned says -/
structure Paid (dcs : List Dc) (xy : ByteArray) (cl er : Int) (s0 : Stp) (n p : Int) (v : CV) (b : List Nat) : Prop where
  best : BestR (appL xy cl s0.t er dcs) p b
  ct : v.ct = p - red (appL xy cl s0.t er dcs) p b
  ck : chkE v = 0
theorem TripR.paid {ts : List Ta} {qs : List Int} {dcs : List Dc} {xi xv xy : ByteArray} {cl : Int} {ss : List Stp} {lv er : Int} {v : CV} (h : TripR ts qs dcs xi xv xy cl ss lv er v 0) (hj : TripOk xv cl ss) (hk : LOk dcs) (hc : ∀ x ∈ ts, ∀ y ∈ x.rs, RtC y) (hq : 0 ≤ partM qs lv) {s0 : Stp} (hs0 : ss[0]? = some s0) :
    (baseM ts cl ss).2 = 0 ∧ (nearP (baseM ts cl ss).1 (partM qs lv)).2 = 0 ∧ ∃ b, Paid dcs xy cl er s0 (baseM ts cl ss).1 (nearP (baseM ts cl ss).1 (partM qs lv)).1 v b := by
  cases h with
  | base _ h1 h2 => exact absurd rfl h2
  | ratio _ h1 h2 h3 => exact absurd rfl h3
  | ok s1 b k0 k1 k2 k3 =>
    rw [hs0] at k0
    obtain rfl := Option.some.inj k0
    refine ⟨k1, k2, b, k3, rfl, ?_⟩
    have hb := baseM_bnd hc cl ss
    have hp := nearP_bnd hb.1 hq
    generalize (baseM ts cl ss).1 = n at *
    generalize (nearP n (partM qs lv)).1 = p at *
    have hok := appL_ok (sy := xy) (cl := cl) (t := s0.t) (er := er) hk
    have hbl : b.length ≤ 12 := Nat.le_trans k3.1.len hok.few
    obtain ⟨f1, f2, f3, f4⟩ := trpL_facts hok hb.1 hb.2 hp.1 hp.2 hbl
    have hr := red_bnd hok hp.1 hp.2 b
    obtain ⟨j1, ⟨j2, j3⟩, j4, j5⟩ := hj
    have hl : lastT ss = ((ss[ss.length - 1]?).getD default).t := rfl
    rw [List.getElem?_eq_getElem (by omega)] at hl
    have ht := j5 ss[ss.length - 1] (List.getElem_mem _)
    have hlt : lastT ss = (ss[ss.length - 1]'(by omega)).t := hl
    unfold chkE
    have g1 : ¬ (keyT xi = ⟨#[]⟩ ∨ xv = ⟨#[]⟩) := by
      rintro (q | q)
      · have := congrArg ByteArray.size q
        unfold keyT at this
        rw [ByteArray.size_append] at this
        have e : (⟨#[116, 58]⟩ : ByteArray).size = 2 := rfl
        have e0 : (⟨#[]⟩ : ByteArray).size = 0 := rfl
        omega
      · rw [(emp_iff xv).2 q] at j1
        cases j1
    rw [if_neg g1]
    rw [if_neg (by show ¬ (cl < 0 ∨ 9 < cl); omega)]
    rw [if_neg (by show ¬ (lastT ss < 0 ∨ 68719476736 < lastT ss); rw [hlt]; omega)]
    rw [if_neg (by rw [mstB_iff.2 f4]; simp)]
    rw [if_neg (by show ¬ (p - red _ p b < 0 ∨ 1125899906842624 < p - red _ p b); omega)]
    rw [if_neg (by show ¬ (p - red _ p b ≠ sumL (trpL _ n p b)); rw [f3]; simp)]
theorem best_least {l : List Dc} (hok : LOk l) {p : Int} (h0 : 0 ≤ p) (h1 : p ≤ 1125899906842624) {b c : List Nat} (hb : BestR l p b) (hc : Cand l c) : p - red l p b ≤ max (p - sumA l p c) 0 := by
  have h := (betB_no.1 (hb.2 c hc)).1
  have hs := (sumA_bnd hok h0 h1 c).1
  have e : red l p c = if p < sumA l p c then p else sumA l p c := rfl
  rw [e] at h
  split at h <;> omega
/-- the groups of a combination -/
def grN (l : List Dc) (i : Nat) : ByteArray := match l[i]? with
  | some x => x.gr
  | none => ⟨#[]⟩
def grL (l : List Dc) (c : List Nat) : List ByteArray := (c.map (grN l)).filter fun g => !(emp g)
theorem grL_snoc (l : List Dc) (c : List Nat) (i : Nat) : grL l (c ++ [i]) = if emp (grN l i) then grL l c else grL l c ++ [grN l i] := by
  unfold grL
  rw [List.map_append, List.filter_append]
  cases h : emp (grN l i) <;> simp [h]
theorem grL_len (l : List Dc) (c : List Nat) : (grL l c).length ≤ c.length := by
  unfold grL
  refine Nat.le_trans (List.length_filter_le _ _) ?_
  rw [List.length_map]; exact Nat.le_refl _
theorem gr_free {l : List Dc} {c : List Nat} {k : Nat} {y : Dc} (hy : l[k]? = some y) (hc : ∀ j ∈ c, j < l.length) (h : ∀ g ∈ grL l c, eqS g y.gr = false) : ∀ j ∈ c, clashB l j k = false := by
  intro j hj
  have hx := List.getElem?_eq_getElem (hc j hj)
  unfold clashB
  rw [hx, hy]
  cases he : emp (l[j]'(hc j hj)).gr
  · have hg : (l[j]'(hc j hj)).gr ∈ grL l c := by
      unfold grL
      rw [List.mem_filter]
      refine ⟨List.mem_map.2 ⟨j, hj, ?_⟩, by simp [he]⟩
      unfold grN
      rw [hx]
    simp [h _ hg]
  · simp [he]
end Go.Proofs.YtcpfiiapfggmpaaGreat
/- Lists of strings. -/
namespace Go.Proofs.YtcpfiiapfggmpaaGreat
open Go.RowKit Go.Lib
def encStr (s : ByteArray) : List Value := [.string s]
theorem encStr_ok : Enc encStr 1 := ⟨fun _ => rfl, fun x u hu => by simp [encStr] at hu; subst hu; rfl⟩
theorem tyStr : TyS Tryz.prog 88 9 1 16 := TyS.mk' (z := .string ⟨#[]⟩) Tryz.underlying88 (by kernel_rfl) rfl (by omega)
theorem Rd.str {w : World} {B : Nat} {A : Option Addr} {l : List ByteArray} (h : Rd encStr 1 w B A l) {i : Nat} (hi : i < l.length) :
    ∃ b off s, A = some ⟨b, off, none⟩ ∧ b < B ∧ l[i]? = some s ∧ w.cell? ⟨b, off + i, none⟩ = some (.string s) := by
  obtain ⟨b, off, s, hA, hb, hx, hc⟩ := h.at_ hi
  exact ⟨b, off, s, hA, hb, hx, by simpa using hc 0 _ rfl⟩
end Go.Proofs.YtcpfiiapfggmpaaGreat
