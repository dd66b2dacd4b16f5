/- The reference's insert, walked. -/
import Derived.Test.YtekdppnlgkfcdaaDevRAt
import Derived.Test.YtekdppnlgkfcdaaJFirst
import Derived.BigQuiet
namespace Go.Proofs.Ytekdppnlgkfcdaa
open Go.RowKit Go.Lib Go.Sort Go.Shelf

/-- an ascending list of times with both ends of the day of days -/
structure CutOk (l : List Int) : Prop where
  asc : l.Pairwise (· < ·)
  lo : 0 ∈ l
  hi : 68719476736 ∈ l
  all : ∀ x ∈ l, 0 ≤ x ∧ x ≤ 68719476736

theorem CutOk.ins {l : List Int} (h : CutOk l) {n : Int} (h0 : 0 ≤ n) (h1 : n ≤ 68719476736) {a : Nat} (hlo : ∀ j x, j < a → l[j]? = some x → x < n) (hhi : ∀ x, l[a]? = some x → n < x) :
    CutOk (l.take a ++ [n] ++ l.drop a) ∧ ∀ x, x ∈ l.take a ++ [n] ++ l.drop a ↔ x ∈ l ∨ x = n := by
  have hm : ∀ x, x ∈ l.take a ++ [n] ++ l.drop a ↔ x ∈ l ∨ x = n := fun x => by
    conv => rhs; rw [← List.take_append_drop a l]
    simp only [List.mem_append, List.mem_singleton]
    constructor
    · rintro ((h | h) | h)
      · exact .inl (.inl h)
      · exact .inr h
      · exact .inl (.inr h)
    · rintro ((h | h) | h)
      · exact .inl (.inl h)
      · exact .inr h
      · exact .inl (.inr h)
  have hT : ∀ x ∈ l.take a, x < n := fun x hx => by
    obtain ⟨j, hj, rfl⟩ := List.getElem_of_mem hx
    rw [List.length_take] at hj
    exact hlo j _ (by omega) (by rw [List.getElem_take]; exact List.getElem?_eq_getElem (by omega))
  have hD : ∀ x ∈ l.drop a, n < x := fun x hx => by
    cases q : l.drop a with
    | nil => rw [q] at hx; cases hx
    | cons y t =>
      have hy : l[a]? = some y := by
        have := congrArg (·[0]?) q
        simpa [List.getElem?_drop] using this
      have hny := hhi y hy
      have hpd : (l.drop a).Pairwise (· < ·) := h.asc.sublist (List.drop_sublist a l)
      rw [q] at hx hpd
      rcases List.mem_cons.1 hx with rfl | hx
      · exact hny
      · have := (List.pairwise_cons.1 hpd).1 x hx
        omega
  refine ⟨⟨?_, (hm 0).2 (.inl h.lo), (hm _).2 (.inl h.hi), fun x hx => ?_⟩, hm⟩
  · rw [List.append_assoc, List.pairwise_append]
    refine ⟨h.asc.sublist (List.take_sublist a l), ?_, ?_⟩
    · rw [List.singleton_append, List.pairwise_cons]
      exact ⟨fun x hx => hD x hx, h.asc.sublist (List.drop_sublist a l)⟩
    · intro x hx y hy
      have := hT x hx
      simp only [List.mem_append, List.mem_singleton] at hy
      rcases hy with rfl | hy
      · exact this
      · have := hD y hy; omega
  · rcases (hm x).1 hx with hx | rfl
    · exact h.all x hx
    · exact ⟨h0, h1⟩

set_option maxRecDepth 100000 in
set_option maxHeartbeats 8000000 in
theorem rins_any {A : Option Addr} (c : Nat) {l : List Int} (n : Int) {w : World} {base : Nat} (hown : Own 3 encI 1 w base A c l) (hb0 : base ≤ w.heap.size) (hc : CutOk l) (h0 : 0 ≤ n) (h1 : n ≤ 68719476736) (hl : l.length ≤ 100000000) :
    Calls Try.prog 65 #[.slice A l.length c, .int .i64 n] w fun e w' => ∃ A' c' r, e = .returned (.slice A' r.length c') ∧ Own 3 encI 1 w' base A' c' r ∧ CutOk r ∧ (∀ x, x ∈ r ↔ x ∈ l ∨ x = n) ∧ r.length ≤ l.length + 1 ∧ Below w.heap.size w w' := by
  have HC := Lib.hid hc
  have HI := Lib.hid (fun a => CutOk.ins hc h0 h1 (a := a))
  have hcap := hown.cap
  clear hc
  go_enter Try.func65, Try.ntmps65
  go_wp2_with fail
  go_loopw [5] (fun i wq => ∃ (a k : Nat), a < l.length ∧ i = .int .i64 a ∧ Hid (∀ j x, j < a → l[j]? = some x → x < n) ∧ wq = w.drewN k) (fun i _ => l.length - (intOf i).toNat)
  case atStart => exact ⟨0, 0, List.length_pos_of_mem HC.out.lo, rfl, (fun j x hj _ => by omega), rfl⟩
  case round =>
    obtain ⟨a, k, ha0, rfl, HA, rfl⟩ := hrel
    have ha : a ≤ l.length := by omega
    have a0 : (0 : Int) ≤ (a : Int) := by omega
    have hao2 : (a : Int) < (l.length : Int) := by omega
    have hdl : decide ((a : Int) < (l.length : Int)) = true := decide_eq_true hao2
    obtain ⟨b, off, y, rfl, hg, hy, e0⟩ := (hown.rd encI_ok).i ha0
    by_cases hlt : y < n
    · have hd : decide (y < n) = true := decide_eq_true hlt
      have HA2 : Hid (∀ j x, j < a + 1 → l[j]? = some x → x < n) := fun j x hj hx => by
        rcases (by omega : j < a ∨ j = a) with q | rfl
        · exact HA.out j x q hx
        · rw [hy] at hx; obtain rfl := Option.some.inj hx; exact hlt
      have hnext : a + 1 < l.length := by
        rcases Nat.lt_or_ge (a + 1) l.length with q | q
        · exact q
        · exfalso
          obtain ⟨j, hj, e⟩ := List.getElem_of_mem HC.out.hi
          have := HA2.out j _ (by omega) (List.getElem?_eq_getElem hj)
          omega
      have HNX := Lib.hid hnext
      clear hy HA hnext
      go_wp2
      go_roundw
      case rel => exact ⟨a + 1, _, HNX.out, by go_num, HA2, rfl⟩
      case measure => have := HNX.out; simp [intOf]; omega
    · have hd : decide (y < n) = false := decide_eq_false hlt
      by_cases he : y = n
      · subst he
        have hmem := Lib.hid (List.mem_of_getElem? hy)
        clear hy HA HI
        go_wp2
        go_ret
        exact ⟨_, _, l, rfl, hown.drewN _, HC.out, fun x => ⟨.inl, fun q => q.elim id (fun e => e ▸ hmem.out)⟩, Nat.le_succ _, below_drewN (Below.refl _ w) _⟩
      · have hd2 : (y == n) = false := by simp [he]
        have hI := HI.out a HA.out (fun x hx => by rw [hy] at hx; obtain rfl := Option.some.inj hx; omega)
        have HII := Lib.hid hI
        clear hy HA HI hI
        have hr0 : Rd encI 1 (w.drewN k) w.heap.size _ l := (hown.rd encI_ok); have hbs : w.heap.size ≤ ((w.drewN k)).heap.size := Nat.le_refl _; obtain ⟨p1, hp1⟩ : ∃ p1, p1 = l.take a := ⟨_, rfl⟩; obtain ⟨p2, hp2⟩ : ∃ p2, p2 = l.drop a := ⟨_, rfl⟩; have hl1 : p1.length = a := (by rw [hp1]; exact List.length_take_of_le ha); have hl2 : p2.length = l.length - a := (by rw [hp2]; exact List.length_drop); have hr1 := hr0.take a; rw [← hp1] at hr1; have hl3 : p1.length ≤ 100000000 := (by omega); have HL1 := Lib.hid hl1.symm; have HL2 := Lib.hid hl2; have HP1 := Lib.hid hp1; have HP2 := Lib.hid hp2; have hr20 := (hr0.drop0 a); rw [← hp2, Nat.mul_one] at hr20; have HR2 := Lib.hid hr20; clear hl1 hl2 hp1 hp2 hr20; go_wp2_with (first | ((at_builtin; refine wpList_appS rfl (.tmp 34) (.tmp 37) tyI encI_ok rfl _ rfl rfl (Own.nil _ w.heap.size) p1 rfl HL1.out hr1 (by first | omega | (simp; done) | (simp; omega)) (by first | omega | (simp; done) | (simp; omega)) hbs ?_; intro A4 c4 w4 hown4 hb4 hs4 hf4); simp only [List.nil_append, Nat.zero_add] at hown4 ⊢) | ((at_builtin; refine wpList_app1 rfl (.tmp 39) (.tmp 41) tyI encI_ok rfl n rfl _ rfl HL1.out hown4 rfl (by first | rfl | simp) (by first | omega | (simp; omega)) (by first | omega | (simp; omega)) hb4.size ?_; intro A5 c5 w5 hown5 hb5 hs5 hf5; have hbel5 := hb4.trans hb5); have hr2 := (HR2.out).keep hbel5; have hbs5 := hbel5.size; have HN5 := Lib.hid (show a + 1 = (p1 ++ [n]).length by have := HL1.out; simp; omega); have hl6 : (p1 ++ [n]).length + p2.length ≤ 200000002 := (by have := HL1.out; have := HL2.out; simp; omega)) | ((at_builtin; refine wpList_appS rfl (.tmp 43) (.tmp 46) tyI encI_ok rfl _ rfl HN5.out hown5 p2 rfl HL2.out.symm hr2 (by first | omega | (simp; done) | (simp; omega)) (by first | omega | (simp; done) | (simp; omega)) hbs5 ?_; intro A6 c6 w6 hown6 hb6 hs6 hf6)))
        go_ret
        refine ⟨A6, c6, p1 ++ [n] ++ p2, ?_, hown6.mono hb0, by rw [HP1.out, HP2.out]; exact HII.out.1, by rw [HP1.out, HP2.out]; exact HII.out.2, by have := HL1.out; have := HL2.out; simp; omega, (below_drewN (Below.refl _ w) _).trans (hbel5.trans hb6)⟩
        have g1 := HL1.out
        have g2 := HL2.out
        simp
        omega
end Go.Proofs.Ytekdppnlgkfcdaa
