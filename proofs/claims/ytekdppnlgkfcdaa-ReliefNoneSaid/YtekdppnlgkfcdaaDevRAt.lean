/- The reference's At, walked. -/
import Derived.Test.YtekdppnlgkfcdaaJDevAt
import Derived.BigQuiet
namespace Go.Proofs.Ytekdppnlgkfcdaa
open Go.RowKit Go.Lib Go.Sort Go.Shelf

theorem Rd.drop0 {α : Type} {enc : α → List Value} {k : Nat} {w : World} {B : Nat} {b off : Nat} {l : List α} (h : Rd enc k w B (some ⟨b, off, none⟩) l) (n : Nat) : Rd enc k w B (some ⟨b, off + n * k, none⟩) (l.drop n) := by
  intro hne
  have hne' : l ≠ [] := by rintro rfl; simp at hne
  obtain ⟨b', off', hA, hb, hc⟩ := h hne'
  injection hA with hA
  injection hA with h1 h2
  subst h1 h2
  refine ⟨b, off + n * k, rfl, hb, fun i x hx j u hu => ?_⟩
  rw [List.getElem?_drop] at hx
  have := hc (n + i) x hx j u hu
  rwa [show off + (n + i) * k + j = off + n * k + i * k + j by rw [Nat.add_mul]; omega] at this
theorem names_at {o : List Dv} {a : Nat} {y : Val} (h : (o.map vD)[a]? = some y) : ∃ d, o[a]? = some d ∧ vD d = y := by
  rw [List.getElem?_map] at h
  cases q : o[a]? with
  | none => rw [q] at h; cases h
  | some d => rw [q] at h; exact ⟨d, rfl, Option.some.inj h⟩
theorem insS_dev {o : List Dv} {d : Dv} {a : Nat} (ha : a ≤ o.length) (h1 : ∀ j x, j < a → o[j]? = some x → sltB d.name x.name = false) (h2 : ∀ x, o[a]? = some x → sltB d.name x.name = true) :
    insS ltW (vD d) (o.map vD) = (o.take a ++ [d] ++ o.drop a).map vD := by
  rw [insS_at (o.map vD) a (by simpa using ha) (fun j y hj hy => by obtain ⟨x, hx, rfl⟩ := names_at hy; exact h1 j x hj hx) (fun y hy => by obtain ⟨x, hx, rfl⟩ := names_at hy; exact h2 x hx)]
  simp

set_option maxRecDepth 100000 in
set_option maxHeartbeats 8000000 in
theorem rat_any {A : Option Addr} (c : Nat) {l : List Dv} (pt : ByteArray) (kd : Int) {w : World} (h : Rd encD 6 w w.heap.size A l) (hl : l.length ≤ 100000000) :
    Calls Try.prog 46 #[.slice A l.length c, .string pt, .int .i64 kd] w fun e w' => ∃ A' c' r, e = .returned (.slice A' r.length c') ∧ Own 79 encD 6 w' w.heap.size A' c' r ∧ (∀ d ∈ r, d ∈ l) ∧ AtOf pt kd l r ∧ Below w.heap.size w w' := by
  have H := Lib.hid h
  clear h
  go_enter Try.func46, Try.ntmps46
  go_wp2_with fail
  go_loopw [7, 8] (fun v i wr => ∃ (k : Nat) (A' : Option Addr) (c' : Nat) (o : List Dv), k ≤ l.length ∧ i = .int .i64 k ∧ v = .slice A' o.length c' ∧ o.length ≤ k ∧ Hid (StabOf ltW (((l.take k).filter (selB pt kd)).map vD) (o.map vD)) ∧ Own 79 encD 6 wr w.heap.size A' c' o ∧ Hid (∀ d ∈ o, d ∈ l) ∧ Below w.heap.size w wr) (fun _ i _ => l.length - (intOf i).toNat)
  case atStart => exact ⟨0, none, 0, [], Nat.zero_le _, rfl, rfl, Nat.zero_le _, StabOf.nil, Own.nil _ _, (fun d hd => by cases hd), Below.refl _ _⟩
  case round =>
    obtain ⟨k, A', c', o, hk, rfl, rfl, hok, HV, hown, HD, hbr⟩ := hrel
    by_cases hlt : k < l.length
    · obtain ⟨b, off, d, rfl, hg, hx, d0, d1, d2, d3, d4, d5⟩ := (H.out.st hbr).d hlt
      have hF := filter_snoc (selB pt kd) hx
      have hmem := List.mem_of_getElem? hx
      have hgl : b < w.heap.size := by
        obtain ⟨b', off', _, hA, hb', _⟩ := H.out.d hlt
        injection hA with hA; injection hA with hA1
        omega
      have hi0 : (0 : Int) ≤ (k : Int) := by omega
      have hi1 : (k : Int) < (l.length : Int) := by omega
      by_cases hs : selB pt kd d = true
      · rw [if_pos hs] at hF
        have HI := Lib.hid (fun a (ha : a ≤ o.length) h1 h2 => insS_dev (o := o) (d := d) (a := a) ha h1 h2)
        have HVn : Hid (∀ o' : List Dv, insS ltW (vD d) (o.map vD) = o'.map vD → StabOf ltW (((l.take (k + 1)).filter (selB pt kd)).map vD) (o'.map vD)) := fun o' e => by
          rw [hF, List.map_append, ← e]
          exact HV.out.snoc swoW (vD d)
        have HMn : Hid (∀ a, ∀ x ∈ o.take a ++ [d] ++ o.drop a, x ∈ l) := fun a x hx => by
          simp only [List.mem_append, List.mem_singleton] at hx
          rcases hx with (hx | rfl) | hx
          · exact HD.out x (List.mem_of_mem_take hx)
          · exact hmem
          · exact HD.out x (List.mem_of_mem_drop hx)
        have hs2 : (d.pt.toList == pt.toList) = true ∧ (kd = 0 ∨ (kd ≠ 0 ∧ d.kind = kd)) := by
          unfold selB at hs
          have he : eqS d.pt pt = true := by cases q : eqS d.pt pt <;> simp_all
          rw [he] at hs
          refine ⟨he, ?_⟩
          by_cases z : kd = 0
          · exact .inl z
          · right
            simp [z] at hs
            exact ⟨z, hs⟩
        obtain ⟨he2, hk2⟩ := hs2
        have he3 : (d.pt.toList != pt.toList) = false := by simp only [bne, he2]; rfl
        have hol : o.length ≤ 100000000 := by omega
        have hcap := hown.cap
        have HLT := Lib.hid hlt
        clear hx hF HV hmem hs H
        obtain ⟨nm, pt1, kd1, ln, oA, oc, os, dA, dc, ds⟩ := d
        simp only at *
        have hkz : (kd != 0) = false ∨ ((kd != 0) = true ∧ (kd1 != kd) = false) := by
          rcases hk2 with z | ⟨z, z2⟩
          · left; simp [z]
          · right; exact ⟨by simp [z], by simp [z2]⟩
        clear hk2
        rcases hkz with z | ⟨z, z2⟩
        all_goals
          go_wp2_with fail
          go_loopw [9] (fun i wq => ∃ (a n : Nat), a ≤ o.length ∧ i = .int .i64 a ∧ Hid (∀ j x, j < a → o[j]? = some x → sltB nm x.name = false) ∧ wq = wr.drewN n) (fun i _ => o.length - (intOf i).toNat)
          case atStart => exact ⟨0, 0, Nat.zero_le _, rfl, (fun j x hj _ => by omega), rfl⟩
          case round =>
            obtain ⟨a, n, ha, rfl, HA, rfl⟩ := hrel
            have a0 : (0 : Int) ≤ (a : Int) := by omega
            by_cases hao : a < o.length
            · obtain ⟨b', off', y, hAe, hg', hy, e0, e1, e2, e3, e4, e5⟩ := (hown.rd encD_ok).d hao
              subst hAe
              have hao2 : (a : Int) < (o.length : Int) := by omega
              have hdl : decide ((a : Int) < (o.length : Int)) = true := decide_eq_true hao2
              cases hlq : sltB nm y.name
              · have hle : (Op.bytesLess y.name.toList nm.toList || y.name.toList == nm.toList) = true := by rw [leq_slt, hlq]; rfl
                have HA2 : Hid (∀ j x, j < a + 1 → o[j]? = some x → sltB nm x.name = false) := fun j x hj hx => by
                  rcases (by omega : j < a ∨ j = a) with q | rfl
                  · exact HA.out j x q hx
                  · rw [hy] at hx; obtain rfl := Option.some.inj hx; exact hlq
                have HAO := Lib.hid hao
                clear hy hlq HA
                go_wp2_with fail
                go_quiet (fail)
                go_wp2
                go_roundw
                case rel => exact ⟨a + 1, _, HAO.out, by go_num, HA2, rfl⟩
                case measure => have := HAO.out; simp [intOf]; omega
              · have hle : (Op.bytesLess y.name.toList nm.toList || y.name.toList == nm.toList) = false := by rw [leq_slt, hlq]; rfl
                have hI := HI.out a ha HA.out (fun x hx => by rw [hy] at hx; obtain rfl := Option.some.inj hx; exact hlq)
                have HVV := Lib.hid (HVn.out _ hI)
                have HMM := Lib.hid (HMn.out a)
                clear hy hlq HA hI HVn HMn HI
                go_wp2_with fail
                go_quiet (fail)
                have hr0 : Rd encD 6 (wr.drewN (n + nq)) wr.heap.size _ o := (hown.rd encD_ok); have hbs : wr.heap.size ≤ ((wr.drewN (n + nq))).heap.size := Nat.le_refl _; obtain ⟨p1, hp1⟩ : ∃ p1, p1 = o.take a := ⟨_, rfl⟩; obtain ⟨p2, hp2⟩ : ∃ p2, p2 = o.drop a := ⟨_, rfl⟩; have hl1 : p1.length = a := (by rw [hp1]; exact List.length_take_of_le ha); have hl2 : p2.length = o.length - a := (by rw [hp2]; exact List.length_drop); have hr1 := hr0.take a; rw [← hp1] at hr1; have hl3 : p1.length ≤ 100000000 := (by omega); have HL1 := Lib.hid hl1.symm; have HL2 := Lib.hid hl2; have HP1 := Lib.hid hp1; have HP2 := Lib.hid hp2; have hbk : b < wr.heap.size := hg; have hr20 := (hr0.drop0 a); rw [← hp2] at hr20; have HR2 := Lib.hid hr20; clear hl1 hl2 hp1 hp2 hr20; go_wp2_with (first | ((at_builtin; refine wpList_appS rfl (.tmp 56) (.tmp 59) tyD encD_ok rfl _ rfl rfl (Own.nil _ wr.heap.size) p1 rfl HL1.out hr1 (by first | omega | (simp; done) | (simp; omega)) (by first | omega | (simp; done) | (simp; omega)) hbs ?_; intro A4 c4 w4 hown4 hb4 hs4 hf4); simp only [List.nil_append, Nat.zero_add] at hown4 ⊢; have x0 := (hb4.cell (p := ⟨b, off + k * 6, none⟩) hbk).trans d0; have x1 := (hb4.cell (p := ⟨b, off + k * 6 + 1, none⟩) hbk).trans d1; have x2 := (hb4.cell (p := ⟨b, off + k * 6 + 2, none⟩) hbk).trans d2; have x3 := (hb4.cell (p := ⟨b, off + k * 6 + 3, none⟩) hbk).trans d3; have x4 := (hb4.cell (p := ⟨b, off + k * 6 + 4, none⟩) hbk).trans d4; have x5 := (hb4.cell (p := ⟨b, off + k * 6 + 5, none⟩) hbk).trans d5) | ((at_builtin; refine wpList_app1 rfl (.tmp 61) (.tmp 66) tyD encD_ok rfl (⟨nm, pt1, kd1, ln, oA, oc, os, dA, dc, ds⟩ : Dv) rfl _ rfl HL1.out hown4 rfl (by first | rfl | simp) (by first | omega | (simp; omega)) (by first | omega | (simp; omega)) hb4.size ?_; intro A5 c5 w5 hown5 hb5 hs5 hf5; have hbel5 := hb4.trans hb5); have hr2 := (HR2.out).keep hbel5; have hbs5 := hbel5.size; have HN5 := Lib.hid (show a + 1 = (p1 ++ [(⟨nm, pt1, kd1, ln, oA, oc, os, dA, dc, ds⟩ : Dv)]).length by have := HL1.out; simp; omega); have hl6 : (p1 ++ [(⟨nm, pt1, kd1, ln, oA, oc, os, dA, dc, ds⟩ : Dv)]).length + p2.length ≤ 200000002 := (by have := HL1.out; have := HL2.out; simp; omega)) | ((at_builtin; refine wpList_appS rfl (.tmp 68) (.tmp 71) tyD encD_ok rfl _ rfl HN5.out hown5 p2 rfl HL2.out.symm hr2 (by first | omega | (simp; done) | (simp; omega)) (by first | omega | (simp; done) | (simp; omega)) hbs5 ?_; intro A6 c6 w6 hown6 hb6 hs6 hf6))); go_roundw; (case rel => exact ⟨k + 1, A6, c6, _, HLT.out, by go_num, by have := HL1.out; have := HL2.out; simp; omega, by have := HL1.out; have := HL2.out; simp; omega, by rw [HP1.out, HP2.out]; exact HVV.out, hown6.mono hbr.size, by rw [HP1.out, HP2.out]; exact HMM.out, hbr.st ((below_drewN (Below.refl _ wr) _).trans (hbel5.trans hb6))⟩); (case measure => have := HLT.out; simp [intOf]; omega)
            · obtain rfl : a = o.length := by omega
              have hao2 : ¬ (o.length : Int) < (o.length : Int) := by omega
              have hdl : decide ((o.length : Int) < (o.length : Int)) = false := decide_eq_false hao2
              have hI := HI.out o.length ha HA.out (fun x hx => by rw [List.getElem?_eq_none (Nat.le_refl _)] at hx; cases hx)
              have HVV := Lib.hid (HVn.out _ hI)
              have HMM := Lib.hid (HMn.out o.length)
              clear HA hI HVn HMn HI
              rcases hown.form with ⟨hA0, ho0, hc0⟩ | ⟨g, hAe, hg1, hg2⟩
              · subst hA0 hc0
                subst ho0
                go_wp2_with fail
                go_quiet (fail)
                have hbs : wr.heap.size ≤ ((wr.drewN (n + nq))).heap.size := Nat.le_refl _; have hb4 := Below.refl wr.heap.size (wr.drewN (n + nq)); go_wp2_with (first | ((at_builtin; refine wpList_app1 rfl (.tmp 61) (.tmp 66) tyD encD_ok rfl (⟨nm, pt1, kd1, ln, oA, oc, os, dA, dc, ds⟩ : Dv) rfl _ rfl rfl (Own.nil (enc := encD) (wr.drewN (n + nq)) wr.heap.size) rfl (by first | rfl | simp) (by first | omega | (simp; omega)) (by first | omega | (simp; omega)) hb4.size ?_; intro A5 c5 w5 hown5 hb5 hs5 hf5; have hbel5 := hb4.trans hb5); have hbs5 := hbel5.size) | ((at_builtin; refine wpList_appS rfl (.tmp 68) (.tmp 71) tyD encD_ok rfl _ rfl rfl hown5 ([] : List Dv) rfl rfl (Rd.nil (B := 0)) (by first | omega | (simp; done) | (simp; omega)) (by first | omega | (simp; done) | (simp; omega)) hbs5 ?_; intro A6 c6 w6 hown6 hb6 hs6 hf6))); go_roundw; (case rel => exact ⟨k + 1, A6, c6, [] ++ [(⟨nm, pt1, kd1, ln, oA, oc, os, dA, dc, ds⟩ : Dv)] ++ ([] : List Dv), HLT.out, by go_num, rfl, by simp, by have := HVV.out; unfold Hid; simpa using this, hown6.mono hbr.size, by have := HMM.out; unfold Hid; simpa using this, hbr.st ((below_drewN (Below.refl _ wr) _).trans (hbel5.trans hb6))⟩); (case measure => have := HLT.out; simp [intOf]; omega)
              · subst hAe
                have HG := Lib.hid hg2
                clear hg1 hg2
                by_cases hcc : o.length = c'
                · subst hcc
                  go_wp2_with fail
                  go_quiet (fail)
                  have hr0 : Rd encD 6 (wr.drewN (n + nq)) wr.heap.size _ o := (hown.rd encD_ok); have hbs : wr.heap.size ≤ ((wr.drewN (n + nq))).heap.size := Nat.le_refl _; obtain ⟨p1, hp1⟩ : ∃ p1, p1 = o := ⟨_, rfl⟩; have hr1 := hr0; rw [← hp1] at hr1; have hl3 : p1.length ≤ 100000000 := (by rw [hp1]; exact hol); have HL1 := Lib.hid (show (o).length = p1.length by rw [hp1]); have HP1 := Lib.hid hp1; have hbk : b < wr.heap.size := hg; clear hp1; go_wp2_with (first | ((at_builtin; refine wpList_appS rfl (.tmp 56) (.tmp 59) tyD encD_ok rfl _ rfl rfl (Own.nil _ wr.heap.size) p1 rfl HL1.out hr1 (by first | omega | (simp; done) | (simp; omega)) (by first | omega | (simp; done) | (simp; omega)) hbs ?_; intro A4 c4 w4 hown4 hb4 hs4 hf4); simp only [List.nil_append, Nat.zero_add] at hown4 ⊢; have x0 := (hb4.cell (p := ⟨b, off + k * 6, none⟩) hbk).trans d0; have x1 := (hb4.cell (p := ⟨b, off + k * 6 + 1, none⟩) hbk).trans d1; have x2 := (hb4.cell (p := ⟨b, off + k * 6 + 2, none⟩) hbk).trans d2; have x3 := (hb4.cell (p := ⟨b, off + k * 6 + 3, none⟩) hbk).trans d3; have x4 := (hb4.cell (p := ⟨b, off + k * 6 + 4, none⟩) hbk).trans d4; have x5 := (hb4.cell (p := ⟨b, off + k * 6 + 5, none⟩) hbk).trans d5) | ((at_builtin; refine wpList_app1 rfl (.tmp 61) (.tmp 66) tyD encD_ok rfl (⟨nm, pt1, kd1, ln, oA, oc, os, dA, dc, ds⟩ : Dv) rfl _ rfl HL1.out hown4 rfl (by first | rfl | simp) (by first | omega | (simp; omega)) (by first | omega | (simp; omega)) hb4.size ?_; intro A5 c5 w5 hown5 hb5 hs5 hf5; have hbel5 := hb4.trans hb5); have hbs5 := hbel5.size; have HN5 := Lib.hid (show (o).length + 1 = (p1 ++ [(⟨nm, pt1, kd1, ln, oA, oc, os, dA, dc, ds⟩ : Dv)]).length by have := HL1.out; simp; omega); have hl6 : (p1 ++ [(⟨nm, pt1, kd1, ln, oA, oc, os, dA, dc, ds⟩ : Dv)]).length ≤ 200000002 := (by have := HL1.out; simp; omega)) | ((at_builtin; refine wpList_appS rfl (.tmp 68) (.tmp 71) tyD encD_ok rfl _ rfl HN5.out hown5 ([] : List Dv) rfl (by simp) (Rd.nil (B := 0)) (by first | omega | (simp; done) | (simp; omega)) (by first | omega | (simp; done) | (simp; omega)) hbs5 ?_; intro A6 c6 w6 hown6 hb6 hs6 hf6))); go_roundw; (case rel => exact ⟨k + 1, A6, c6, p1 ++ [(⟨nm, pt1, kd1, ln, oA, oc, os, dA, dc, ds⟩ : Dv)] ++ ([] : List Dv), HLT.out, by go_num, by have := HL1.out; simp; omega, by have := HL1.out; simp; omega, by rw [HP1.out]; have := HVV.out; unfold Hid; simpa using this, hown6.mono hbr.size, by rw [HP1.out]; have := HMM.out; unfold Hid; simpa using this, hbr.st ((below_drewN (Below.refl _ wr) _).trans (hbel5.trans hb6))⟩); (case measure => have := HLT.out; simp [intOf]; omega)
                · go_wp2_with fail
                  go_quiet (fail)
                  have hr0 : Rd encD 6 (wr.drewN (n + nq)) wr.heap.size _ o := (hown.rd encD_ok); have hbs : wr.heap.size ≤ ((wr.drewN (n + nq))).heap.size := Nat.le_refl _; obtain ⟨p1, hp1⟩ : ∃ p1, p1 = o := ⟨_, rfl⟩; have hr1 := hr0; rw [← hp1] at hr1; have hl3 : p1.length ≤ 100000000 := (by rw [hp1]; exact hol); have HL1 := Lib.hid (show (o).length = p1.length by rw [hp1]); have HP1 := Lib.hid hp1; have hbk : b < wr.heap.size := hg; clear hp1; go_wp2_with (first | ((at_builtin; refine wpList_appS rfl (.tmp 56) (.tmp 59) tyD encD_ok rfl _ rfl rfl (Own.nil _ wr.heap.size) p1 rfl HL1.out hr1 (by first | omega | (simp; done) | (simp; omega)) (by first | omega | (simp; done) | (simp; omega)) hbs ?_; intro A4 c4 w4 hown4 hb4 hs4 hf4); simp only [List.nil_append, Nat.zero_add] at hown4 ⊢; have x0 := (hb4.cell (p := ⟨b, off + k * 6, none⟩) hbk).trans d0; have x1 := (hb4.cell (p := ⟨b, off + k * 6 + 1, none⟩) hbk).trans d1; have x2 := (hb4.cell (p := ⟨b, off + k * 6 + 2, none⟩) hbk).trans d2; have x3 := (hb4.cell (p := ⟨b, off + k * 6 + 3, none⟩) hbk).trans d3; have x4 := (hb4.cell (p := ⟨b, off + k * 6 + 4, none⟩) hbk).trans d4; have x5 := (hb4.cell (p := ⟨b, off + k * 6 + 5, none⟩) hbk).trans d5) | ((at_builtin; refine wpList_app1 rfl (.tmp 61) (.tmp 66) tyD encD_ok rfl (⟨nm, pt1, kd1, ln, oA, oc, os, dA, dc, ds⟩ : Dv) rfl _ rfl HL1.out hown4 rfl (by first | rfl | simp) (by first | omega | (simp; omega)) (by first | omega | (simp; omega)) hb4.size ?_; intro A5 c5 w5 hown5 hb5 hs5 hf5; have hbel5 := hb4.trans hb5); have hbs5 := hbel5.size; have HN5 := Lib.hid (show (o).length + 1 = (p1 ++ [(⟨nm, pt1, kd1, ln, oA, oc, os, dA, dc, ds⟩ : Dv)]).length by have := HL1.out; simp; omega); have hl6 : (p1 ++ [(⟨nm, pt1, kd1, ln, oA, oc, os, dA, dc, ds⟩ : Dv)]).length ≤ 200000002 := (by have := HL1.out; simp; omega)) | ((at_builtin; refine wpList_appS rfl (.tmp 68) (.tmp 71) tyD encD_ok rfl _ rfl HN5.out hown5 ([] : List Dv) rfl (by simp) (Rd.nil (B := 0)) (by first | omega | (simp; done) | (simp; omega)) (by first | omega | (simp; done) | (simp; omega)) hbs5 ?_; intro A6 c6 w6 hown6 hb6 hs6 hf6))); go_roundw; (case rel => exact ⟨k + 1, A6, c6, p1 ++ [(⟨nm, pt1, kd1, ln, oA, oc, os, dA, dc, ds⟩ : Dv)] ++ ([] : List Dv), HLT.out, by go_num, by have := HL1.out; simp; omega, by have := HL1.out; simp; omega, by rw [HP1.out]; have := HVV.out; unfold Hid; simpa using this, hown6.mono hbr.size, by rw [HP1.out]; have := HMM.out; unfold Hid; simpa using this, hbr.st ((below_drewN (Below.refl _ wr) _).trans (hbel5.trans hb6))⟩); (case measure => have := HLT.out; simp [intOf]; omega)
      · rw [if_neg hs] at hF
        have HVn : Hid (StabOf ltW (((l.take (k + 1)).filter (selB pt kd)).map vD) (o.map vD)) := by rw [hF]; exact HV.out
        unfold selB at hs
        clear hx hF HV hmem
        obtain ⟨nm, pt1, kd1, ln, oA, oc, os, dA, dc, ds⟩ := d
        simp only at *
        cases he : eqS pt1 pt
        · have he2 : (pt1.toList == pt.toList) = false := he
          have he3 : (pt1.toList != pt.toList) = true := by simp only [bne, he2]; rfl
          clear he hs
          go_wp2_with fail
          go_roundw
          case rel => exact ⟨k + 1, A', c', o, by omega, by go_num, rfl, by omega, HVn, hown, HD, hbr⟩
          case measure => simp [intOf]; omega
        · have he2 : (pt1.toList == pt.toList) = true := he
          have he3 : (pt1.toList != pt.toList) = false := by simp only [bne, he2]; rfl
          rw [he] at hs
          have k1 : (kd == 0) = false := by cases q : (kd == 0) <;> simp_all
          have k2 : (kd1 == kd) = false := by cases q : (kd1 == kd) <;> simp_all
          have k3 : (kd != 0) = true := by simp only [bne, k1]; rfl
          have k4 : (kd1 != kd) = true := by simp only [bne, k2]; rfl
          clear he hs
          go_wp2_with fail
          go_roundw
          case rel => exact ⟨k + 1, A', c', o, by omega, by go_num, rfl, by omega, HVn, hown, HD, hbr⟩
          case measure => simp [intOf]; omega
    · obtain rfl : k = l.length := by omega
      have HX : Hid (AtOf pt kd l o) := by have := HV.out; rwa [List.take_length] at this
      clear HV
      go_wp2
      go_ret
      exact ⟨A', c', o, rfl, hown, HD.out, HX.out, hbr⟩
end Go.Proofs.Ytekdppnlgkfcdaa
