/- Joined texts: TrpM, Concat, TrpJoin, TrpDc, PrcChk. -/
import Derived.Test.YtelchfijalkibaaGreatDoorJTarRRate
import Derived.Test.YtelchfijalkibaaGreatDoorJDisRefM
import Derived.Test.YtelchfijalkibaaGreatDoorDisApp
import Derived.Test.YtelchfijalkibaaGreatDoorTrpSc
import Derived.Test.YtelchfijalkibaaGreatDoorJRelMath
import Derived.Lib.AppendZeros
import Derived.Test.YtelchfijalkibaaGreatDoorJTrpScR
import Derived.IntWalk
/- The charge for a trip, in plain words. No program in sight. -/
namespace Go.Proofs.YtelchfijalkibaaGreatDoor
open Go.RowKit Go.Lib

def baseS : ByteArray := ⟨#[98, 97, 115, 101]⟩
def levelS : ByteArray := ⟨#[108, 101, 118, 101, 108]⟩
def keyT (id : ByteArray) : ByteArray := (⟨#[116, 58]⟩ : ByteArray) ++ id
def lastT (ss : List Stp) : Int := ((ss[ss.length - 1]?).getD default).t
/-- the discounts that apply -/
def appL (sy : ByteArray) (cl t er : Int) (dcs : List Dc) : List Dc := dcs.filter fun x => appB x sy cl t er
theorem appL_len (sy : ByteArray) (cl t er : Int) (dcs : List Dc) : (appL sy cl t er dcs).length ≤ dcs.length := List.length_filter_le _ _
theorem appL_snoc {sy : ByteArray} {cl t er : Int} {dcs : List Dc} {k : Nat} {x : Dc} (hx : dcs[k]? = some x) : appL sy cl t er (dcs.take (k + 1)) = if appB x sy cl t er then appL sy cl t er (dcs.take k) ++ [x] else appL sy cl t er (dcs.take k) := by
  unfold appL
  rw [take_snoc hx, List.filter_append]
  cases h : appB x sy cl t er <;> simp [h]
theorem appL_ok {sy : ByteArray} {cl t er : Int} {dcs : List Dc} (h : LOk dcs) : LOk (appL sy cl t er dcs) := h.sub List.filter_sublist
/-- the line of the level -/
def stpL (n p : Int) : List Ln := if p = n then [] else [(levelS, p - n)]
theorem stpL_len (n p : Int) : (stpL n p).length ≤ 1 := by unfold stpL; split <;> simp
def trpL (l : List Dc) (n p : Int) (b : List Nat) : List Ln := (baseS, n) :: (stpL n p ++ (lnsS l p b).1)
inductive TripR (ts : List Ta) (qs : List Int) (dcs : List Dc) (xi xv xy : ByteArray) (cl : Int) (ss : List Stp) (lv er : Int) : CV → Int → Prop
  | base (e : Int) : (baseM ts cl ss).2 = e → e ≠ 0 → TripR ts qs dcs xi xv xy cl ss lv er zeroC e
  | ratio (e : Int) : (baseM ts cl ss).2 = 0 → (nearP (baseM ts cl ss).1 (partM qs lv)).2 = e → e ≠ 0 → TripR ts qs dcs xi xv xy cl ss lv er zeroC e
  | ok (s0 : Stp) (b : List Nat) : ss[0]? = some s0 → (baseM ts cl ss).2 = 0 → (nearP (baseM ts cl ss).1 (partM qs lv)).2 = 0 → BestR (appL xy cl s0.t er dcs) (nearP (baseM ts cl ss).1 (partM qs lv)).1 b →
      TripR ts qs dcs xi xv xy cl ss lv er ⟨keyT xi, xv, xy, cl, lastT ss, trpL (appL xy cl s0.t er dcs) (baseM ts cl ss).1 (nearP (baseM ts cl ss).1 (partM qs lv)).1 b, (nearP (baseM ts cl ss).1 (partM qs lv)).1 - red (appL xy cl s0.t er dcs) (nearP (baseM ts cl ss).1 (partM qs lv)).1 b⟩ 0
theorem TripR.unique {ts : List Ta} {qs : List Int} {dcs : List Dc} {xi xv xy : ByteArray} {cl : Int} {ss : List Stp} {lv er : Int} {v v' : CV} {e e' : Int} (h : TripR ts qs dcs xi xv xy cl ss lv er v e) (h' : TripR ts qs dcs xi xv xy cl ss lv er v' e') : v = v' ∧ e = e' := by
  cases h with
  | base _ h1 h2 =>
    cases h' with
    | base _ k1 k2 => exact ⟨rfl, h1.symm.trans k1⟩
    | ratio _ k1 k2 k3 => exact absurd (h1.symm.trans k1) h2
    | ok s0 b k0 k1 k2 k3 => exact absurd (h1.symm.trans k1) h2
  | ratio _ h1 h2 h3 =>
    cases h' with
    | base _ k1 k2 => exact absurd (k1.symm.trans h1) k2
    | ratio _ k1 k2 k3 => exact ⟨rfl, h2.symm.trans k2⟩
    | ok s0 b k0 k1 k2 k3 => exact absurd (h2.symm.trans k2) h3
  | ok s0 b h0 h1 h2 h3 =>
    cases h' with
    | base _ k1 k2 => exact absurd (k1.symm.trans h1) k2
    | ratio _ k1 k2 k3 => exact absurd (k2.symm.trans h2) k3
    | ok s1 b1 k0 k1 k2 k3 =>
      rw [h0] at k0
      obtain rfl := Option.some.inj k0
      obtain rfl := h3.unique k3
      exact ⟨rfl, rfl⟩
/-- the price by the tariff fits -/
theorem ofM_mem {p : Rt → Bool} : ∀ {rs : List Rt} {n : Int}, ofM p rs = some n → ∃ y ∈ rs, y.ct = n := by
  intro rs
  induction rs with
  | nil => intro n h; simp [ofM] at h
  | cons y rs ih =>
    intro n h
    unfold ofM at h
    split at h
    · exact ⟨y, by simp, Option.some.inj h⟩
    · obtain ⟨z, hz, e⟩ := ih h
      exact ⟨z, by simp [hz], e⟩
theorem rateL_bnd {fr tt : ByteArray} {cls : Int} {rs : List Rt} (h : ∀ y ∈ rs, RtC y) : ∀ L : List ByteArray, 0 ≤ (rateL fr tt cls rs L).1 ∧ (rateL fr tt cls rs L).1 ≤ 1125899906842624
  | [] => by simp [rateL]
  | b :: L => by
    unfold rateL
    split
    · rename_i n hn
      obtain ⟨y, hy, e⟩ := ofM_mem hn
      have := h y hy
      unfold RtC at this
      show 0 ≤ n ∧ n ≤ _
      omega
    · exact rateL_bnd h L
theorem baseM_bnd {ts : List Ta} (h : ∀ x ∈ ts, ∀ y ∈ x.rs, RtC y) (cl : Int) (ss : List Stp) : 0 ≤ (baseM ts cl ss).1 ∧ (baseM ts cl ss).1 ≤ 1125899906842624 := by
  unfold baseM
  split
  · simp
  · split
    · simp
    · rename_i y hy
      exact rateL_bnd (h y (findM_mem hy)) _
theorem nearP_bnd {n m : Int} (h0 : 0 ≤ n) (h1 : 0 ≤ m) : 0 ≤ (nearP n m).1 ∧ (nearP n m).1 ≤ 1125899906842624 := by
  have hq : 0 ≤ n * m / 1000 := Int.ediv_nonneg (Int.mul_nonneg h0 h1) (by omega)
  unfold nearP nearV
  generalize n * m / 1000 = q at *
  generalize n * m % 1000 = r
  have hn : 0 ≤ nearQ q r := by unfold nearQ; split <;> omega
  split
  · simp
  · exact ⟨hn, by show nearQ q r ≤ _; omega⟩
theorem sumL_app (a b : List Ln) : sumL (a ++ b) = sumL a + sumL b := by unfold sumL; rw [List.map_append, List.sum_append]
theorem trpL_facts {l : List Dc} (hok : LOk l) {n p : Int} (hn0 : 0 ≤ n) (hn1 : n ≤ 1125899906842624) (hp0 : 0 ≤ p) (hp1 : p ≤ 1125899906842624) {b : List Nat} (hb : b.length ≤ 12) :
    (trpL l n p b).length = 1 + (stpL n p).length + b.length ∧ (trpL l n p b).length ≤ 14 ∧ sumL (trpL l n p b) = p - red l p b ∧ Mst (trpL l n p b) := by
  obtain ⟨f1, f2, f3, f4⟩ := lns_facts (amtN_bnd hok hp0) hp0 hp1 b
  have hs := stpL_len n p
  refine ⟨by unfold trpL; simp [f1]; omega, by unfold trpL; simp [f1]; omega, ?_, ?_⟩
  · have e : sumL (trpL l n p b) = n + (sumL (stpL n p) + sumL (lnsS l p b).1) := by
      rw [← sumL_app]; unfold trpL sumL; simp
    rw [e, f3]
    unfold stpL
    split
    · simp [sumL]; omega
    · simp [sumL]; omega
  · intro y hy
    unfold trpL at hy
    rw [List.mem_cons, List.mem_append] at hy
    rcases hy with rfl | hy | hy
    · unfold fitsB; exact decide_eq_true ⟨by show _ ≤ n; omega, hn1⟩
    · unfold stpL at hy
      split at hy
      · simp at hy
      · rw [List.mem_singleton] at hy
        subst hy
        unfold fitsB
        exact decide_eq_true ⟨by show _ ≤ p - n; omega, by show p - n ≤ _; omega⟩
    · exact f4 y hy
end Go.Proofs.YtelchfijalkibaaGreatDoor
/- slices.Grow of nil and slices.Concat of two lists of lines; price.join; walked. -/
set_option linter.unusedSimpArgs false
namespace Go.Proofs.YtelchfijalkibaaGreatDoor
open Go.RowKit Go.Lib

/-- a slice of length 0 with room -/
theorem Own.room {α : Type} {e k : Nat} {enc : α → List Value} {w : World} {base g c : Nat} {cur : Array Value} (hg : w.heap[g]? = some (.cells cur e (0, 0))) (hb : base ≤ g) (hc : c ≤ maxLen) (hs : cur.size = c * k) : Own e enc k w base (some ⟨g, 0, none⟩) c ([] : List α) :=
  ⟨by simp, .inr ⟨g, c, cur, rfl, hb, hg, Nat.zero_le _, hc, hs, by simp⟩⟩

set_option maxRecDepth 100000 in
set_option maxHeartbeats 4000000 in
theorem growL_any (n : Nat) (hn : n ≤ 1000000) (w : World) :
    Calls Tryz.prog 82 #[.slice none 0 0, .int .i64 n] w fun e w' => ∃ A c, e = .returned (.slice A 0 c) ∧ Own 104 encLn 2 w' w.heap.size A c ([] : List Ln) ∧ Below w.heap.size w w' := by
  rcases Nat.eq_zero_or_pos n with rfl | h0
  · go_enter Tryz.func82, Tryz.ntmps82
    go_wp2_with fail
    go_ret
    exact ⟨none, 0, rfl, Own.nil _ _, Below.refl _ _⟩
  · obtain ⟨i, z, hi, hz, hs, hby, hzs⟩ := tyLn.info
    have happ := Lib.run_append_nil_zeros (P := Tryz.prog) w 55 3 55 104 i z .i64 .i64 tyLn.under (by kernel_rfl) hi hz n h0 (by omega) (by omega) (by rw [hby]; omega)
    generalize hcap : grownCap w n 0 104 = cap at happ
    have hge : n ≤ cap := by rw [← hcap]; exact grownCap_ge w _ 0 _
    have hle : cap ≤ maxLen := by rw [← hcap]; exact grownCap_le_maxLen w _ 0 _ (by unfold maxLen; omega)
    generalize hZ : (Builtin.zeroCells z.cells n ++ Builtin.zeroCells z.cells (cap - n)) = Z at happ
    have hZs : Z.size = cap * 2 := by rw [← hZ]; simp [size_zeroCells, hzs]; omega
    have hn1 : (0 : Int) < (n : Int) := by omega
    have hn2 : ¬ (n : Int) < 0 := by omega
    have HS := Lib.hid (And.intro hle hZs)
    have HG := Lib.hid hge
    clear hcap hZ hi hz hs hby hzs hle hZs hge
    go_enter Tryz.func82, Tryz.ntmps82
    go_wp2_with (at_builtin; refine Lib.wpList_append_run _ rfl _ _ _ _ rfl _ _ rfl rfl _ _ happ ?_)
    go_ret
    refine ⟨some ⟨w.heap.size, 0, none⟩, cap, rfl, Own.room (cur := Z) ?_ (Nat.le_refl _) HS.out.1 HS.out.2, ?_⟩
    · exact heap_alloc_new w.drew _
    · exact (below_drewN (Below.refl _ w) 1).al _

end Go.Proofs.YtelchfijalkibaaGreatDoor
/- slices.Concat of three lists of lines; price.join; walked. -/
set_option linter.unusedSimpArgs false
namespace Go.Proofs.YtelchfijalkibaaGreatDoor
open Go.RowKit Go.Lib

set_option maxRecDepth 100000 in
set_option maxHeartbeats 4000000 in
theorem concat3_any {b : Nat} {A1 A2 A3 : Option Addr} {c1 c2 c3 c : Nat} {l1 l2 l3 : List Ln} {w : World} (hb : b < w.heap.size) (h0 : w.cell? ⟨b, 0, none⟩ = some (.slice A1 l1.length c1)) (h1 : w.cell? ⟨b, 1, none⟩ = some (.slice A2 l2.length c2)) (h2 : w.cell? ⟨b, 2, none⟩ = some (.slice A3 l3.length c3))
    (r1 : Rd encLn 2 w w.heap.size A1 l1) (r2 : Rd encLn 2 w w.heap.size A2 l2) (r3 : Rd encLn 2 w w.heap.size A3 l3) (hl1 : l1.length ≤ 1000) (hl2 : l2.length ≤ 1000) (hl3 : l3.length ≤ 1000) :
    Calls Tryz.prog 56 #[.slice (some ⟨b, 0, none⟩) 3 c] w fun e w' => ∃ A9 c9, e = .returned (.slice A9 (l1.length + l2.length + l3.length) c9) ∧ Own 104 encLn 2 w' w.heap.size A9 c9 (l1 ++ l2 ++ l3) ∧ Below w.heap.size w w' := by
  have CG := growL_any (l1.length + l2.length + l3.length) (by omega) w
  rw [Int.natCast_add, Int.natCast_add] at CG
  have CG := Lib.hid CG
  have n1 : ¬ (l1.length : Int) < 0 := by omega
  have n2 : ¬ (l1.length : Int) + (l2.length : Int) < 0 := by omega
  have n3 : ¬ (l1.length : Int) + (l2.length : Int) + (l3.length : Int) < 0 := by omega
  have w1 : IntKind.i64.wrap ((l1.length : Int) + (l2.length : Int)) = (l1.length : Int) + (l2.length : Int) := IntWalk.i64_in _ (by omega)
  have w2 : IntKind.i64.wrap ((l1.length : Int) + (l2.length : Int) + (l3.length : Int)) = (l1.length : Int) + (l2.length : Int) + (l3.length : Int) := IntWalk.i64_in _ (by omega)
  have R1 := Lib.hid r1
  have R2 := Lib.hid r2
  have R3 := Lib.hid r3
  have HB := Lib.hid hb
  have H0 := Lib.hid h0
  have H1 := Lib.hid h1
  have H2 := Lib.hid h2
  clear r1 r2 r3 hb
  go_enter Tryz.func56, Tryz.ntmps56
  go_wp2
  refine wp_loop_rounds 4 ?_
  rw [rounds_succ]
  go_wp2
  rw [rounds_succ]
  go_wp2
  rw [rounds_succ]
  go_wp2
  rw [rounds_succ]
  go_wp2_with fail
  refine CG.out.mono ?_
  rintro e W2 ⟨A3', c3', rfl, hown, hbn⟩
  have h0 := (World.cell?_of_block (hbn.block b HB.out)).trans H0.out
  have h1 := (World.cell?_of_block (hbn.block b HB.out)).trans H1.out
  have h2 := (World.cell?_of_block (hbn.block b HB.out)).trans H2.out
  have hr1 := R1.out.keep hbn
  have hr2 := R2.out.keep hbn
  have hr3 := R3.out.keep hbn
  have hsz := hbn.size
  have HBN := Lib.hid hbn
  have hb2 : b < W2.heap.size := Nat.lt_of_lt_of_le HB.out hsz
  clear hbn CG
  go_wp2
  refine wp_loop_rounds 4 ?_
  rw [rounds_succ]
  go_wp2_with (at_builtin; refine wpList_appS rfl (.tmp 31) (.tmp 32) tyLn encLn_ok rfl w.heap.size rfl rfl hown l1 rfl rfl hr1 (by simp; omega) (by simp; omega) hsz ?_; intro A4 c4 w4 hown4 hb4 hs4 hf4; rw [List.nil_append] at hown4; have hr24 := hr2.keep hb4; have hr34 := hr3.keep hb4; have h14 := (hf4 ⟨b, 1, none⟩ hb2 (fun g hg => by have := hown.addr; rcases hown.form with ⟨q, _⟩ | ⟨g', q, q2, _⟩; (rw [q] at hg; cases hg); (rw [q] at hg; injection hg with hg; injection hg with hg; subst hg; show b ≠ g'; have := HB.out; omega))).trans h1; have h24 := (hf4 ⟨b, 2, none⟩ hb2 (fun g hg => by have := hown.addr; rcases hown.form with ⟨q, _⟩ | ⟨g', q, q2, _⟩; (rw [q] at hg; cases hg); (rw [q] at hg; injection hg with hg; injection hg with hg; subst hg; show b ≠ g'; have := HB.out; omega))).trans h2)
  have hs14 : w.heap.size ≤ w4.heap.size := Nat.le_trans hsz hs4
  have hb24 : b < w4.heap.size := Nat.lt_of_lt_of_le hb2 hs4
  rw [rounds_succ]
  go_wp2_with (at_builtin; refine wpList_appS rfl (.tmp 31) (.tmp 32) tyLn encLn_ok rfl w.heap.size rfl (by simp) hown4 l2 rfl rfl hr24 (by omega) (by omega) hs14 ?_; intro A5 c5 w5 hown5 hb5 hs5 hf5; have hr35 := hr34.keep hb5; have h25 := (hf5 ⟨b, 2, none⟩ hb24 (fun g hg => by have := hown4.addr; rcases hown4.form with ⟨q, _⟩ | ⟨g', q, q2, _⟩; (rw [q] at hg; cases hg); (rw [q] at hg; injection hg with hg; injection hg with hg; subst hg; show b ≠ g'; have := HB.out; omega))).trans h24)
  have hs15 : w.heap.size ≤ w5.heap.size := Nat.le_trans hs14 hs5
  have hll : (l1 ++ l2).length = l1.length + l2.length := by simp
  rw [rounds_succ]
  go_wp2_with (at_builtin; refine wpList_appS rfl (.tmp 31) (.tmp 32) tyLn encLn_ok rfl w.heap.size rfl (by rw [List.length_append]) hown5 l3 rfl rfl hr35 (by rw [hll]; omega) (by rw [hll]; omega) hs15 ?_; intro A6 c6 w6 hown6 hb6 hs6 hf6)
  rw [rounds_succ]
  go_wp2_with fail
  go_ret
  exact ⟨A6, c6, by simp [hll], hown6, HBN.out.trans (hb4.trans (hb5.trans hb6))⟩

set_option maxRecDepth 100000 in
set_option maxHeartbeats 2000000 in
theorem join3_any {b : Nat} {A1 A2 A3 : Option Addr} {c1 c2 c3 c : Nat} {l1 l2 l3 : List Ln} {w : World} (hb : b < w.heap.size) (h0 : w.cell? ⟨b, 0, none⟩ = some (.slice A1 l1.length c1)) (h1 : w.cell? ⟨b, 1, none⟩ = some (.slice A2 l2.length c2)) (h2 : w.cell? ⟨b, 2, none⟩ = some (.slice A3 l3.length c3))
    (r1 : Rd encLn 2 w w.heap.size A1 l1) (r2 : Rd encLn 2 w w.heap.size A2 l2) (r3 : Rd encLn 2 w w.heap.size A3 l3) (hl1 : l1.length ≤ 1000) (hl2 : l2.length ≤ 1000) (hl3 : l3.length ≤ 1000) :
    Calls Tryz.prog 25 #[.slice (some ⟨b, 0, none⟩) 3 c] w fun e w' => ∃ A9 c9, e = .returned (.slice A9 (l1.length + l2.length + l3.length) c9) ∧ Own 104 encLn 2 w' w.heap.size A9 c9 (l1 ++ l2 ++ l3) ∧ Below w.heap.size w w' := by
  have C := Lib.hid (concat3_any (c := c) hb h0 h1 h2 r1 r2 r3 hl1 hl2 hl3)
  clear r1 r2 r3 h0 h1 h2 hb
  go_enter Tryz.func25, Tryz.ntmps25
  go_wp2_with fail
  refine C.out.mono ?_
  rintro e W2 ⟨A9, c9, rfl, hown, hbn⟩
  go_wp2_with fail
  go_ret
  exact ⟨A9, c9, rfl, hown, hbn⟩
end Go.Proofs.YtelchfijalkibaaGreatDoor
/- Slices of discounts, their type. -/
set_option linter.unusedSimpArgs false
namespace Go.Proofs.YtelchfijalkibaaGreatDoor
open Go.RowKit Go.Lib
theorem tyDc : TyS Tryz.prog 36 99 10 104 := TyS.mk' (z := .agg #[.string ⟨#[]⟩, .int .i64 0, .int .i64 0, .string ⟨#[]⟩, .string ⟨#[]⟩, .int .i64 0, .int .i64 0, .int .i64 0, .int .i64 0, .int .i64 0]) Tryz.underlying36 (by kernel_rfl) rfl (by omega)
end Go.Proofs.YtelchfijalkibaaGreatDoor
/- price.sum, price.Check, the reference's lines and Check, walked. -/
set_option linter.unusedSimpArgs false
namespace Go.Proofs.YtelchfijalkibaaGreatDoor
open Go.RowKit Go.Lib

set_option maxRecDepth 100000 in
set_option maxHeartbeats 4000000 in
theorem psum_any {A : Option Addr} (c : Nat) {l : List Ln} {w : World} (h : Rd encLn 2 w w.heap.size A l) (hl : l.length ≤ 1000) (hm : Mst l) :
    Calls Tryz.prog 27 #[.slice A l.length c] w fun e w' => e = .returned (.int .i64 (sumL l)) ∧ Below w.heap.size w w' := by
  have H := Lib.hid h
  have HM := Lib.hid hm
  clear h hm
  have hlb : (l.length : Int) ≤ 1000 := by omega
  go_enter Tryz.func27, Tryz.ntmps27
  go_wp2_with fail
  go_loopw [3, 8] (fun s i wr => ∃ k : Nat, k ≤ l.length ∧ i = .int .i64 k ∧ s = .int .i64 (sumL (l.take k)) ∧ Below w.heap.size w wr) (fun _ i _ => l.length - (RowKit.intOf i).toNat)
  case atStart => exact ⟨0, Nat.zero_le _, rfl, rfl, Below.refl _ _⟩
  case round =>
    obtain ⟨k, hk, rfl, rfl, hwr⟩ := hrel
    by_cases hi : k < l.length
    · obtain ⟨b, off, s, n, rfl, hb, hx, d0, d1⟩ := (H.out.st hwr).ln hi
      have hs := sumL_snoc hx
      have hbk := sumL_bnd (HM.out.take k)
      have hbn := fitsB_bnd (HM.out _ (List.mem_of_getElem? hx))
      simp only at hs hbn
      rw [List.length_take, Nat.min_eq_left (Nat.le_of_lt hi)] at hbk
      have HK := Lib.hid hi
      have HS := Lib.hid hs
      have hws : IntKind.i64.wrap (sumL (l.take k) + n) = sumL (l.take k) + n := IntWalk.i64_in _ (by omega)
      clear hs hbk hbn hx hi hb
      obtain ⟨Y5, hY5⟩ : ∃ Y, wr.alloc (.cells #[.string s, .int .i64 n] 104) = Y := ⟨_, rfl⟩
      have BS : Blk Y5 wr.heap.size #[.string s, .int .i64 n] 104 := by rw [← hY5]; exact Blk.new _ _ _
      have hbn : Below wr.heap.size wr Y5 := by rw [← hY5]; exact (Below.refl _ _).al _
      have hw5 := hwr.st hbn
      have s1 := BS.cell 1 (v := .int .i64 n) rfl
      generalize sumL (l.take k) = sk at *
      clear hbn hwr
      go_wp2_with fail
      go_roundw
      case rel => exact ⟨k + 1, HK.out, by go_num, by rw [HS.out], hw5⟩
      case measure => have := HK.out; simp [RowKit.intOf]; omega
    · obtain rfl : k = l.length := by omega
      rw [List.take_length]
      go_wp2_with fail
      go_ret
      exact ⟨rfl, hwr⟩

end Go.Proofs.YtelchfijalkibaaGreatDoor
