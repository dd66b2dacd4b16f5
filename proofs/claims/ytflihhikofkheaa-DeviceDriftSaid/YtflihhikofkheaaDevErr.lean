/- The errors of devices in plain words; the program's offsets and outages, the reference's one, walked. -/
import Derived.Test.YtflihhikofkheaaDevPt
import Derived.Test.YtflihhikofkheaaName
import Derived.Test.YtflihhikofkheaaFirst
import Derived.Test.YtflihhikofkheaaJoin
import Derived.BigQuiet
import Derived.IntWalk
namespace Go.Proofs.Ytflihhikofkheaa
open Go.RowKit Go.Lib

def prev1 (l : List Iv) (i : Nat) : Int := ((l[i - 1]?).map fun x => x.1).getD 0
def prev2 (l : List Iv) (i : Nat) : Int := ((l[i - 1]?).map fun x => x.2).getD 0
def offX (i : Nat) (p : Int) (o : Iv) : Int := if 0 < i ∧ o.1 ≤ p then 15 else if tB o.1 = false ∨ o.2 < -86400 ∨ 86400 < o.2 then 1 else 0
def offE (l : List Iv) (i : Nat) : Int := ((l[i]?).map fun o => offX i (prev1 l i) o).getD 0
def downX (i : Nat) (p : Int) (o : Iv) : Int := if validB o.1 o.2 = false then 12 else if 0 < i ∧ o.1 ≤ p then 15 else 0
def downE (l : List Iv) (i : Nat) : Int := ((l[i]?).map fun o => downX i (prev2 l i) o).getD 0
def offsE (l : List Iv) : Int := firstE (offE l) l.length
def downsE (l : List Iv) : Int := firstE (downE l) l.length
def kindB (d : Dv) : Bool := decide (1 ≤ d.kind ∧ d.kind ≤ 3 ∧ 0 ≤ d.lane ∧ d.lane ≤ 15)
def oneE (ps : List Pt) (d : Dv) : Int := if hasPt ps d.pt = false then 16 else if kindB d = false then 1 else if offsE d.os ≠ 0 then offsE d.os else downsE d.ds
def devX (ps : List Pt) (dup : Bool) (d : Dv) : Int := if nameB d.name = false then 6 else if dup = true then 9 else oneE ps d
def devE (ps : List Pt) (l : List Dv) (i : Nat) : Int := ((l[i]?).map fun d => devX ps ((l.take i).any fun y => eqS y.name d.name) d).getD 0
def devsE (ps : List Pt) (l : List Dv) : Int := if 1024 < l.length then 3 else firstE (devE ps l) l.length

theorem offE_at {l : List Iv} {i : Nat} {o : Iv} (h : l[i]? = some o) : offE l i = offX i (prev1 l i) o := by unfold offE; rw [h]; rfl
theorem downE_at {l : List Iv} {i : Nat} {o : Iv} (h : l[i]? = some o) : downE l i = downX i (prev2 l i) o := by unfold downE; rw [h]; rfl
theorem devE_at {ps : List Pt} {l : List Dv} {i : Nat} {d : Dv} (h : l[i]? = some d) : devE ps l i = devX ps ((l.take i).any fun y => eqS y.name d.name) d := by unfold devE; rw [h]; rfl
theorem prev1_at {l : List Iv} {i : Nat} {o : Iv} (h : l[i - 1]? = some o) : prev1 l i = o.1 := by unfold prev1; rw [h]; rfl
theorem prev2_at {l : List Iv} {i : Nat} {o : Iv} (h : l[i - 1]? = some o) : prev2 l i = o.2 := by unfold prev2; rw [h]; rfl
/-- the element ahead of i, where there is one -/
theorem Rd.ivPrev {w : World} {B : Nat} {b off : Nat} {l : List Iv} (h : Rd encIv 2 w B (some ⟨b, off, none⟩) l) {i : Nat} (h0 : 0 < i) (hi : i < l.length) :
    ∃ f t, l[i - 1]? = some (f, t) ∧ w.cell? ⟨b, off + (i - 1) * 2, none⟩ = some (.int .i64 f) ∧ w.cell? ⟨b, off + (i - 1) * 2 + 1, none⟩ = some (.int .i64 t) := by
  obtain ⟨b', off', f, t, hA, _, hx, c0, c1⟩ := h.iv (show i - 1 < l.length by omega)
  injection hA with hA
  injection hA with h1 h2
  subst h1 h2
  exact ⟨f, t, hx, c0, c1⟩
theorem Rd.ivPrev0 {w : World} {B : Nat} {A : Option Addr} {l : List Iv} (h : Rd encIv 2 w B A l) {i : Nat} (h0 : 0 < i) (hi : i < l.length) :
    ∀ b off, A = some ⟨b, off, none⟩ → ∃ f t, l[i - 1]? = some (f, t) ∧ w.cell? ⟨b, off + (i - 1) * 2, none⟩ = some (.int .i64 f) ∧ w.cell? ⟨b, off + (i - 1) * 2 + 1, none⟩ = some (.int .i64 t) := by
  rintro b off rfl
  exact h.ivPrev h0 hi

theorem offX_15 {i : Nat} {p : Int} {x y : Int} (h : 0 < i) (h2 : x ≤ p) : offX i p (x, y) = 15 := by unfold offX; rw [if_pos ⟨h, h2⟩]
theorem offX_1 {i : Nat} {p : Int} {x y : Int} (h : ¬ (0 < i ∧ x ≤ p)) (h2 : tB x = false ∨ y < -86400 ∨ 86400 < y) : offX i p (x, y) = 1 := by unfold offX; rw [if_neg h, if_pos h2]
theorem offX_0 {i : Nat} {p : Int} {x y : Int} (h : ¬ (0 < i ∧ x ≤ p)) (h2 : tB x = true) (h3 : ¬ y < -86400) (h4 : ¬ 86400 < y) : offX i p (x, y) = 0 := by unfold offX; rw [if_neg h, if_neg (by simp only [h2]; simp; omega)]
theorem downX_12 {i : Nat} {p : Int} {x y : Int} (h : validB x y = false) : downX i p (x, y) = 12 := by unfold downX; rw [if_pos h]
theorem downX_15 {i : Nat} {p : Int} {x y : Int} (h : validB x y = true) (h1 : 0 < i) (h2 : x ≤ p) : downX i p (x, y) = 15 := by unfold downX; rw [if_neg (by rw [h]; simp), if_pos ⟨h1, h2⟩]
theorem downX_0 {i : Nat} {p : Int} {x y : Int} (h : validB x y = true) (h1 : ¬ (0 < i ∧ x ≤ p)) : downX i p (x, y) = 0 := by unfold downX; rw [if_neg (by rw [h]; simp), if_neg h1]

set_option maxHeartbeats 4000000 in
theorem offsets_any {A : Option Addr} (c : Nat) {l : List Iv} {w : World} (h : Rd encIv 2 w w.heap.size A l) (hl : l.length ≤ 100000000000) :
    Calls Try.prog 29 #[.slice A l.length c] w fun e w' => e = .returned (.int .i64 (offsE l)) ∧ Below w.heap.size w w' := by
  have HR := Lib.hid (show offsE l = firstE (offE l) l.length from rfl)
  generalize offsE l = r at *
  have H := Lib.hid h
  clear h
  go_enter Try.func29, Try.ntmps29
  go_wp2_with fail
  go_loopw [7] (fun i wr => ∃ k : Nat, k ≤ l.length ∧ i = .int .i64 k ∧ Hid (∀ j, j < k → offE l j = 0) ∧ Below w.heap.size w wr) (fun i _ => l.length - (intOf i).toNat)
  case atStart => exact ⟨0, Nat.zero_le _, rfl, fun j hj => absurd hj (Nat.not_lt_zero _), Below.refl _ _⟩
  case round =>
    obtain ⟨k, hk, rfl, HZ, hbel⟩ := hrel
    by_cases hi : k < l.length
    · have hr := H.out.keep hbel
      have hp := fun h0 : 0 < k => hr.ivPrev0 h0 hi
      obtain ⟨b, off, x, y, rfl, hb, hx, c0, c1⟩ := hr.iv hi
      have he := offE_at hx
      have hi1 : (0 : Int) ≤ (k : Int) := by omega
      have hi2 : (k : Int) < (l.length : Int) := by omega
      have hbw : b < wr.heap.size := Nat.lt_of_lt_of_le hb hbel.size
      have hbal : Below w.heap.size w (wr.alloc (.cells #[.int .i64 x, .int .i64 y] 57)) := hbel.al _
      have CT := Lib.hid (fun W => time_any x W)
      have HL := Lib.hid hi
      clear hx H hr
      by_cases hk0 : 0 < k
      · obtain ⟨f, t, hpx, e0, e1⟩ := hp hk0 b off rfl
        have hpv := prev1_at hpx
        simp only at hpv
        rw [hpv] at he
        have g1 : (0 : Int) < (k : Int) := by omega
        have g2 : (0 : Int) ≤ (k : Int) - 1 := by omega
        have g3 : (k : Int) - 1 < (l.length : Int) := by omega
        have g4 : ((k : Int) - 1).toNat = k - 1 := by omega
        have g5 : IntKind.i64.wrap ((k : Int) - 1) = (k : Int) - 1 := IntWalk.i64_in _ (by omega)
        have g6 : decide ((0 : Int) < (k : Int)) = true := decide_eq_true g1
        have g8 : decide (0 < k) = true := decide_eq_true (by omega)
        have d3 := (World.cell?_alloc_lt wr (.cells #[.int .i64 x, .int .i64 y] 57) ⟨b, off + (k - 1) * 2, none⟩ hbw).trans e0
        clear hpx hp e0 e1 hpv
        by_cases hle : x ≤ f
        · rw [offX_15 hk0 hle] at he
          have R := Lib.hid (show r = 15 by rw [HR.out, firstE_some HZ.out hi (by rw [he]; decide), he])
          clear he CT
          go_wp2_with fail
          go_quiet (fail)
          go_wp2
          all_goals (go_ret; rw [R.out]; exact ⟨rfl, below_drewN hbal _⟩)
        · have hn : ¬ (0 < k ∧ x ≤ f) := fun q => hle q.2
          (cases ht : tB x; (focus rw [ht] at CT; rw [offX_1 hn (.inl ht)] at he; (have R := Lib.hid (show r = 1 by rw [HR.out, firstE_some HZ.out hi (by rw [he]; decide), he])); clear he ht hn; go_wp2_with fail; go_quiet (fail); go_wp2_with (go_at_call 33; (refine (CT.out _).mono ?_); rintro e w' ⟨rfl, rfl⟩); all_goals (go_ret; rw [R.out]; exact ⟨rfl, below_drewN hbal _⟩)); (focus rw [ht] at CT; by_cases h1 : y < -86400; (focus rw [offX_1 hn (.inr (.inl h1))] at he; (have R := Lib.hid (show r = 1 by rw [HR.out, firstE_some HZ.out hi (by rw [he]; decide), he])); clear he ht hn; go_wp2_with fail; go_quiet (fail); go_wp2_with (go_at_call 33; (refine (CT.out _).mono ?_); rintro e w' ⟨rfl, rfl⟩); all_goals (go_ret; rw [R.out]; exact ⟨rfl, below_drewN hbal _⟩)); (focus by_cases h2 : 86400 < y; (focus rw [offX_1 hn (.inr (.inr h2))] at he; (have R := Lib.hid (show r = 1 by rw [HR.out, firstE_some HZ.out hi (by rw [he]; decide), he])); clear he ht hn; go_wp2_with fail; go_quiet (fail); go_wp2_with (go_at_call 33; (refine (CT.out _).mono ?_); rintro e w' ⟨rfl, rfl⟩); all_goals (go_ret; rw [R.out]; exact ⟨rfl, below_drewN hbal _⟩)); (focus rw [offX_0 hn ht h1 h2] at he; (have HK := Lib.hid (firstE_up HZ.out he)); clear he ht hn; go_wp2_with fail; go_quiet (fail); go_wp2_with (go_at_call 33; (refine (CT.out _).mono ?_); rintro e w' ⟨rfl, rfl⟩); go_roundw; (case rel => exact ⟨k + 1, HL.out, by go_num, HK, below_drewN hbal _⟩); (case measure => (simp [intOf]; omega))))))
      · have hn : ¬ (0 < k ∧ x ≤ prev1 l k) := fun q => hk0 q.1
        have g6 : decide ((0 : Int) < (k : Int)) = false := decide_eq_false (by omega)
        have g8 : decide (0 < k) = false := decide_eq_false (by omega)
        clear hp
        (cases ht : tB x; (focus rw [ht] at CT; rw [offX_1 hn (.inl ht)] at he; (have R := Lib.hid (show r = 1 by rw [HR.out, firstE_some HZ.out hi (by rw [he]; decide), he])); clear he ht hn; go_wp2_with fail; go_quiet (fail); go_wp2_with (go_at_call 33; (refine (CT.out _).mono ?_); rintro e w' ⟨rfl, rfl⟩); all_goals (go_ret; rw [R.out]; exact ⟨rfl, below_drewN hbal _⟩)); (focus rw [ht] at CT; by_cases h1 : y < -86400; (focus rw [offX_1 hn (.inr (.inl h1))] at he; (have R := Lib.hid (show r = 1 by rw [HR.out, firstE_some HZ.out hi (by rw [he]; decide), he])); clear he ht hn; go_wp2_with fail; go_quiet (fail); go_wp2_with (go_at_call 33; (refine (CT.out _).mono ?_); rintro e w' ⟨rfl, rfl⟩); all_goals (go_ret; rw [R.out]; exact ⟨rfl, below_drewN hbal _⟩)); (focus by_cases h2 : 86400 < y; (focus rw [offX_1 hn (.inr (.inr h2))] at he; (have R := Lib.hid (show r = 1 by rw [HR.out, firstE_some HZ.out hi (by rw [he]; decide), he])); clear he ht hn; go_wp2_with fail; go_quiet (fail); go_wp2_with (go_at_call 33; (refine (CT.out _).mono ?_); rintro e w' ⟨rfl, rfl⟩); all_goals (go_ret; rw [R.out]; exact ⟨rfl, below_drewN hbal _⟩)); (focus rw [offX_0 hn ht h1 h2] at he; (have HK := Lib.hid (firstE_up HZ.out he)); clear he ht hn; go_wp2_with fail; go_quiet (fail); go_wp2_with (go_at_call 33; (refine (CT.out _).mono ?_); rintro e w' ⟨rfl, rfl⟩); go_roundw; (case rel => exact ⟨k + 1, HL.out, by go_num, HK, below_drewN hbal _⟩); (case measure => (simp [intOf]; omega))))))
    · obtain rfl : k = l.length := by omega
      have R := Lib.hid (show r = 0 by rw [HR.out, firstE_none HZ.out])
      go_wp2
      go_ret
      rw [R.out]
      exact ⟨rfl, hbel⟩

set_option maxHeartbeats 4000000 in
theorem outages_any {A : Option Addr} (c : Nat) {l : List Iv} {w : World} (h : Rd encIv 2 w w.heap.size A l) (hl : l.length ≤ 100000000000) :
    Calls Try.prog 30 #[.slice A l.length c] w fun e w' => e = .returned (.int .i64 (downsE l)) ∧ Below w.heap.size w w' := by
  have HR := Lib.hid (show downsE l = firstE (downE l) l.length from rfl)
  generalize downsE l = r at *
  have H := Lib.hid h
  clear h
  go_enter Try.func30, Try.ntmps30
  go_wp2_with fail
  go_loopw [7] (fun i wr => ∃ k : Nat, k ≤ l.length ∧ i = .int .i64 k ∧ Hid (∀ j, j < k → downE l j = 0) ∧ Below w.heap.size w wr) (fun i _ => l.length - (intOf i).toNat)
  case atStart => exact ⟨0, Nat.zero_le _, rfl, fun j hj => absurd hj (Nat.not_lt_zero _), Below.refl _ _⟩
  case round =>
    obtain ⟨k, hk, rfl, HZ, hbel⟩ := hrel
    by_cases hi : k < l.length
    · have hr := H.out.keep hbel
      have hp := fun h0 : 0 < k => hr.ivPrev0 h0 hi
      obtain ⟨b, off, x, y, rfl, hb, hx, c0, c1⟩ := hr.iv hi
      have he := downE_at hx
      have hi1 : (0 : Int) ≤ (k : Int) := by omega
      have hi2 : (k : Int) < (l.length : Int) := by omega
      have hbw : b < wr.heap.size := Nat.lt_of_lt_of_le hb hbel.size
      obtain ⟨Y, hY⟩ : ∃ Y, wr.alloc (.cells #[.int .i64 x, .int .i64 y] 48) = Y := ⟨_, rfl⟩
      have bY : Blk Y wr.heap.size #[.int .i64 x, .int .i64 y] 48 := by rw [← hY]; exact Blk.new wr _ _
      have hbY : Below w.heap.size w Y := by rw [← hY]; exact hbel.al _
      have hbwY : b < Y.heap.size := by rw [← hY]; simp; omega
      have CS := Lib.hid (valid_any x y Y)
      have i0 : World.cell? Y ⟨wr.heap.size, 0, none⟩ = some (.int .i64 x) := bY.cell 0 rfl
      have i1 : World.cell? Y ⟨wr.heap.size, 1, none⟩ = some (.int .i64 y) := bY.cell 1 rfl
      have ltY := bY.lt
      have HL := Lib.hid hi
      clear hx H hr
      cases hv : validB x y
      · rw [hv] at CS
        rw [downX_12 hv] at he
        have R := Lib.hid (show r = 12 by rw [HR.out, firstE_some HZ.out hi (by rw [he]; decide), he])
        clear he hv hp
        go_wp2_with fail
        refine CS.out.mono ?_
        rintro e w2 ⟨rfl, rfl⟩
        go_wp2
        all_goals (go_ret; rw [R.out]; exact ⟨rfl, hbY.al _⟩)
      · rw [hv] at CS
        have i0' := (World.cell?_alloc_lt Y (.cells #[.int .i64 x, .int .i64 y] 48) ⟨wr.heap.size, 0, none⟩ ltY).trans i0
        by_cases hk0 : 0 < k
        · obtain ⟨f, t, hpx, e0, e1⟩ := hp hk0 b off rfl
          have hpv := prev2_at hpx
          simp only at hpv
          rw [hpv] at he
          have g1 : (0 : Int) < (k : Int) := by omega
          have g2 : (0 : Int) ≤ (k : Int) - 1 := by omega
          have g3 : (k : Int) - 1 < (l.length : Int) := by omega
          have g4 : ((k : Int) - 1).toNat = k - 1 := by omega
          have g5 : IntKind.i64.wrap ((k : Int) - 1) = (k : Int) - 1 := IntWalk.i64_in _ (by omega)
          have g6 : decide ((0 : Int) < (k : Int)) = true := decide_eq_true g1
          have g8 : decide (0 < k) = true := decide_eq_true (by omega)
          have d2 : World.cell? Y ⟨b, off + (k - 1) * 2 + 1, none⟩ = some (.int .i64 t) := by rw [← hY]; exact (World.cell?_alloc_lt wr _ ⟨b, off + (k - 1) * 2 + 1, none⟩ hbw).trans e1
          have d3 := (World.cell?_alloc_lt Y (.cells #[.int .i64 x, .int .i64 y] 48) ⟨b, off + (k - 1) * 2 + 1, none⟩ hbwY).trans d2
          clear hpx hp e0 e1 hpv d2
          by_cases hle : x ≤ t
          · rw [downX_15 hv hk0 hle] at he
            have R := Lib.hid (show r = 15 by rw [HR.out, firstE_some HZ.out hi (by rw [he]; decide), he])
            clear he hv
            go_wp2_with fail
            refine CS.out.mono ?_
            rintro e w2 ⟨rfl, rfl⟩
            go_wp2_with fail
            go_quiet (fail)
            go_wp2
            all_goals (go_ret; rw [R.out]; exact ⟨rfl, below_drewN (hbY.al _) _⟩)
          · rw [downX_0 hv (fun q => hle q.2)] at he
            have HK := Lib.hid (firstE_up HZ.out he)
            clear he hv
            go_wp2_with fail
            refine CS.out.mono ?_
            rintro e w2 ⟨rfl, rfl⟩
            go_wp2_with fail
            go_quiet (fail)
            go_wp2
            go_roundw
            case rel => exact ⟨k + 1, HL.out, by go_num, HK, below_drewN (hbY.al _) _⟩
            case measure => simp [intOf]; omega
        · rw [downX_0 hv (fun q => hk0 q.1)] at he
          have HK := Lib.hid (firstE_up HZ.out he)
          have g6 : decide ((0 : Int) < (k : Int)) = false := decide_eq_false (by omega)
          have g8 : decide (0 < k) = false := decide_eq_false (by omega)
          clear he hv hp
          go_wp2_with fail
          refine CS.out.mono ?_
          rintro e w2 ⟨rfl, rfl⟩
          go_wp2_with fail
          go_quiet (fail)
          go_wp2
          go_roundw
          case rel => exact ⟨k + 1, HL.out, by go_num, HK, below_drewN (hbY.al _) _⟩
          case measure => simp [intOf]; omega
    · obtain rfl : k = l.length := by omega
      have R := Lib.hid (show r = 0 by rw [HR.out, firstE_none HZ.out])
      go_wp2
      go_ret
      rw [R.out]
      exact ⟨rfl, hbel⟩
end Go.Proofs.Ytflihhikofkheaa
