/- The law DetectWhole, walked. -/
import Derived.Test.YtgkppjkmakomnaaDetLaw2
set_option linter.unusedSimpArgs false
namespace Go.Proofs.Ytgkppjkmakomnaa
open Go.RowKit Go.Lib

theorem raw_mem {l : List Dv} {ds : List Dt} {S : List Sn} {R : List Rj} (ho : SiftOf l ds S R) (x : Dt) : x ∈ rawL S R ↔ x ∈ ds := by
  unfold rawL
  rw [List.mem_append, List.mem_map, List.mem_map]
  constructor
  · rintro (⟨s, hs, rfl⟩ | ⟨r, hr, rfl⟩)
    · obtain ⟨y, hy, h0, rfl⟩ := (ho.2.2.1 s).1 hs
      rw [whyF_zero h0]; exact hy
    · obtain ⟨y, hy, h0, rfl⟩ := (ho.2.2.2 r).1 hr
      exact hy
  · intro hx
    by_cases h0 : whyF l ds x = 0
    · exact Or.inl ⟨corS l x, (ho.2.2.1 _).2 ⟨x, hx, h0, rfl⟩, whyF_zero h0⟩
    · exact Or.inr ⟨⟨x, whyF l ds x⟩, (ho.2.2.2 _).2 ⟨x, hx, h0, rfl⟩, rfl⟩
theorem pair_map_ne {α β : Type} (f : α → β) : ∀ (S : List α), S.Pairwise (fun a b => a ≠ b) → (∀ a ∈ S, ∀ b ∈ S, f a = f b → a = b) → (S.map f).Pairwise (fun a b => a ≠ b)
  | [], _, _ => List.Pairwise.nil
  | s :: S, hp, hi => by
    have hp' := List.pairwise_cons.1 hp
    rw [List.map_cons]
    refine List.pairwise_cons.2 ⟨fun d hd e => ?_, pair_map_ne f S hp'.2 fun a ha b hb => hi a (List.mem_cons_of_mem _ ha) b (List.mem_cons_of_mem _ hb)⟩
    obtain ⟨b, hb, q⟩ := List.mem_map.1 hd
    exact hp'.1 b hb (hi s (by simp) b (by simp [hb]) (e.trans q.symm))
theorem raw_ne {l : List Dv} {ds : List Dt} {S : List Sn} {R : List Rj} (ho : SiftOf l ds S R) : (rawL S R).Pairwise (fun a b => a ≠ b) := by
  have hS : ∀ s ∈ S, whyF l ds s.d = 0 ∧ s = corS l s.d := fun s hs => by
    obtain ⟨y, hy, h0, rfl⟩ := (ho.2.2.1 s).1 hs
    rw [whyF_zero h0]; exact ⟨h0, rfl⟩
  have hR : ∀ r ∈ R, whyF l ds r.d ≠ 0 ∧ r = ⟨r.d, whyF l ds r.d⟩ := fun r hr => by
    obtain ⟨y, hy, h0, rfl⟩ := (ho.2.2.2 r).1 hr
    exact ⟨h0, rfl⟩
  unfold rawL
  rw [List.pairwise_append]
  refine ⟨?_, ?_, fun a ha b hb e => ?_⟩
  · refine pair_map_ne Sn.d S (ho.1.imp fun {a b} h q => ?_) fun a ha b hb e => ?_
    · subst q; rw [cmpSn_self] at h; omega
    · rw [(hS a ha).2, (hS b hb).2, e]
  · refine pair_map_ne Rj.d R (ho.2.1.imp fun {a b} h q => ?_) fun a ha b hb e => ?_
    · subst q; rw [cmpRj_self] at h; omega
    · rw [(hR a ha).2, (hR b hb).2, e]
  · subst e
    obtain ⟨s, hs, rfl⟩ := List.mem_map.1 ha
    obtain ⟨r, hr, q⟩ := List.mem_map.1 hb
    have h1 := (hS s hs).1
    have h2 := (hR r hr).1
    rw [q] at h2
    exact h2 h1
theorem mem_take_snoc {l : List Dt} {m : Nat} {x y : Dt} (h : l[m]? = some x) : y ∈ l.take (m + 1) ↔ y ∈ l.take m ∨ y = x := by
  rw [take_snoc h, List.mem_append, List.mem_singleton]
theorem eqDt_false {x y : Dt} (h : x ≠ y) : eqDt x y = false := by
  cases hq : eqDt x y
  · rfl
  · exact absurd ((eqDt_iff _ _).1 hq) h

set_option maxRecDepth 100000 in
set_option maxHeartbeats 16000000 in
theorem detectWhole_walk {A B : Option Addr} (c cb : Nat) {l : List Dv} {ds : List Dt} {w : World} (h : Rd encD 6 w w.heap.size A l) (hz : DsOk w l) (hm : l.length ≤ 9223372036854775807) (hd : Rd encDt 7 w w.heap.size B ds) (hm2 : ds.length ≤ 9223372036854775807) (hk : ∀ x ∈ ds, SeqOk x) :
    Calls Try.prog 10 #[.slice A l.length c, .slice B ds.length cb] w fun e w' => e = .returned (.bool true) ∧ Below w.heap.size w w' := by
  have CF := Lib.hid (fun (X : World) (hX : Below w.heap.size w X) => fewDevices_any c (h.st hX) hm)
  have CW := Lib.hid (fun (X : World) (hX : Below w.heap.size w X) => few_any cb (hd.st hX) hm2)
  have CC := Lib.hid (fun (g : DevsOk l) (q : FwOk ds) (X : World) (hX : Below w.heap.size w X) => sift_any (l := l) c cb (h.st hX) (hz.st hX) g.sm g.len (hd.st hX) (by have := q.1; omega) q.2 (fun x hx => (hk x hx).src (q.2 x hx)))
  have HRD := Lib.hid (fun (X : World) (hX : Below w.heap.size w X) => hd.st hX)
  clear h hz hm hd hm2 hk
  have bW := Below.refl w.heap.size w
  go_enter Try.func10, Try.ntmps10
  go_wp2_with fail
  refine (CF.out _ bW).mono ?_
  rintro e w2 ⟨b, rfl, hb, hbn⟩
  have bW := bW.st hbn
  clear hbn CF
  cases b
  · go_wp2_with fail; refine (awake_any _).mono ?_; rintro e wl ⟨rfl, hbl⟩; have bL := bW.st hbl; go_wp2_with fail; go_ret; exact ⟨rfl, bL⟩
  · have G := Lib.hid (hb rfl)
    clear hb
    go_wp2_with fail
    refine (CW.out _ bW).mono ?_
    rintro e w3 ⟨b, rfl, hb, hbn⟩
    have bW := bW.st hbn
    clear hbn CW
    cases b
    · go_wp2_with fail; refine (awake_any _).mono ?_; rintro e wl ⟨rfl, hbl⟩; have bL := bW.st hbl; go_wp2_with fail; go_ret; exact ⟨rfl, bL⟩
    · have Q := Lib.hid (hb rfl)
      have CC := Lib.hid (CC.out G.out Q.out)
      clear hb
      go_wp2_with fail
      refine (CC.out _ bW).mono ?_
      rintro e w4 ⟨S, R, As, Ar, cs, cr, hof, hl1, hl2, rfl, rs, rr, hbn⟩
      have bW := bW.st hbn
      have hq40 := Q.out.1
      have CR := Lib.hid (rRaw_any cs cr rs rr (by omega) (by omega))
      have HME := Lib.hid (fun x => raw_mem hof x)
      have HNE := Lib.hid (raw_ne hof)
      have HAL := Lib.hid (show (rawL S R).length ≤ 100 by rw [rawL_len]; omega)
      have HDL := Lib.hid hq40
      clear hbn CC hof hl1 hl2 rs rr hq40
      generalize rawL S R = al at *
      go_wp2_with fail
      refine CR.out.mono ?_
      rintro e w5 ⟨Aa, ca, rfl, hown, hbn⟩
      have bW := bW.st hbn
      have HA := Lib.hid (hown.rd encDt_ok)
      have HB := Lib.hid (HRD.out _ bW)
      clear hown hbn CR HRD
      have hal := HAL.out
      have hdl := HDL.out
      go_wp2_with fail
      go_loopw [8] (fun i wr => ∃ k : Nat, k ≤ al.length ∧ i = .int .i64 k ∧ Below w5.heap.size w5 wr) (fun i _ => al.length - (intOf i).toNat)
      case atStart => exact ⟨0, Nat.zero_le _, rfl, Below.refl _ _⟩
      case round =>
        obtain ⟨wo, rfl⟩ : ∃ wo, wo = wr := ⟨_, rfl⟩
        obtain ⟨k, hk, rfl, bel⟩ := hrel
        by_cases hi : k < al.length
        · obtain ⟨b, off, u, hA, hb, hy, f0, f1, f2, f3, f4, f5, f6⟩ := HA.out.dt hi
          subst hA
          have hi1 : (0 : Int) ≤ (k : Int) := by omega
          have hi2 : (k : Int) < (al.length : Int) := by omega
          go_wp2_with fail
          go_loopw [9] (fun i wr => ∃ j : Nat, j ≤ k ∧ i = .int .i64 j ∧ Below w5.heap.size w5 wr) (fun i _ => k - (intOf i).toNat)
          case atStart => exact ⟨0, Nat.zero_le _, rfl, bel⟩
          case round =>
            clear bel
            obtain ⟨j, hj, rfl, bel⟩ := hrel
            by_cases hjk : j < k
            · obtain ⟨b', off', v, hA, _, hx, e0, e1, e2, e3, e4, e5, e6⟩ := HA.out.dt (i := j) (by omega)
              simp only [Option.some.injEq, Addr.mk.injEq, and_true] at hA
              obtain ⟨rfl, rfl⟩ := hA
              have hne : eqDt u v = false := eqDt_false (fun e => by
                obtain ⟨_, h1⟩ := List.getElem?_eq_some_iff.1 hy
                obtain ⟨_, h2⟩ := List.getElem?_eq_some_iff.1 hx
                exact List.pairwise_iff_getElem.1 HNE.out j k (by omega) hi hjk (by rw [h1, h2, e]))
              have qe := fun X => eqDt_run (u).dev (v).dev (u).tag (v).tag (u).pl (v).pl (u).seq (u).time (u).ax (u).sc (v).seq (v).time (v).ax (v).sc X
              have qe2 : ∀ X, (binOp .eql 24 (.agg #[.string u.dev, .int .i64 u.seq, .int .i64 u.time, .string u.tag, .string u.pl, .int .i64 u.ax, .int .i64 u.sc]) (.agg #[.string v.dev, .int .i64 v.seq, .int .i64 v.time, .string v.tag, .string v.pl, .int .i64 v.ax, .int .i64 v.sc])).run Try.prog X = .ok (.bool false) X := fun X => by rw [qe X]; exact congrArg (fun q => Result.ok (Value.bool q) X) hne
              have HQE := Lib.hid qe2
              have hj1 : (0 : Int) ≤ (j : Int) := by omega
              have hj2 : (j : Int) < (al.length : Int) := by omega
              have HP : Hid ((fun w' : World => w'.cell? ⟨b, off + k * 7, none⟩ = some (.string u.dev) ∧ w'.cell? ⟨b, off + k * 7 + 1, none⟩ = some (.int .i64 u.seq) ∧ w'.cell? ⟨b, off + k * 7 + 2, none⟩ = some (.int .i64 u.time) ∧ w'.cell? ⟨b, off + k * 7 + 3, none⟩ = some (.string u.tag) ∧ w'.cell? ⟨b, off + k * 7 + 4, none⟩ = some (.string u.pl) ∧ w'.cell? ⟨b, off + k * 7 + 5, none⟩ = some (.int .i64 u.ax) ∧ w'.cell? ⟨b, off + k * 7 + 6, none⟩ = some (.int .i64 u.sc) ∧ w'.cell? ⟨b, off + j * 7, none⟩ = some (.string v.dev) ∧ w'.cell? ⟨b, off + j * 7 + 1, none⟩ = some (.int .i64 v.seq) ∧ w'.cell? ⟨b, off + j * 7 + 2, none⟩ = some (.int .i64 v.time) ∧ w'.cell? ⟨b, off + j * 7 + 3, none⟩ = some (.string v.tag) ∧ w'.cell? ⟨b, off + j * 7 + 4, none⟩ = some (.string v.pl) ∧ w'.cell? ⟨b, off + j * 7 + 5, none⟩ = some (.int .i64 v.ax) ∧ w'.cell? ⟨b, off + j * 7 + 6, none⟩ = some (.int .i64 v.sc)) wr) := Lib.hid ⟨(bel.cell (p := ⟨b, off + k * 7, none⟩) hb).trans f0, (bel.cell (p := ⟨b, off + k * 7 + 1, none⟩) hb).trans f1, (bel.cell (p := ⟨b, off + k * 7 + 2, none⟩) hb).trans f2, (bel.cell (p := ⟨b, off + k * 7 + 3, none⟩) hb).trans f3, (bel.cell (p := ⟨b, off + k * 7 + 4, none⟩) hb).trans f4, (bel.cell (p := ⟨b, off + k * 7 + 5, none⟩) hb).trans f5, (bel.cell (p := ⟨b, off + k * 7 + 6, none⟩) hb).trans f6, (bel.cell (p := ⟨b, off + j * 7, none⟩) hb).trans e0, (bel.cell (p := ⟨b, off + j * 7 + 1, none⟩) hb).trans e1, (bel.cell (p := ⟨b, off + j * 7 + 2, none⟩) hb).trans e2, (bel.cell (p := ⟨b, off + j * 7 + 3, none⟩) hb).trans e3, (bel.cell (p := ⟨b, off + j * 7 + 4, none⟩) hb).trans e4, (bel.cell (p := ⟨b, off + j * 7 + 5, none⟩) hb).trans e5, (bel.cell (p := ⟨b, off + j * 7 + 6, none⟩) hb).trans e6⟩
              have HL := Lib.hid (And.intro hjk bel)
              clear qe qe2 hne hx bel
              go_upto_region 11 with fail
              refine wp_region_held_drew (S := (fun w' : World => w'.cell? ⟨b, off + k * 7, none⟩ = some (.string u.dev) ∧ w'.cell? ⟨b, off + k * 7 + 1, none⟩ = some (.int .i64 u.seq) ∧ w'.cell? ⟨b, off + k * 7 + 2, none⟩ = some (.int .i64 u.time) ∧ w'.cell? ⟨b, off + k * 7 + 3, none⟩ = some (.string u.tag) ∧ w'.cell? ⟨b, off + k * 7 + 4, none⟩ = some (.string u.pl) ∧ w'.cell? ⟨b, off + k * 7 + 5, none⟩ = some (.int .i64 u.ax) ∧ w'.cell? ⟨b, off + k * 7 + 6, none⟩ = some (.int .i64 u.sc) ∧ w'.cell? ⟨b, off + j * 7, none⟩ = some (.string v.dev) ∧ w'.cell? ⟨b, off + j * 7 + 1, none⟩ = some (.int .i64 v.seq) ∧ w'.cell? ⟨b, off + j * 7 + 2, none⟩ = some (.int .i64 v.time) ∧ w'.cell? ⟨b, off + j * 7 + 3, none⟩ = some (.string v.tag) ∧ w'.cell? ⟨b, off + j * 7 + 4, none⟩ = some (.string v.pl) ∧ w'.cell? ⟨b, off + j * 7 + 5, none⟩ = some (.int .i64 v.ax) ∧ w'.cell? ⟨b, off + j * 7 + 6, none⟩ = some (.int .i64 v.sc))) (by kernel_rfl) ?_ (fun hHeld => ?_)
              focus exact HP.out
              have bel := HL.out.2.drew
              have qe := HQE.out
              change wpAnyH _ _ _ _ _ 9 _ _ _
              refine wpAnyH_take (i := 0) (v := ?_) (by simp only [List.getElem?_toArray, List.getElem?_cons_zero, List.getElem?_cons_succ]; rfl) (by kernel_rfl) (by kernel_rfl) (by kernel_rfl) (by intro _ _ _ h; exact h) (Or.inl ⟨by rfl, ?_⟩) (by assumption) ?_; rotate_left; (focus (intro w1 hSw; (try dsimp only at hSw); go_simp; (try with_reducible rfl))); (try simp only [Act.put, List.setIfInBounds_toArray, List.set_cons_zero, List.set_cons_succ, List.getElem_toArray, List.getElem_cons_zero, List.getElem_cons_succ])
              refine wpAnyH_take (i := 1) (v := ?_) (by simp only [List.getElem?_toArray, List.getElem?_cons_zero, List.getElem?_cons_succ]; rfl) (by kernel_rfl) (by kernel_rfl) (by kernel_rfl) (by intro _ _ _ h; exact h) (Or.inl ⟨by rfl, ?_⟩) (by assumption) ?_; rotate_left; (focus (intro w1 hSw; (try dsimp only at hSw); go_simp; (try with_reducible rfl))); (try simp only [Act.put, List.setIfInBounds_toArray, List.set_cons_zero, List.set_cons_succ, List.getElem_toArray, List.getElem_cons_zero, List.getElem_cons_succ])
              refine wpAnyH_take (i := 2) (v := ?_) (by simp only [List.getElem?_toArray, List.getElem?_cons_zero, List.getElem?_cons_succ]; rfl) (by kernel_rfl) (by kernel_rfl) (by kernel_rfl) (by intro _ _ _ h; exact h) (Or.inl ⟨by rfl, ?_⟩) (by assumption) ?_; rotate_left; (focus (intro w1 hSw; (try dsimp only at hSw); go_simp; (try with_reducible rfl))); (try simp only [Act.put, List.setIfInBounds_toArray, List.set_cons_zero, List.set_cons_succ, List.getElem_toArray, List.getElem_cons_zero, List.getElem_cons_succ])
              refine wpAnyH_take (i := 3) (v := ?_) (by simp only [List.getElem?_toArray, List.getElem?_cons_zero, List.getElem?_cons_succ]; rfl) (by kernel_rfl) (by kernel_rfl) (by kernel_rfl) (by intro _ _ _ h; exact h) (Or.inl ⟨by rfl, ?_⟩) (by assumption) ?_; rotate_left; (focus (intro w1 hSw; (try dsimp only at hSw); go_simp; (try with_reducible rfl))); (try simp only [Act.put, List.setIfInBounds_toArray, List.set_cons_zero, List.set_cons_succ, List.getElem_toArray, List.getElem_cons_zero, List.getElem_cons_succ])
              refine wpAnyH_take (i := 4) (v := ?_) (by simp only [List.getElem?_toArray, List.getElem?_cons_zero, List.getElem?_cons_succ]; rfl) (by kernel_rfl) (by kernel_rfl) (by kernel_rfl) (by intro _ _ _ h; exact h) (Or.inl ⟨by rfl, ?_⟩) (by assumption) ?_; rotate_left; (focus (intro w1 hSw; (try dsimp only at hSw); go_simp; (try with_reducible rfl))); (try simp only [Act.put, List.setIfInBounds_toArray, List.set_cons_zero, List.set_cons_succ, List.getElem_toArray, List.getElem_cons_zero, List.getElem_cons_succ])
              refine wpAnyH_take (i := 5) (v := ?_) (by simp only [List.getElem?_toArray, List.getElem?_cons_zero, List.getElem?_cons_succ]; rfl) (by kernel_rfl) (by kernel_rfl) (by kernel_rfl) (by intro _ _ _ h; exact h) (Or.inl ⟨by rfl, ?_⟩) (by assumption) ?_; rotate_left; (focus (intro w1 hSw; (try dsimp only at hSw); go_simp; (try with_reducible rfl))); (try simp only [Act.put, List.setIfInBounds_toArray, List.set_cons_zero, List.set_cons_succ, List.getElem_toArray, List.getElem_cons_zero, List.getElem_cons_succ])
              refine wpAnyH_take (i := 6) (v := ?_) (by simp only [List.getElem?_toArray, List.getElem?_cons_zero, List.getElem?_cons_succ]; rfl) (by kernel_rfl) (by kernel_rfl) (by kernel_rfl) (by intro _ _ _ h; exact h) (Or.inl ⟨by rfl, ?_⟩) (by assumption) ?_; rotate_left; (focus (intro w1 hSw; (try dsimp only at hSw); go_simp; (try with_reducible rfl))); (try simp only [Act.put, List.setIfInBounds_toArray, List.set_cons_zero, List.set_cons_succ, List.getElem_toArray, List.getElem_cons_zero, List.getElem_cons_succ])
              refine wpAnyH_take (i := 7) (v := ?_) (by simp only [List.getElem?_toArray, List.getElem?_cons_zero, List.getElem?_cons_succ]; rfl) (by kernel_rfl) (by kernel_rfl) (by kernel_rfl) (by intro _ _ _ h; exact h) (Or.inl ⟨by rfl, ?_⟩) (by assumption) ?_; rotate_left; (focus (intro w1 hSw; (try dsimp only at hSw); go_simp; (try with_reducible rfl))); (try simp only [Act.put, List.setIfInBounds_toArray, List.set_cons_zero, List.set_cons_succ, List.getElem_toArray, List.getElem_cons_zero, List.getElem_cons_succ])
              refine wpAnyH_take (i := 8) (v := ?_) (by simp only [List.getElem?_toArray, List.getElem?_cons_zero, List.getElem?_cons_succ]; rfl) (by kernel_rfl) (by kernel_rfl) (by kernel_rfl) (by intro _ _ _ h; exact h) (Or.inl ⟨by rfl, ?_⟩) (by assumption) ?_; rotate_left; (focus (intro w1 hSw; (try dsimp only at hSw); go_simp; (try with_reducible rfl))); (try simp only [Act.put, List.setIfInBounds_toArray, List.set_cons_zero, List.set_cons_succ, List.getElem_toArray, List.getElem_cons_zero, List.getElem_cons_succ])
              refine wpAnyH_done (by kernel_rfl) ?_ _
              clear qe hHeld
              go_wp2_with fail
              go_roundw
              case rel => exact ⟨j + 1, HL.out.1, by go_num, bel⟩
              case measure => have := HL.out.1; simp [intOf]; omega
            · obtain rfl : j = k := by omega
              have HK := Lib.hid (And.intro hi hj)
              have HU := Lib.hid hy
              clear hjk hj hi hk hy
              obtain ⟨wp, rfl⟩ : ∃ wp, wp = wr := ⟨_, rfl⟩
              go_wp2_with fail
              go_loopw [10, 11] (fun v i wx => ∃ (m : Nat) (q : Bool), m ≤ ds.length ∧ i = .int .i64 m ∧ v = .bool q ∧ Hid (q = true ↔ u ∈ ds.take m) ∧ Below w5.heap.size w5 wx) (fun _ i _ => ds.length - (intOf i).toNat)
              case atStart => exact ⟨0, false, Nat.zero_le _, rfl, rfl, by unfold Hid; simp, bel⟩
              case round =>
                clear bel
                obtain ⟨m, q, hm, rfl, rfl, HQ, bel⟩ := hrel
                by_cases hmi : m < ds.length
                · obtain ⟨b2, off2, v, hA2, hb2, hx, e0, e1, e2, e3, e4, e5, e6⟩ := HB.out.dt hmi
                  subst hA2
                  have hm1 : (0 : Int) ≤ (m : Int) := by omega
                  have hm2 : (m : Int) < (ds.length : Int) := by omega
                  have HP : Hid ((fun w' : World => w'.cell? ⟨b2, off2 + m * 7, none⟩ = some (.string v.dev) ∧ w'.cell? ⟨b2, off2 + m * 7 + 1, none⟩ = some (.int .i64 v.seq) ∧ w'.cell? ⟨b2, off2 + m * 7 + 2, none⟩ = some (.int .i64 v.time) ∧ w'.cell? ⟨b2, off2 + m * 7 + 3, none⟩ = some (.string v.tag) ∧ w'.cell? ⟨b2, off2 + m * 7 + 4, none⟩ = some (.string v.pl) ∧ w'.cell? ⟨b2, off2 + m * 7 + 5, none⟩ = some (.int .i64 v.ax) ∧ w'.cell? ⟨b2, off2 + m * 7 + 6, none⟩ = some (.int .i64 v.sc) ∧ w'.cell? ⟨b, off + j * 7, none⟩ = some (.string u.dev) ∧ w'.cell? ⟨b, off + j * 7 + 1, none⟩ = some (.int .i64 u.seq) ∧ w'.cell? ⟨b, off + j * 7 + 2, none⟩ = some (.int .i64 u.time) ∧ w'.cell? ⟨b, off + j * 7 + 3, none⟩ = some (.string u.tag) ∧ w'.cell? ⟨b, off + j * 7 + 4, none⟩ = some (.string u.pl) ∧ w'.cell? ⟨b, off + j * 7 + 5, none⟩ = some (.int .i64 u.ax) ∧ w'.cell? ⟨b, off + j * 7 + 6, none⟩ = some (.int .i64 u.sc)) wr) := Lib.hid ⟨(bel.cell (p := ⟨b2, off2 + m * 7, none⟩) hb2).trans e0, (bel.cell (p := ⟨b2, off2 + m * 7 + 1, none⟩) hb2).trans e1, (bel.cell (p := ⟨b2, off2 + m * 7 + 2, none⟩) hb2).trans e2, (bel.cell (p := ⟨b2, off2 + m * 7 + 3, none⟩) hb2).trans e3, (bel.cell (p := ⟨b2, off2 + m * 7 + 4, none⟩) hb2).trans e4, (bel.cell (p := ⟨b2, off2 + m * 7 + 5, none⟩) hb2).trans e5, (bel.cell (p := ⟨b2, off2 + m * 7 + 6, none⟩) hb2).trans e6, (bel.cell (p := ⟨b, off + j * 7, none⟩) hb).trans f0, (bel.cell (p := ⟨b, off + j * 7 + 1, none⟩) hb).trans f1, (bel.cell (p := ⟨b, off + j * 7 + 2, none⟩) hb).trans f2, (bel.cell (p := ⟨b, off + j * 7 + 3, none⟩) hb).trans f3, (bel.cell (p := ⟨b, off + j * 7 + 4, none⟩) hb).trans f4, (bel.cell (p := ⟨b, off + j * 7 + 5, none⟩) hb).trans f5, (bel.cell (p := ⟨b, off + j * 7 + 6, none⟩) hb).trans f6⟩
                  have HL := Lib.hid (And.intro hmi bel)
                  have HX := Lib.hid (mem_take_snoc (y := u) hx)
                  clear hx bel hm hmi
                  cases q
                  · have HQ2 := Lib.hid (show eqDt v u = true ↔ u ∈ ds.take (m + 1) by
                      rw [eqDt_iff, HX.out]
                      constructor
                      · intro e; exact Or.inr e.symm
                      · rintro (e | e)
                        · have := HQ.out.2 e; cases this
                        · exact e.symm)
                    have qe := fun X => eqDt_run (v).dev (u).dev (v).tag (u).tag (v).pl (u).pl (v).seq (v).time (v).ax (v).sc (u).seq (u).time (u).ax (u).sc X
                    have qe2 : ∀ X, (binOp .eql 24 (.agg #[.string v.dev, .int .i64 v.seq, .int .i64 v.time, .string v.tag, .string v.pl, .int .i64 v.ax, .int .i64 v.sc]) (.agg #[.string u.dev, .int .i64 u.seq, .int .i64 u.time, .string u.tag, .string u.pl, .int .i64 u.ax, .int .i64 u.sc])).run Try.prog X = .ok (.bool (eqDt v u)) X := qe
                    clear qe
                    generalize eqDt v u = r at *
                    have HQE := Lib.hid qe2
                    clear qe2
                    go_upto_region 17 with fail
                    refine wp_region_held_drew (S := (fun w' : World => w'.cell? ⟨b2, off2 + m * 7, none⟩ = some (.string v.dev) ∧ w'.cell? ⟨b2, off2 + m * 7 + 1, none⟩ = some (.int .i64 v.seq) ∧ w'.cell? ⟨b2, off2 + m * 7 + 2, none⟩ = some (.int .i64 v.time) ∧ w'.cell? ⟨b2, off2 + m * 7 + 3, none⟩ = some (.string v.tag) ∧ w'.cell? ⟨b2, off2 + m * 7 + 4, none⟩ = some (.string v.pl) ∧ w'.cell? ⟨b2, off2 + m * 7 + 5, none⟩ = some (.int .i64 v.ax) ∧ w'.cell? ⟨b2, off2 + m * 7 + 6, none⟩ = some (.int .i64 v.sc) ∧ w'.cell? ⟨b, off + j * 7, none⟩ = some (.string u.dev) ∧ w'.cell? ⟨b, off + j * 7 + 1, none⟩ = some (.int .i64 u.seq) ∧ w'.cell? ⟨b, off + j * 7 + 2, none⟩ = some (.int .i64 u.time) ∧ w'.cell? ⟨b, off + j * 7 + 3, none⟩ = some (.string u.tag) ∧ w'.cell? ⟨b, off + j * 7 + 4, none⟩ = some (.string u.pl) ∧ w'.cell? ⟨b, off + j * 7 + 5, none⟩ = some (.int .i64 u.ax) ∧ w'.cell? ⟨b, off + j * 7 + 6, none⟩ = some (.int .i64 u.sc))) (by kernel_rfl) ?_ (fun hHeld => ?_)
                    focus exact HP.out
                    have bel := HL.out.2.drew
                    have qe := HQE.out
                    change wpAnyH _ _ _ _ _ 13 _ _ _
                    refine wpAnyH_take (i := 0) (v := ?_) (by simp only [List.getElem?_toArray, List.getElem?_cons_zero, List.getElem?_cons_succ]; rfl) (by kernel_rfl) (by kernel_rfl) (by kernel_rfl) (by intro _ _ _ h; exact h) (Or.inl ⟨by rfl, ?_⟩) (by assumption) ?_; rotate_left; (focus (intro w1 hSw; (try dsimp only at hSw); go_simp; (try with_reducible rfl))); (try simp only [Act.put, List.setIfInBounds_toArray, List.set_cons_zero, List.set_cons_succ, List.getElem_toArray, List.getElem_cons_zero, List.getElem_cons_succ]); refine wpAnyH_take (i := 1) (v := ?_) (by simp only [List.getElem?_toArray, List.getElem?_cons_zero, List.getElem?_cons_succ]; rfl) (by kernel_rfl) (by kernel_rfl) (by kernel_rfl) (by intro _ _ _ h; exact h) (Or.inl ⟨by rfl, ?_⟩) (by assumption) ?_; rotate_left; (focus (intro w1 hSw; (try dsimp only at hSw); go_simp; (try with_reducible rfl))); (try simp only [Act.put, List.setIfInBounds_toArray, List.set_cons_zero, List.set_cons_succ, List.getElem_toArray, List.getElem_cons_zero, List.getElem_cons_succ]); refine wpAnyH_take (i := 2) (v := ?_) (by simp only [List.getElem?_toArray, List.getElem?_cons_zero, List.getElem?_cons_succ]; rfl) (by kernel_rfl) (by kernel_rfl) (by kernel_rfl) (by intro _ _ _ h; exact h) (Or.inl ⟨by rfl, ?_⟩) (by assumption) ?_; rotate_left; (focus (intro w1 hSw; (try dsimp only at hSw); go_simp; (try with_reducible rfl))); (try simp only [Act.put, List.setIfInBounds_toArray, List.set_cons_zero, List.set_cons_succ, List.getElem_toArray, List.getElem_cons_zero, List.getElem_cons_succ]); refine wpAnyH_take (i := 3) (v := ?_) (by simp only [List.getElem?_toArray, List.getElem?_cons_zero, List.getElem?_cons_succ]; rfl) (by kernel_rfl) (by kernel_rfl) (by kernel_rfl) (by intro _ _ _ h; exact h) (Or.inl ⟨by rfl, ?_⟩) (by assumption) ?_; rotate_left; (focus (intro w1 hSw; (try dsimp only at hSw); go_simp; (try with_reducible rfl))); (try simp only [Act.put, List.setIfInBounds_toArray, List.set_cons_zero, List.set_cons_succ, List.getElem_toArray, List.getElem_cons_zero, List.getElem_cons_succ]); refine wpAnyH_take (i := 4) (v := ?_) (by simp only [List.getElem?_toArray, List.getElem?_cons_zero, List.getElem?_cons_succ]; rfl) (by kernel_rfl) (by kernel_rfl) (by kernel_rfl) (by intro _ _ _ h; exact h) (Or.inl ⟨by rfl, ?_⟩) (by assumption) ?_; rotate_left; (focus (intro w1 hSw; (try dsimp only at hSw); go_simp; (try with_reducible rfl))); (try simp only [Act.put, List.setIfInBounds_toArray, List.set_cons_zero, List.set_cons_succ, List.getElem_toArray, List.getElem_cons_zero, List.getElem_cons_succ]); refine wpAnyH_take (i := 5) (v := ?_) (by simp only [List.getElem?_toArray, List.getElem?_cons_zero, List.getElem?_cons_succ]; rfl) (by kernel_rfl) (by kernel_rfl) (by kernel_rfl) (by intro _ _ _ h; exact h) (Or.inl ⟨by rfl, ?_⟩) (by assumption) ?_; rotate_left; (focus (intro w1 hSw; (try dsimp only at hSw); go_simp; (try with_reducible rfl))); (try simp only [Act.put, List.setIfInBounds_toArray, List.set_cons_zero, List.set_cons_succ, List.getElem_toArray, List.getElem_cons_zero, List.getElem_cons_succ]); refine wpAnyH_take (i := 6) (v := ?_) (by simp only [List.getElem?_toArray, List.getElem?_cons_zero, List.getElem?_cons_succ]; rfl) (by kernel_rfl) (by kernel_rfl) (by kernel_rfl) (by intro _ _ _ h; exact h) (Or.inl ⟨by rfl, ?_⟩) (by assumption) ?_; rotate_left; (focus (intro w1 hSw; (try dsimp only at hSw); go_simp; (try with_reducible rfl))); (try simp only [Act.put, List.setIfInBounds_toArray, List.set_cons_zero, List.set_cons_succ, List.getElem_toArray, List.getElem_cons_zero, List.getElem_cons_succ]); refine wpAnyH_take (i := 7) (v := ?_) (by simp only [List.getElem?_toArray, List.getElem?_cons_zero, List.getElem?_cons_succ]; rfl) (by kernel_rfl) (by kernel_rfl) (by kernel_rfl) (by intro _ _ _ h; exact h) (Or.inl ⟨by rfl, ?_⟩) (by assumption) ?_; rotate_left; (focus (intro w1 hSw; (try dsimp only at hSw); go_simp; (try with_reducible rfl))); (try simp only [Act.put, List.setIfInBounds_toArray, List.set_cons_zero, List.set_cons_succ, List.getElem_toArray, List.getElem_cons_zero, List.getElem_cons_succ]); refine wpAnyH_take (i := 8) (v := ?_) (by simp only [List.getElem?_toArray, List.getElem?_cons_zero, List.getElem?_cons_succ]; rfl) (by kernel_rfl) (by kernel_rfl) (by kernel_rfl) (by intro _ _ _ h; exact h) (Or.inl ⟨by rfl, ?_⟩) (by assumption) ?_; rotate_left; (focus (intro w1 hSw; (try dsimp only at hSw); go_simp; (try with_reducible rfl))); (try simp only [Act.put, List.setIfInBounds_toArray, List.set_cons_zero, List.set_cons_succ, List.getElem_toArray, List.getElem_cons_zero, List.getElem_cons_succ]); refine wpAnyH_take (i := 9) (v := ?_) (by simp only [List.getElem?_toArray, List.getElem?_cons_zero, List.getElem?_cons_succ]; rfl) (by kernel_rfl) (by kernel_rfl) (by kernel_rfl) (by intro _ _ _ h; exact h) (Or.inl ⟨by rfl, ?_⟩) (by assumption) ?_; rotate_left; (focus (intro w1 hSw; (try dsimp only at hSw); go_simp; (try with_reducible rfl))); (try simp only [Act.put, List.setIfInBounds_toArray, List.set_cons_zero, List.set_cons_succ, List.getElem_toArray, List.getElem_cons_zero, List.getElem_cons_succ]); refine wpAnyH_take (i := 10) (v := ?_) (by simp only [List.getElem?_toArray, List.getElem?_cons_zero, List.getElem?_cons_succ]; rfl) (by kernel_rfl) (by kernel_rfl) (by kernel_rfl) (by intro _ _ _ h; exact h) (Or.inl ⟨by rfl, ?_⟩) (by assumption) ?_; rotate_left; (focus (intro w1 hSw; (try dsimp only at hSw); go_simp; (try with_reducible rfl))); (try simp only [Act.put, List.setIfInBounds_toArray, List.set_cons_zero, List.set_cons_succ, List.getElem_toArray, List.getElem_cons_zero, List.getElem_cons_succ]); refine wpAnyH_take (i := 11) (v := ?_) (by simp only [List.getElem?_toArray, List.getElem?_cons_zero, List.getElem?_cons_succ]; rfl) (by kernel_rfl) (by kernel_rfl) (by kernel_rfl) (by intro _ _ _ h; exact h) (Or.inl ⟨by rfl, ?_⟩) (by assumption) ?_; rotate_left; (focus (intro w1 hSw; (try dsimp only at hSw); go_simp; (try with_reducible rfl))); (try simp only [Act.put, List.setIfInBounds_toArray, List.set_cons_zero, List.set_cons_succ, List.getElem_toArray, List.getElem_cons_zero, List.getElem_cons_succ]); refine wpAnyH_take (i := 12) (v := ?_) (by simp only [List.getElem?_toArray, List.getElem?_cons_zero, List.getElem?_cons_succ]; rfl) (by kernel_rfl) (by kernel_rfl) (by kernel_rfl) (by intro _ _ _ h; exact h) (Or.inl ⟨by rfl, ?_⟩) (by assumption) ?_; rotate_left; (focus (intro w1 hSw; (try dsimp only at hSw); go_simp; (try with_reducible rfl))); (try simp only [Act.put, List.setIfInBounds_toArray, List.set_cons_zero, List.set_cons_succ, List.getElem_toArray, List.getElem_cons_zero, List.getElem_cons_succ])
                    refine wpAnyH_done (by kernel_rfl) ?_ _
                    clear qe hHeld
                    go_wp2_with fail
                    go_roundw
                    case rel => exact ⟨m + 1, r, HL.out.1, by go_num, rfl, HQ2, bel⟩
                    case measure => have := HL.out.1; simp [intOf]; omega
                  · have HQ2 := Lib.hid (show true = true ↔ u ∈ ds.take (m + 1) from ⟨fun _ => HX.out.2 (Or.inl (HQ.out.1 rfl)), fun _ => rfl⟩)
                    go_upto_region 17 with fail
                    refine wp_region_held_drew (S := (fun w' : World => w'.cell? ⟨b2, off2 + m * 7, none⟩ = some (.string v.dev) ∧ w'.cell? ⟨b2, off2 + m * 7 + 1, none⟩ = some (.int .i64 v.seq) ∧ w'.cell? ⟨b2, off2 + m * 7 + 2, none⟩ = some (.int .i64 v.time) ∧ w'.cell? ⟨b2, off2 + m * 7 + 3, none⟩ = some (.string v.tag) ∧ w'.cell? ⟨b2, off2 + m * 7 + 4, none⟩ = some (.string v.pl) ∧ w'.cell? ⟨b2, off2 + m * 7 + 5, none⟩ = some (.int .i64 v.ax) ∧ w'.cell? ⟨b2, off2 + m * 7 + 6, none⟩ = some (.int .i64 v.sc) ∧ w'.cell? ⟨b, off + j * 7, none⟩ = some (.string u.dev) ∧ w'.cell? ⟨b, off + j * 7 + 1, none⟩ = some (.int .i64 u.seq) ∧ w'.cell? ⟨b, off + j * 7 + 2, none⟩ = some (.int .i64 u.time) ∧ w'.cell? ⟨b, off + j * 7 + 3, none⟩ = some (.string u.tag) ∧ w'.cell? ⟨b, off + j * 7 + 4, none⟩ = some (.string u.pl) ∧ w'.cell? ⟨b, off + j * 7 + 5, none⟩ = some (.int .i64 u.ax) ∧ w'.cell? ⟨b, off + j * 7 + 6, none⟩ = some (.int .i64 u.sc))) (by kernel_rfl) ?_ (fun hHeld => ?_)
                    focus exact HP.out
                    have bel := HL.out.2.drew
                    change wpAnyH _ _ _ _ _ 13 _ _ _
                    refine wpAnyH_take (i := 0) (v := ?_) (by simp only [List.getElem?_toArray, List.getElem?_cons_zero, List.getElem?_cons_succ]; rfl) (by kernel_rfl) (by kernel_rfl) (by kernel_rfl) (by intro _ _ _ h; exact h) (Or.inl ⟨by rfl, ?_⟩) (by assumption) ?_; rotate_left; (focus (intro w1 hSw; (try dsimp only at hSw); go_simp; (try with_reducible rfl))); (try simp only [Act.put, List.setIfInBounds_toArray, List.set_cons_zero, List.set_cons_succ, List.getElem_toArray, List.getElem_cons_zero, List.getElem_cons_succ]); refine wpAnyH_take (i := 1) (v := ?_) (by simp only [List.getElem?_toArray, List.getElem?_cons_zero, List.getElem?_cons_succ]; rfl) (by kernel_rfl) (by kernel_rfl) (by kernel_rfl) (by intro _ _ _ h; exact h) (Or.inl ⟨by rfl, ?_⟩) (by assumption) ?_; rotate_left; (focus (intro w1 hSw; (try dsimp only at hSw); go_simp; (try with_reducible rfl))); (try simp only [Act.put, List.setIfInBounds_toArray, List.set_cons_zero, List.set_cons_succ, List.getElem_toArray, List.getElem_cons_zero, List.getElem_cons_succ]); refine wpAnyH_take (i := 2) (v := undef) (by simp only [List.getElem?_toArray, List.getElem?_cons_zero, List.getElem?_cons_succ]; rfl) (by kernel_rfl) (by kernel_rfl) (by kernel_rfl) (by intro _ _ _ h; exact h) (Or.inr ⟨by rfl, rfl⟩) (by assumption) ?_; (try simp only [Act.put, List.setIfInBounds_toArray, List.set_cons_zero, List.set_cons_succ, List.getElem_toArray, List.getElem_cons_zero, List.getElem_cons_succ]); refine wpAnyH_take (i := 3) (v := undef) (by simp only [List.getElem?_toArray, List.getElem?_cons_zero, List.getElem?_cons_succ]; rfl) (by kernel_rfl) (by kernel_rfl) (by kernel_rfl) (by intro _ _ _ h; exact h) (Or.inr ⟨by rfl, rfl⟩) (by assumption) ?_; (try simp only [Act.put, List.setIfInBounds_toArray, List.set_cons_zero, List.set_cons_succ, List.getElem_toArray, List.getElem_cons_zero, List.getElem_cons_succ]); refine wpAnyH_take (i := 4) (v := undef) (by simp only [List.getElem?_toArray, List.getElem?_cons_zero, List.getElem?_cons_succ]; rfl) (by kernel_rfl) (by kernel_rfl) (by kernel_rfl) (by intro _ _ _ h; exact h) (Or.inr ⟨by rfl, rfl⟩) (by assumption) ?_; (try simp only [Act.put, List.setIfInBounds_toArray, List.set_cons_zero, List.set_cons_succ, List.getElem_toArray, List.getElem_cons_zero, List.getElem_cons_succ]); refine wpAnyH_take (i := 5) (v := undef) (by simp only [List.getElem?_toArray, List.getElem?_cons_zero, List.getElem?_cons_succ]; rfl) (by kernel_rfl) (by kernel_rfl) (by kernel_rfl) (by intro _ _ _ h; exact h) (Or.inr ⟨by rfl, rfl⟩) (by assumption) ?_; (try simp only [Act.put, List.setIfInBounds_toArray, List.set_cons_zero, List.set_cons_succ, List.getElem_toArray, List.getElem_cons_zero, List.getElem_cons_succ]); refine wpAnyH_take (i := 6) (v := undef) (by simp only [List.getElem?_toArray, List.getElem?_cons_zero, List.getElem?_cons_succ]; rfl) (by kernel_rfl) (by kernel_rfl) (by kernel_rfl) (by intro _ _ _ h; exact h) (Or.inr ⟨by rfl, rfl⟩) (by assumption) ?_; (try simp only [Act.put, List.setIfInBounds_toArray, List.set_cons_zero, List.set_cons_succ, List.getElem_toArray, List.getElem_cons_zero, List.getElem_cons_succ]); refine wpAnyH_take (i := 7) (v := undef) (by simp only [List.getElem?_toArray, List.getElem?_cons_zero, List.getElem?_cons_succ]; rfl) (by kernel_rfl) (by kernel_rfl) (by kernel_rfl) (by intro _ _ _ h; exact h) (Or.inr ⟨by rfl, rfl⟩) (by assumption) ?_; (try simp only [Act.put, List.setIfInBounds_toArray, List.set_cons_zero, List.set_cons_succ, List.getElem_toArray, List.getElem_cons_zero, List.getElem_cons_succ]); refine wpAnyH_take (i := 8) (v := undef) (by simp only [List.getElem?_toArray, List.getElem?_cons_zero, List.getElem?_cons_succ]; rfl) (by kernel_rfl) (by kernel_rfl) (by kernel_rfl) (by intro _ _ _ h; exact h) (Or.inr ⟨by rfl, rfl⟩) (by assumption) ?_; (try simp only [Act.put, List.setIfInBounds_toArray, List.set_cons_zero, List.set_cons_succ, List.getElem_toArray, List.getElem_cons_zero, List.getElem_cons_succ]); refine wpAnyH_take (i := 9) (v := undef) (by simp only [List.getElem?_toArray, List.getElem?_cons_zero, List.getElem?_cons_succ]; rfl) (by kernel_rfl) (by kernel_rfl) (by kernel_rfl) (by intro _ _ _ h; exact h) (Or.inr ⟨by rfl, rfl⟩) (by assumption) ?_; (try simp only [Act.put, List.setIfInBounds_toArray, List.set_cons_zero, List.set_cons_succ, List.getElem_toArray, List.getElem_cons_zero, List.getElem_cons_succ]); refine wpAnyH_take (i := 10) (v := undef) (by simp only [List.getElem?_toArray, List.getElem?_cons_zero, List.getElem?_cons_succ]; rfl) (by kernel_rfl) (by kernel_rfl) (by kernel_rfl) (by intro _ _ _ h; exact h) (Or.inr ⟨by rfl, rfl⟩) (by assumption) ?_; (try simp only [Act.put, List.setIfInBounds_toArray, List.set_cons_zero, List.set_cons_succ, List.getElem_toArray, List.getElem_cons_zero, List.getElem_cons_succ]); refine wpAnyH_take (i := 11) (v := ?_) (by simp only [List.getElem?_toArray, List.getElem?_cons_zero, List.getElem?_cons_succ]; rfl) (by kernel_rfl) (by kernel_rfl) (by kernel_rfl) (by intro _ _ _ h; exact h) (Or.inl ⟨by rfl, ?_⟩) (by assumption) ?_; rotate_left; (focus (intro w1 hSw; (try dsimp only at hSw); go_simp; (try with_reducible rfl))); (try simp only [Act.put, List.setIfInBounds_toArray, List.set_cons_zero, List.set_cons_succ, List.getElem_toArray, List.getElem_cons_zero, List.getElem_cons_succ]); refine wpAnyH_take (i := 12) (v := ?_) (by simp only [List.getElem?_toArray, List.getElem?_cons_zero, List.getElem?_cons_succ]; rfl) (by kernel_rfl) (by kernel_rfl) (by kernel_rfl) (by intro _ _ _ h; exact h) (Or.inl ⟨by rfl, ?_⟩) (by assumption) ?_; rotate_left; (focus (intro w1 hSw; (try dsimp only at hSw); go_simp; (try with_reducible rfl))); (try simp only [Act.put, List.setIfInBounds_toArray, List.set_cons_zero, List.set_cons_succ, List.getElem_toArray, List.getElem_cons_zero, List.getElem_cons_succ])
                    refine wpAnyH_done (by kernel_rfl) ?_ _
                    clear hHeld
                    go_wp2_with fail
                    go_roundw
                    case rel => exact ⟨m + 1, true, HL.out.1, by go_num, rfl, HQ2, bel⟩
                    case measure => have := HL.out.1; simp [intOf]; omega
                · obtain rfl : m = ds.length := by omega
                  obtain rfl : q = true := HQ.out.2 (by rw [List.take_length]; exact (HME.out u).1 (List.mem_of_getElem? HU.out))
                  clear hmi hm HQ
                  go_wp2_with fail
                  go_roundw
                  case rel => exact ⟨j + 1, HK.out.1, by go_num, bel⟩
                  case measure => have := HK.out.1; simp [intOf]; omega
        · obtain rfl : k = al.length := by omega
          have HBL := Lib.hid bel
          clear bel hi hk
          go_wp2_with fail
          go_loopw [12] (fun i wr => ∃ k : Nat, k ≤ ds.length ∧ i = .int .i64 k ∧ Below w5.heap.size w5 wr) (fun i _ => ds.length - (intOf i).toNat)
          case atStart => exact ⟨0, Nat.zero_le _, rfl, HBL.out⟩
          case round =>
            clear HBL
            obtain ⟨wp, rfl⟩ : ∃ wp, wp = wr := ⟨_, rfl⟩
            obtain ⟨k, hk, rfl, bel⟩ := hrel
            by_cases hi : k < ds.length
            · obtain ⟨b2, off2, u, hA, hb2, hy, f0, f1, f2, f3, f4, f5, f6⟩ := HB.out.dt hi
              subst hA
              have hi1 : (0 : Int) ≤ (k : Int) := by omega
              have hi2 : (k : Int) < (ds.length : Int) := by omega
              have HK := Lib.hid hi
              have HU := Lib.hid hy
              clear hi hk hy
              go_wp2_with fail
              go_loopw [13, 14] (fun v i wx => ∃ (m : Nat) (q : Bool), m ≤ al.length ∧ i = .int .i64 m ∧ v = .bool q ∧ Hid (q = true ↔ u ∈ al.take m) ∧ Below w5.heap.size w5 wx) (fun _ i _ => al.length - (intOf i).toNat)
              case atStart => exact ⟨0, false, Nat.zero_le _, rfl, rfl, by unfold Hid; simp, bel⟩
              case round =>
                clear bel
                obtain ⟨m, q, hm, rfl, rfl, HQ, bel⟩ := hrel
                by_cases hmi : m < al.length
                · obtain ⟨b, off, v, hA2, hb, hx, e0, e1, e2, e3, e4, e5, e6⟩ := HA.out.dt hmi
                  subst hA2
                  have hm1 : (0 : Int) ≤ (m : Int) := by omega
                  have hm2 : (m : Int) < (al.length : Int) := by omega
                  have HP : Hid ((fun w' : World => w'.cell? ⟨b, off + m * 7, none⟩ = some (.string v.dev) ∧ w'.cell? ⟨b, off + m * 7 + 1, none⟩ = some (.int .i64 v.seq) ∧ w'.cell? ⟨b, off + m * 7 + 2, none⟩ = some (.int .i64 v.time) ∧ w'.cell? ⟨b, off + m * 7 + 3, none⟩ = some (.string v.tag) ∧ w'.cell? ⟨b, off + m * 7 + 4, none⟩ = some (.string v.pl) ∧ w'.cell? ⟨b, off + m * 7 + 5, none⟩ = some (.int .i64 v.ax) ∧ w'.cell? ⟨b, off + m * 7 + 6, none⟩ = some (.int .i64 v.sc) ∧ w'.cell? ⟨b2, off2 + k * 7, none⟩ = some (.string u.dev) ∧ w'.cell? ⟨b2, off2 + k * 7 + 1, none⟩ = some (.int .i64 u.seq) ∧ w'.cell? ⟨b2, off2 + k * 7 + 2, none⟩ = some (.int .i64 u.time) ∧ w'.cell? ⟨b2, off2 + k * 7 + 3, none⟩ = some (.string u.tag) ∧ w'.cell? ⟨b2, off2 + k * 7 + 4, none⟩ = some (.string u.pl) ∧ w'.cell? ⟨b2, off2 + k * 7 + 5, none⟩ = some (.int .i64 u.ax) ∧ w'.cell? ⟨b2, off2 + k * 7 + 6, none⟩ = some (.int .i64 u.sc)) wr) := Lib.hid ⟨(bel.cell (p := ⟨b, off + m * 7, none⟩) hb).trans e0, (bel.cell (p := ⟨b, off + m * 7 + 1, none⟩) hb).trans e1, (bel.cell (p := ⟨b, off + m * 7 + 2, none⟩) hb).trans e2, (bel.cell (p := ⟨b, off + m * 7 + 3, none⟩) hb).trans e3, (bel.cell (p := ⟨b, off + m * 7 + 4, none⟩) hb).trans e4, (bel.cell (p := ⟨b, off + m * 7 + 5, none⟩) hb).trans e5, (bel.cell (p := ⟨b, off + m * 7 + 6, none⟩) hb).trans e6, (bel.cell (p := ⟨b2, off2 + k * 7, none⟩) hb2).trans f0, (bel.cell (p := ⟨b2, off2 + k * 7 + 1, none⟩) hb2).trans f1, (bel.cell (p := ⟨b2, off2 + k * 7 + 2, none⟩) hb2).trans f2, (bel.cell (p := ⟨b2, off2 + k * 7 + 3, none⟩) hb2).trans f3, (bel.cell (p := ⟨b2, off2 + k * 7 + 4, none⟩) hb2).trans f4, (bel.cell (p := ⟨b2, off2 + k * 7 + 5, none⟩) hb2).trans f5, (bel.cell (p := ⟨b2, off2 + k * 7 + 6, none⟩) hb2).trans f6⟩
                  have HL := Lib.hid (And.intro hmi bel)
                  have HX := Lib.hid (mem_take_snoc (y := u) hx)
                  clear hx bel hm hmi
                  cases q
                  · have HQ2 := Lib.hid (show eqDt v u = true ↔ u ∈ al.take (m + 1) by
                      rw [eqDt_iff, HX.out]
                      constructor
                      · intro e; exact Or.inr e.symm
                      · rintro (e | e)
                        · have := HQ.out.2 e; cases this
                        · exact e.symm)
                    have qe := fun X => eqDt_run (v).dev (u).dev (v).tag (u).tag (v).pl (u).pl (v).seq (v).time (v).ax (v).sc (u).seq (u).time (u).ax (u).sc X
                    have qe2 : ∀ X, (binOp .eql 24 (.agg #[.string v.dev, .int .i64 v.seq, .int .i64 v.time, .string v.tag, .string v.pl, .int .i64 v.ax, .int .i64 v.sc]) (.agg #[.string u.dev, .int .i64 u.seq, .int .i64 u.time, .string u.tag, .string u.pl, .int .i64 u.ax, .int .i64 u.sc])).run Try.prog X = .ok (.bool (eqDt v u)) X := qe
                    clear qe
                    generalize eqDt v u = r at *
                    have HQE := Lib.hid qe2
                    clear qe2
                    go_upto_region 27 with fail
                    refine wp_region_held_drew (S := (fun w' : World => w'.cell? ⟨b, off + m * 7, none⟩ = some (.string v.dev) ∧ w'.cell? ⟨b, off + m * 7 + 1, none⟩ = some (.int .i64 v.seq) ∧ w'.cell? ⟨b, off + m * 7 + 2, none⟩ = some (.int .i64 v.time) ∧ w'.cell? ⟨b, off + m * 7 + 3, none⟩ = some (.string v.tag) ∧ w'.cell? ⟨b, off + m * 7 + 4, none⟩ = some (.string v.pl) ∧ w'.cell? ⟨b, off + m * 7 + 5, none⟩ = some (.int .i64 v.ax) ∧ w'.cell? ⟨b, off + m * 7 + 6, none⟩ = some (.int .i64 v.sc) ∧ w'.cell? ⟨b2, off2 + k * 7, none⟩ = some (.string u.dev) ∧ w'.cell? ⟨b2, off2 + k * 7 + 1, none⟩ = some (.int .i64 u.seq) ∧ w'.cell? ⟨b2, off2 + k * 7 + 2, none⟩ = some (.int .i64 u.time) ∧ w'.cell? ⟨b2, off2 + k * 7 + 3, none⟩ = some (.string u.tag) ∧ w'.cell? ⟨b2, off2 + k * 7 + 4, none⟩ = some (.string u.pl) ∧ w'.cell? ⟨b2, off2 + k * 7 + 5, none⟩ = some (.int .i64 u.ax) ∧ w'.cell? ⟨b2, off2 + k * 7 + 6, none⟩ = some (.int .i64 u.sc))) (by kernel_rfl) ?_ (fun hHeld => ?_)
                    focus exact HP.out
                    have bel := HL.out.2.drew
                    have qe := HQE.out
                    change wpAnyH _ _ _ _ _ 13 _ _ _
                    refine wpAnyH_take (i := 0) (v := ?_) (by simp only [List.getElem?_toArray, List.getElem?_cons_zero, List.getElem?_cons_succ]; rfl) (by kernel_rfl) (by kernel_rfl) (by kernel_rfl) (by intro _ _ _ h; exact h) (Or.inl ⟨by rfl, ?_⟩) (by assumption) ?_; rotate_left; (focus (intro w1 hSw; (try dsimp only at hSw); go_simp; (try with_reducible rfl))); (try simp only [Act.put, List.setIfInBounds_toArray, List.set_cons_zero, List.set_cons_succ, List.getElem_toArray, List.getElem_cons_zero, List.getElem_cons_succ]); refine wpAnyH_take (i := 1) (v := ?_) (by simp only [List.getElem?_toArray, List.getElem?_cons_zero, List.getElem?_cons_succ]; rfl) (by kernel_rfl) (by kernel_rfl) (by kernel_rfl) (by intro _ _ _ h; exact h) (Or.inl ⟨by rfl, ?_⟩) (by assumption) ?_; rotate_left; (focus (intro w1 hSw; (try dsimp only at hSw); go_simp; (try with_reducible rfl))); (try simp only [Act.put, List.setIfInBounds_toArray, List.set_cons_zero, List.set_cons_succ, List.getElem_toArray, List.getElem_cons_zero, List.getElem_cons_succ]); refine wpAnyH_take (i := 2) (v := ?_) (by simp only [List.getElem?_toArray, List.getElem?_cons_zero, List.getElem?_cons_succ]; rfl) (by kernel_rfl) (by kernel_rfl) (by kernel_rfl) (by intro _ _ _ h; exact h) (Or.inl ⟨by rfl, ?_⟩) (by assumption) ?_; rotate_left; (focus (intro w1 hSw; (try dsimp only at hSw); go_simp; (try with_reducible rfl))); (try simp only [Act.put, List.setIfInBounds_toArray, List.set_cons_zero, List.set_cons_succ, List.getElem_toArray, List.getElem_cons_zero, List.getElem_cons_succ]); refine wpAnyH_take (i := 3) (v := ?_) (by simp only [List.getElem?_toArray, List.getElem?_cons_zero, List.getElem?_cons_succ]; rfl) (by kernel_rfl) (by kernel_rfl) (by kernel_rfl) (by intro _ _ _ h; exact h) (Or.inl ⟨by rfl, ?_⟩) (by assumption) ?_; rotate_left; (focus (intro w1 hSw; (try dsimp only at hSw); go_simp; (try with_reducible rfl))); (try simp only [Act.put, List.setIfInBounds_toArray, List.set_cons_zero, List.set_cons_succ, List.getElem_toArray, List.getElem_cons_zero, List.getElem_cons_succ]); refine wpAnyH_take (i := 4) (v := ?_) (by simp only [List.getElem?_toArray, List.getElem?_cons_zero, List.getElem?_cons_succ]; rfl) (by kernel_rfl) (by kernel_rfl) (by kernel_rfl) (by intro _ _ _ h; exact h) (Or.inl ⟨by rfl, ?_⟩) (by assumption) ?_; rotate_left; (focus (intro w1 hSw; (try dsimp only at hSw); go_simp; (try with_reducible rfl))); (try simp only [Act.put, List.setIfInBounds_toArray, List.set_cons_zero, List.set_cons_succ, List.getElem_toArray, List.getElem_cons_zero, List.getElem_cons_succ]); refine wpAnyH_take (i := 5) (v := ?_) (by simp only [List.getElem?_toArray, List.getElem?_cons_zero, List.getElem?_cons_succ]; rfl) (by kernel_rfl) (by kernel_rfl) (by kernel_rfl) (by intro _ _ _ h; exact h) (Or.inl ⟨by rfl, ?_⟩) (by assumption) ?_; rotate_left; (focus (intro w1 hSw; (try dsimp only at hSw); go_simp; (try with_reducible rfl))); (try simp only [Act.put, List.setIfInBounds_toArray, List.set_cons_zero, List.set_cons_succ, List.getElem_toArray, List.getElem_cons_zero, List.getElem_cons_succ]); refine wpAnyH_take (i := 6) (v := ?_) (by simp only [List.getElem?_toArray, List.getElem?_cons_zero, List.getElem?_cons_succ]; rfl) (by kernel_rfl) (by kernel_rfl) (by kernel_rfl) (by intro _ _ _ h; exact h) (Or.inl ⟨by rfl, ?_⟩) (by assumption) ?_; rotate_left; (focus (intro w1 hSw; (try dsimp only at hSw); go_simp; (try with_reducible rfl))); (try simp only [Act.put, List.setIfInBounds_toArray, List.set_cons_zero, List.set_cons_succ, List.getElem_toArray, List.getElem_cons_zero, List.getElem_cons_succ]); refine wpAnyH_take (i := 7) (v := ?_) (by simp only [List.getElem?_toArray, List.getElem?_cons_zero, List.getElem?_cons_succ]; rfl) (by kernel_rfl) (by kernel_rfl) (by kernel_rfl) (by intro _ _ _ h; exact h) (Or.inl ⟨by rfl, ?_⟩) (by assumption) ?_; rotate_left; (focus (intro w1 hSw; (try dsimp only at hSw); go_simp; (try with_reducible rfl))); (try simp only [Act.put, List.setIfInBounds_toArray, List.set_cons_zero, List.set_cons_succ, List.getElem_toArray, List.getElem_cons_zero, List.getElem_cons_succ]); refine wpAnyH_take (i := 8) (v := ?_) (by simp only [List.getElem?_toArray, List.getElem?_cons_zero, List.getElem?_cons_succ]; rfl) (by kernel_rfl) (by kernel_rfl) (by kernel_rfl) (by intro _ _ _ h; exact h) (Or.inl ⟨by rfl, ?_⟩) (by assumption) ?_; rotate_left; (focus (intro w1 hSw; (try dsimp only at hSw); go_simp; (try with_reducible rfl))); (try simp only [Act.put, List.setIfInBounds_toArray, List.set_cons_zero, List.set_cons_succ, List.getElem_toArray, List.getElem_cons_zero, List.getElem_cons_succ]); refine wpAnyH_take (i := 9) (v := ?_) (by simp only [List.getElem?_toArray, List.getElem?_cons_zero, List.getElem?_cons_succ]; rfl) (by kernel_rfl) (by kernel_rfl) (by kernel_rfl) (by intro _ _ _ h; exact h) (Or.inl ⟨by rfl, ?_⟩) (by assumption) ?_; rotate_left; (focus (intro w1 hSw; (try dsimp only at hSw); go_simp; (try with_reducible rfl))); (try simp only [Act.put, List.setIfInBounds_toArray, List.set_cons_zero, List.set_cons_succ, List.getElem_toArray, List.getElem_cons_zero, List.getElem_cons_succ]); refine wpAnyH_take (i := 10) (v := ?_) (by simp only [List.getElem?_toArray, List.getElem?_cons_zero, List.getElem?_cons_succ]; rfl) (by kernel_rfl) (by kernel_rfl) (by kernel_rfl) (by intro _ _ _ h; exact h) (Or.inl ⟨by rfl, ?_⟩) (by assumption) ?_; rotate_left; (focus (intro w1 hSw; (try dsimp only at hSw); go_simp; (try with_reducible rfl))); (try simp only [Act.put, List.setIfInBounds_toArray, List.set_cons_zero, List.set_cons_succ, List.getElem_toArray, List.getElem_cons_zero, List.getElem_cons_succ]); refine wpAnyH_take (i := 11) (v := ?_) (by simp only [List.getElem?_toArray, List.getElem?_cons_zero, List.getElem?_cons_succ]; rfl) (by kernel_rfl) (by kernel_rfl) (by kernel_rfl) (by intro _ _ _ h; exact h) (Or.inl ⟨by rfl, ?_⟩) (by assumption) ?_; rotate_left; (focus (intro w1 hSw; (try dsimp only at hSw); go_simp; (try with_reducible rfl))); (try simp only [Act.put, List.setIfInBounds_toArray, List.set_cons_zero, List.set_cons_succ, List.getElem_toArray, List.getElem_cons_zero, List.getElem_cons_succ]); refine wpAnyH_take (i := 12) (v := ?_) (by simp only [List.getElem?_toArray, List.getElem?_cons_zero, List.getElem?_cons_succ]; rfl) (by kernel_rfl) (by kernel_rfl) (by kernel_rfl) (by intro _ _ _ h; exact h) (Or.inl ⟨by rfl, ?_⟩) (by assumption) ?_; rotate_left; (focus (intro w1 hSw; (try dsimp only at hSw); go_simp; (try with_reducible rfl))); (try simp only [Act.put, List.setIfInBounds_toArray, List.set_cons_zero, List.set_cons_succ, List.getElem_toArray, List.getElem_cons_zero, List.getElem_cons_succ])
                    refine wpAnyH_done (by kernel_rfl) ?_ _
                    clear qe hHeld
                    go_wp2_with fail
                    go_roundw
                    case rel => exact ⟨m + 1, r, HL.out.1, by go_num, rfl, HQ2, bel⟩
                    case measure => have := HL.out.1; simp [intOf]; omega
                  · have HQ2 := Lib.hid (show true = true ↔ u ∈ al.take (m + 1) from ⟨fun _ => HX.out.2 (Or.inl (HQ.out.1 rfl)), fun _ => rfl⟩)
                    go_upto_region 27 with fail
                    refine wp_region_held_drew (S := (fun w' : World => w'.cell? ⟨b, off + m * 7, none⟩ = some (.string v.dev) ∧ w'.cell? ⟨b, off + m * 7 + 1, none⟩ = some (.int .i64 v.seq) ∧ w'.cell? ⟨b, off + m * 7 + 2, none⟩ = some (.int .i64 v.time) ∧ w'.cell? ⟨b, off + m * 7 + 3, none⟩ = some (.string v.tag) ∧ w'.cell? ⟨b, off + m * 7 + 4, none⟩ = some (.string v.pl) ∧ w'.cell? ⟨b, off + m * 7 + 5, none⟩ = some (.int .i64 v.ax) ∧ w'.cell? ⟨b, off + m * 7 + 6, none⟩ = some (.int .i64 v.sc) ∧ w'.cell? ⟨b2, off2 + k * 7, none⟩ = some (.string u.dev) ∧ w'.cell? ⟨b2, off2 + k * 7 + 1, none⟩ = some (.int .i64 u.seq) ∧ w'.cell? ⟨b2, off2 + k * 7 + 2, none⟩ = some (.int .i64 u.time) ∧ w'.cell? ⟨b2, off2 + k * 7 + 3, none⟩ = some (.string u.tag) ∧ w'.cell? ⟨b2, off2 + k * 7 + 4, none⟩ = some (.string u.pl) ∧ w'.cell? ⟨b2, off2 + k * 7 + 5, none⟩ = some (.int .i64 u.ax) ∧ w'.cell? ⟨b2, off2 + k * 7 + 6, none⟩ = some (.int .i64 u.sc))) (by kernel_rfl) ?_ (fun hHeld => ?_)
                    focus exact HP.out
                    have bel := HL.out.2.drew
                    change wpAnyH _ _ _ _ _ 13 _ _ _
                    refine wpAnyH_take (i := 0) (v := ?_) (by simp only [List.getElem?_toArray, List.getElem?_cons_zero, List.getElem?_cons_succ]; rfl) (by kernel_rfl) (by kernel_rfl) (by kernel_rfl) (by intro _ _ _ h; exact h) (Or.inl ⟨by rfl, ?_⟩) (by assumption) ?_; rotate_left; (focus (intro w1 hSw; (try dsimp only at hSw); go_simp; (try with_reducible rfl))); (try simp only [Act.put, List.setIfInBounds_toArray, List.set_cons_zero, List.set_cons_succ, List.getElem_toArray, List.getElem_cons_zero, List.getElem_cons_succ]); refine wpAnyH_take (i := 1) (v := ?_) (by simp only [List.getElem?_toArray, List.getElem?_cons_zero, List.getElem?_cons_succ]; rfl) (by kernel_rfl) (by kernel_rfl) (by kernel_rfl) (by intro _ _ _ h; exact h) (Or.inl ⟨by rfl, ?_⟩) (by assumption) ?_; rotate_left; (focus (intro w1 hSw; (try dsimp only at hSw); go_simp; (try with_reducible rfl))); (try simp only [Act.put, List.setIfInBounds_toArray, List.set_cons_zero, List.set_cons_succ, List.getElem_toArray, List.getElem_cons_zero, List.getElem_cons_succ]); refine wpAnyH_take (i := 2) (v := undef) (by simp only [List.getElem?_toArray, List.getElem?_cons_zero, List.getElem?_cons_succ]; rfl) (by kernel_rfl) (by kernel_rfl) (by kernel_rfl) (by intro _ _ _ h; exact h) (Or.inr ⟨by rfl, rfl⟩) (by assumption) ?_; (try simp only [Act.put, List.setIfInBounds_toArray, List.set_cons_zero, List.set_cons_succ, List.getElem_toArray, List.getElem_cons_zero, List.getElem_cons_succ]); refine wpAnyH_take (i := 3) (v := undef) (by simp only [List.getElem?_toArray, List.getElem?_cons_zero, List.getElem?_cons_succ]; rfl) (by kernel_rfl) (by kernel_rfl) (by kernel_rfl) (by intro _ _ _ h; exact h) (Or.inr ⟨by rfl, rfl⟩) (by assumption) ?_; (try simp only [Act.put, List.setIfInBounds_toArray, List.set_cons_zero, List.set_cons_succ, List.getElem_toArray, List.getElem_cons_zero, List.getElem_cons_succ]); refine wpAnyH_take (i := 4) (v := undef) (by simp only [List.getElem?_toArray, List.getElem?_cons_zero, List.getElem?_cons_succ]; rfl) (by kernel_rfl) (by kernel_rfl) (by kernel_rfl) (by intro _ _ _ h; exact h) (Or.inr ⟨by rfl, rfl⟩) (by assumption) ?_; (try simp only [Act.put, List.setIfInBounds_toArray, List.set_cons_zero, List.set_cons_succ, List.getElem_toArray, List.getElem_cons_zero, List.getElem_cons_succ]); refine wpAnyH_take (i := 5) (v := undef) (by simp only [List.getElem?_toArray, List.getElem?_cons_zero, List.getElem?_cons_succ]; rfl) (by kernel_rfl) (by kernel_rfl) (by kernel_rfl) (by intro _ _ _ h; exact h) (Or.inr ⟨by rfl, rfl⟩) (by assumption) ?_; (try simp only [Act.put, List.setIfInBounds_toArray, List.set_cons_zero, List.set_cons_succ, List.getElem_toArray, List.getElem_cons_zero, List.getElem_cons_succ]); refine wpAnyH_take (i := 6) (v := undef) (by simp only [List.getElem?_toArray, List.getElem?_cons_zero, List.getElem?_cons_succ]; rfl) (by kernel_rfl) (by kernel_rfl) (by kernel_rfl) (by intro _ _ _ h; exact h) (Or.inr ⟨by rfl, rfl⟩) (by assumption) ?_; (try simp only [Act.put, List.setIfInBounds_toArray, List.set_cons_zero, List.set_cons_succ, List.getElem_toArray, List.getElem_cons_zero, List.getElem_cons_succ]); refine wpAnyH_take (i := 7) (v := undef) (by simp only [List.getElem?_toArray, List.getElem?_cons_zero, List.getElem?_cons_succ]; rfl) (by kernel_rfl) (by kernel_rfl) (by kernel_rfl) (by intro _ _ _ h; exact h) (Or.inr ⟨by rfl, rfl⟩) (by assumption) ?_; (try simp only [Act.put, List.setIfInBounds_toArray, List.set_cons_zero, List.set_cons_succ, List.getElem_toArray, List.getElem_cons_zero, List.getElem_cons_succ]); refine wpAnyH_take (i := 8) (v := undef) (by simp only [List.getElem?_toArray, List.getElem?_cons_zero, List.getElem?_cons_succ]; rfl) (by kernel_rfl) (by kernel_rfl) (by kernel_rfl) (by intro _ _ _ h; exact h) (Or.inr ⟨by rfl, rfl⟩) (by assumption) ?_; (try simp only [Act.put, List.setIfInBounds_toArray, List.set_cons_zero, List.set_cons_succ, List.getElem_toArray, List.getElem_cons_zero, List.getElem_cons_succ]); refine wpAnyH_take (i := 9) (v := undef) (by simp only [List.getElem?_toArray, List.getElem?_cons_zero, List.getElem?_cons_succ]; rfl) (by kernel_rfl) (by kernel_rfl) (by kernel_rfl) (by intro _ _ _ h; exact h) (Or.inr ⟨by rfl, rfl⟩) (by assumption) ?_; (try simp only [Act.put, List.setIfInBounds_toArray, List.set_cons_zero, List.set_cons_succ, List.getElem_toArray, List.getElem_cons_zero, List.getElem_cons_succ]); refine wpAnyH_take (i := 10) (v := undef) (by simp only [List.getElem?_toArray, List.getElem?_cons_zero, List.getElem?_cons_succ]; rfl) (by kernel_rfl) (by kernel_rfl) (by kernel_rfl) (by intro _ _ _ h; exact h) (Or.inr ⟨by rfl, rfl⟩) (by assumption) ?_; (try simp only [Act.put, List.setIfInBounds_toArray, List.set_cons_zero, List.set_cons_succ, List.getElem_toArray, List.getElem_cons_zero, List.getElem_cons_succ]); refine wpAnyH_take (i := 11) (v := ?_) (by simp only [List.getElem?_toArray, List.getElem?_cons_zero, List.getElem?_cons_succ]; rfl) (by kernel_rfl) (by kernel_rfl) (by kernel_rfl) (by intro _ _ _ h; exact h) (Or.inl ⟨by rfl, ?_⟩) (by assumption) ?_; rotate_left; (focus (intro w1 hSw; (try dsimp only at hSw); go_simp; (try with_reducible rfl))); (try simp only [Act.put, List.setIfInBounds_toArray, List.set_cons_zero, List.set_cons_succ, List.getElem_toArray, List.getElem_cons_zero, List.getElem_cons_succ]); refine wpAnyH_take (i := 12) (v := ?_) (by simp only [List.getElem?_toArray, List.getElem?_cons_zero, List.getElem?_cons_succ]; rfl) (by kernel_rfl) (by kernel_rfl) (by kernel_rfl) (by intro _ _ _ h; exact h) (Or.inl ⟨by rfl, ?_⟩) (by assumption) ?_; rotate_left; (focus (intro w1 hSw; (try dsimp only at hSw); go_simp; (try with_reducible rfl))); (try simp only [Act.put, List.setIfInBounds_toArray, List.set_cons_zero, List.set_cons_succ, List.getElem_toArray, List.getElem_cons_zero, List.getElem_cons_succ])
                    refine wpAnyH_done (by kernel_rfl) ?_ _
                    clear hHeld
                    go_wp2_with fail
                    go_roundw
                    case rel => exact ⟨m + 1, true, HL.out.1, by go_num, rfl, HQ2, bel⟩
                    case measure => have := HL.out.1; simp [intOf]; omega
                · obtain rfl : m = al.length := by omega
                  obtain rfl : q = true := HQ.out.2 (by rw [List.take_length]; exact (HME.out u).2 (List.mem_of_getElem? HU.out))
                  clear hmi hm HQ
                  go_wp2_with fail
                  go_roundw
                  case rel => exact ⟨k + 1, HK.out, by go_num, bel⟩
                  case measure => have := HK.out; simp [intOf]; omega
            · obtain rfl : k = ds.length := by omega
              have bW := bW.st bel
              clear bel hi hk
              go_wp2_with fail; refine (awake_any _).mono ?_; rintro e wl ⟨rfl, hbl⟩; have bL := bW.st hbl; go_wp2_with fail; go_ret; exact ⟨rfl, bL⟩
end Go.Proofs.Ytgkppjkmakomnaa
