/- The reference's Raw and Add, walked. -/
import Derived.Test.YtgkppjkmakomnaaDetAdd
import Derived.Test.YtgkppjkmakomnaaAppW
set_option linter.unusedSimpArgs false
namespace Go.Proofs.Ytgkppjkmakomnaa
open Go.RowKit Go.Lib

def rawL (S : List Sn) (R : List Rj) : List Dt := S.map Sn.d ++ R.map Rj.d
def raw1 (S : List Sn) (k : Nat) : List Dt := (S.take k).map Sn.d
def raw2 (S : List Sn) (R : List Rj) (k : Nat) : List Dt := S.map Sn.d ++ (R.take k).map Rj.d
theorem raw1_len {S : List Sn} {k : Nat} (h : k ≤ S.length) : (raw1 S k).length = k := by simp [raw1]; omega
theorem raw2_len {S : List Sn} {R : List Rj} {k : Nat} (h : k ≤ R.length) : (raw2 S R k).length = S.length + k := by simp [raw2]; omega
theorem raw1_snoc {S : List Sn} {k : Nat} {s : Sn} (h : S[k]? = some s) : raw1 S (k + 1) = raw1 S k ++ [s.d] := by unfold raw1; rw [take_snoc h]; simp
theorem raw2_snoc {S : List Sn} {R : List Rj} {k : Nat} {s : Rj} (h : R[k]? = some s) : raw2 S R (k + 1) = raw2 S R k ++ [s.d] := by unfold raw2; rw [take_snoc h]; simp
theorem raw1_end (S : List Sn) (R : List Rj) : raw1 S S.length = raw2 S R 0 := by simp [raw1, raw2]
theorem raw2_end (S : List Sn) (R : List Rj) : raw2 S R R.length = rawL S R := by simp [raw2, rawL]
theorem rawL_len (S : List Sn) (R : List Rj) : (rawL S R).length = S.length + R.length := by simp [rawL]

set_option maxRecDepth 100000 in
set_option maxHeartbeats 8000000 in
theorem rRaw_any {sA rA : Option Addr} (sc_ rc : Nat) {S : List Sn} {R : List Rj} {w : World}
    (hS : Rd encSn 11 w w.heap.size sA S) (hR : Rd encRj 8 w w.heap.size rA R) (hn : S.length * 120 ≤ 140737488355328) (hn2 : R.length * 88 ≤ 140737488355328) :
    Calls Try.prog 28 #[.slice sA S.length sc_, .slice rA R.length rc] w fun e w' => ∃ A c, e = .returned (.slice A (rawL S R).length c) ∧ Own 24 encDt 7 w' w.heap.size A c (rawL S R) ∧ Below w.heap.size w w' := by
  have HS := Lib.hid hS
  have HR := Lib.hid hR
  clear hS hR
  have H1 := Lib.hid (fun (k : Nat) (s : Sn) (q : S[k]? = some s) => raw1_snoc q)
  have H2 := Lib.hid (fun (k : Nat) (s : Rj) (q : R[k]? = some s) => raw2_snoc (S := S) q)
  have H3 := Lib.hid (raw1_end S R)
  have H4 := Lib.hid (raw2_end S R)
  have L1 := Lib.hid (fun (k : Nat) (q : k ≤ S.length) => raw1_len q)
  have L2 := Lib.hid (fun (k : Nat) (q : k ≤ R.length) => raw2_len (S := S) q)
  have HA0 := Lib.hid (show raw1 S 0 = [] by simp [raw1])
  generalize hqa : rawL S R = all at *
  generalize hq1 : raw1 S = f1 at *
  generalize hq2 : raw2 S R = f2 at *
  clear hqa hq1 hq2
  go_enter Try.func28, Try.ntmps28
  go_wp2_with fail
  go_loopw [5, 6] (fun v i wr => ∃ (k : Nat) (Ao : Option Addr) (co : Nat), k ≤ S.length ∧ i = .int .i64 k ∧ v = .slice Ao (f1 k).length co ∧ Own 24 encDt 7 wr w.heap.size Ao co (f1 k) ∧ Below w.heap.size w wr) (fun _ i _ => S.length - (intOf i).toNat)
  case atStart => exact ⟨0, _, _, Nat.zero_le _, rfl, by rw [HA0.out]; rfl, by rw [HA0.out]; exact Own.nil _ _, Below.refl _ _⟩
  case round =>
    obtain ⟨k, Ao, co, hk, rfl, rfl, hown, bel⟩ := hrel
    by_cases hi : k < S.length
    · obtain ⟨b, off, s, hA, hb, hx, d0, d1, d2, d3, d4, d5, d6, d7, d8, d9, d10⟩ := (HS.out.st bel).sn hi
      have HN := Lib.hid (H1.out k s hx)
      have hlk : (f1 k).length * 120 ≤ 140737488355328 := by have := L1.out k hk; omega
      have hi1 : (0 : Int) ≤ (k : Int) := by omega
      have hi2 : (k : Int) < (S.length : Int) := by omega
      have HL := Lib.hid hi
      obtain ⟨⟨y1, y2, y3, y4, y5, y6, y7⟩, yt, yp, yl, yk⟩ := s
      simp only at d0 d1 d2 d3 d4 d5 d6 d7 d8 d9 d10 HN
      subst hA
      clear hx hi hb hk
      go_wp2_with (((at_builtin; refine wpList_app1w rfl (.tmp 14) (.tmp 20) tyDt encDt_ok rfl (⟨y1, y2, y3, y4, y5, y6, y7⟩ : Dt) rfl _ rfl (by simp) hown rfl (by first | rfl | simp) (by omega) (by omega) bel.size ?_; intro A9 c9 w9 hown9 hb9; have hbel9 := bel.trans hb9)))
      go_roundw
      case rel => exact ⟨k + 1, A9, c9, HL.out, by go_num, by rw [HN.out]; simp, by rw [HN.out]; exact hown9, hbel9⟩
      case measure => have := HL.out; simp [intOf]; omega
    · obtain rfl : k = S.length := by omega
      obtain ⟨wo, hwo⟩ : ∃ wo, wo = wr := ⟨_, rfl⟩
      rw [← hwo] at hown bel ⊢
      clear hwo
      have HO2 := Lib.hid (And.intro hown bel)
      clear hown bel hk
      rw [H3.out] at HO2 ⊢
      go_wp2_with fail
      go_loopw [5, 7] (fun v i wx => ∃ (k : Nat) (Ao : Option Addr) (co : Nat), k ≤ R.length ∧ i = .int .i64 k ∧ v = .slice Ao (f2 k).length co ∧ Own 24 encDt 7 wx w.heap.size Ao co (f2 k) ∧ Below w.heap.size w wx) (fun _ i _ => R.length - (intOf i).toNat)
      case atStart => exact ⟨0, _, _, Nat.zero_le _, rfl, rfl, HO2.out.1, HO2.out.2⟩
      case round =>
        obtain ⟨k, Ao, co, hk, rfl, rfl, hown, bel⟩ := hrel
        by_cases hi : k < R.length
        · obtain ⟨b, off, s, hA, hb, hx, d0, d1, d2, d3, d4, d5, d6, d7⟩ := (HR.out.st bel).rj hi
          have HN := Lib.hid (H2.out k s hx)
          have hlk : (f2 k).length ≤ 2772102043362 := by have := L2.out k hk; omega
          have hi1 : (0 : Int) ≤ (k : Int) := by omega
          have hi2 : (k : Int) < (R.length : Int) := by omega
          have HL := Lib.hid hi
          obtain ⟨⟨y1, y2, y3, y4, y5, y6, y7⟩, yw⟩ := s
          simp only at d0 d1 d2 d3 d4 d5 d6 d7 HN
          subst hA
          clear hx hi hb hk
          go_wp2_with (((at_builtin; refine wpList_app1w rfl (.tmp 28) (.tmp 34) tyDt encDt_ok rfl (⟨y1, y2, y3, y4, y5, y6, y7⟩ : Dt) rfl _ rfl (by simp) hown rfl (by first | rfl | simp) (by omega) (by omega) bel.size ?_; intro A9 c9 w9 hown9 hb9; have hbel9 := bel.trans hb9)))
          go_roundw
          case rel => exact ⟨k + 1, A9, c9, HL.out, by go_num, by rw [HN.out]; simp, by rw [HN.out]; exact hown9, hbel9⟩
          case measure => have := HL.out; simp [intOf]; omega
        · obtain rfl : k = R.length := by omega
          rw [H4.out] at hown ⊢
          go_wp2_with fail
          go_ret
          exact ⟨Ao, co, rfl, hown, bel⟩

set_option maxRecDepth 100000 in
set_option maxHeartbeats 8000000 in
theorem rAdd_any {A sA rA : Option Addr} (c sc_ rc : Nat) {l : List Dv} {S : List Sn} {R : List Rj} (d : Dt) {w : World} (h : Rd encD 6 w w.heap.size A l) (hz : DsOk w l) (hsm : ∀ y ∈ l, y.os.length ≤ 100 ∧ y.ds.length ≤ 100) (hl : l.length ≤ 1000) (hp : ∀ y ∈ l, y.pt.size ≤ 100)
    (hS : Rd encSn 11 w w.heap.size sA S) (hR : Rd encRj 8 w w.heap.size rA R) (hn : S.length + R.length ≤ 999) (hsz : ∀ x ∈ rawL S R ++ [d], SzD x) :
    Calls Try.prog 29 #[.slice A l.length c, .slice sA S.length sc_, .slice rA R.length rc, DtV d] w fun e w' => SiftR l (rawL S R ++ [d]) w e w' := by
  have CR := Lib.hid (fun (X : World) (hX : Below w.heap.size w X) => rRaw_any sc_ rc (hS.st hX) (hR.st hX) (by omega) (by omega))
  have CF := Lib.hid (fun (X : World) (hX : Below w.heap.size w X) (B : Option Addr) (cb : Nat) (hd : Rd encDt 7 X X.heap.size B (rawL S R ++ [d])) => rsift_any c cb (h.st hX) (hz.st hX) hsm hl hp hd (by rw [List.length_append, rawL_len]; simp; omega) hsz)
  have HL := Lib.hid (show (rawL S R).length ≤ 999 by rw [rawL_len]; exact hn)
  have e1 : (rawL S R ++ [d]).length = (rawL S R).length + 1 := by simp
  rw [e1] at CF
  clear h hz hsm hl hS hR hsz hp e1
  obtain ⟨dev, seq, tm, tg, pl, ax, sc⟩ := d
  simp only [DtV]
  obtain ⟨Y1, hY1⟩ : ∃ Y, w.alloc (.cells #[.string dev, .int .i64 seq, .int .i64 tm, .string tg, .string pl, .int .i64 ax, .int .i64 sc] 24) = Y := ⟨_, rfl⟩
  have bW : Below w.heap.size w Y1 := by rw [← hY1]; exact (Below.refl _ w).al _
  have BA : Blk Y1 w.heap.size #[.string dev, .int .i64 seq, .int .i64 tm, .string tg, .string pl, .int .i64 ax, .int .i64 sc] 24 := by rw [← hY1]; exact Blk.new w _ _
  have hys : Y1.heap.size = w.heap.size + 1 := by rw [← hY1]; simp
  go_enter Try.func29, Try.ntmps29
  go_wp2_with fail
  refine wp_region_held_drew (S := (fun w' : World => Blk w' w.heap.size #[.string dev, .int .i64 seq, .int .i64 tm, .string tg, .string pl, .int .i64 ax, .int .i64 sc] 24)) (by kernel_rfl) ?_ (fun hHeld => ?_)
  focus exact BA.drew
  have HBW := Lib.hid bW.drew
  have HY := Lib.hid (show Y1.drew.heap.size = w.heap.size + 1 from hys)
  have BA := BA.drew
  clear hY1 bW hys
  generalize Y1.drew = W0 at HBW HY BA hHeld ⊢
  have bR := Below.refl W0.heap.size W0
  change wpAnyH _ _ _ _ _ 12 _ _ _
  refine wpAnyH_take (i := 0) (v := ?_) (by simp only [List.getElem?_toArray, List.getElem?_cons_zero, List.getElem?_cons_succ]; rfl) (by kernel_rfl) (by kernel_rfl) (by kernel_rfl) (by intro _ _ _ h; exact h) (Or.inl ⟨by rfl, ?_⟩) (by assumption) ?_; rotate_left; (focus (intro w1 hSw; (try dsimp only at hSw); go_simp; (try with_reducible rfl))); (try simp only [Act.put, List.setIfInBounds_toArray, List.set_cons_zero, List.set_cons_succ, List.getElem_toArray, List.getElem_cons_zero, List.getElem_cons_succ])
  refine wpAnyH_take (i := 1) (v := ?_) (by simp only [List.getElem?_toArray, List.getElem?_cons_zero, List.getElem?_cons_succ]; rfl) (by kernel_rfl) (by kernel_rfl) (by kernel_rfl) (by intro _ _ _ h; exact h) (Or.inl ⟨by rfl, ?_⟩) (by assumption) ?_; rotate_left; (focus (intro w1 hSw; (try dsimp only at hSw); go_simp; (try with_reducible rfl))); (try simp only [Act.put, List.setIfInBounds_toArray, List.set_cons_zero, List.set_cons_succ, List.getElem_toArray, List.getElem_cons_zero, List.getElem_cons_succ])
  refine wpAnyH_take (i := 2) (v := ?_) (by simp only [List.getElem?_toArray, List.getElem?_cons_zero, List.getElem?_cons_succ]; rfl) (by kernel_rfl) (by kernel_rfl) (by kernel_rfl) (by intro _ _ _ h; exact h) (Or.inl ⟨by rfl, ?_⟩) (by assumption) ?_; rotate_left; (focus (intro w1 hSw; (try dsimp only at hSw); go_simp; (try with_reducible rfl))); (try simp only [Act.put, List.setIfInBounds_toArray, List.set_cons_zero, List.set_cons_succ, List.getElem_toArray, List.getElem_cons_zero, List.getElem_cons_succ])
  refine wpAnyH_take (i := 4) (v := .agg #[.string dev, .int .i64 seq, .int .i64 tm, .string tg, .string pl, .int .i64 ax, .int .i64 sc]) (by simp only [List.getElem?_toArray, List.getElem?_cons_zero, List.getElem?_cons_succ]; rfl) (by kernel_rfl) (by kernel_rfl) (by kernel_rfl) (by intro _ _ _ h; exact h) (yieldsIf_boxLoad (by rfl) rfl rfl (fun _ hw => hw) ⟨_, Try.underlying24, by kernel_rfl⟩) (by assumption) ?_; (try simp only [Act.put, List.setIfInBounds_toArray, List.set_cons_zero, List.set_cons_succ, List.getElem_toArray, List.getElem_cons_zero, List.getElem_cons_succ])
  refine wpAnyH_ready (rs := [3, 5]) (by kernel_rfl) (by simp) ?_; refine AllReadyH.cons (by simp only [List.getElem?_toArray, List.getElem?_cons_zero, List.getElem?_cons_succ]; rfl) (fun K hK => ?_) (AllReadyH.cons (by simp only [List.getElem?_toArray, List.getElem?_cons_zero, List.getElem?_cons_succ]; rfl) (fun K hK => ?_) AllReadyH.nil)
  · rw [if_pos (by rfl)]; go_wp2_with fail
    refine (CR.out _ HBW.out).mono ?_
    rintro e w1 ⟨Ao, co, rfl, hown, hb⟩
    have bR := bR.st hb
    have BA := BA.below hb BA.lt
    clear hb CR
    go_wp2_with fail; refine hK.out _ _ ?_ (fun hHeld => ?_); (focus exact BA); clear hK K; (try simp only [Act.put, List.setIfInBounds_toArray, List.set_cons_zero, List.set_cons_succ, List.getElem_toArray, List.getElem_cons_zero, List.getElem_cons_succ])
    obtain ⟨W2, hW2⟩ : ∃ x, World.alloc w1 (.cells #[.string dev, .int .i64 seq, .int .i64 tm, .string tg, .string pl, .int .i64 ax, .int .i64 sc] 24) = x := ⟨_, rfl⟩
    have hb2 : Below w1.heap.size w1 W2 := by rw [← hW2]; exact (Below.refl _ _).al _
    have BN : Blk W2 w1.heap.size #[.string dev, .int .i64 seq, .int .i64 tm, .string tg, .string pl, .int .i64 ax, .int .i64 sc] 24 := by rw [← hW2]; exact Blk.new _ _ _
    have hnw := bR.size
    have BA := BA.below hb2 BA.lt
    have bR := bR.st hb2
    have hown := (hown.st hb2).mono (base' := w.heap.size + 1) (by have := HY.out; omega)
    clear hb2
    refine wpAnyH_ready (rs := [5]) (by kernel_rfl) (by simp) ?_; refine AllReadyH.cons (by simp only [List.getElem?_toArray, List.getElem?_cons_zero, List.getElem?_cons_succ]; rfl) (fun K hK => ?_) AllReadyH.nil
    rw [if_pos (by rfl)]
    go_wp2_with fail
    refine hK.out _ _ ?_ (fun hHeld => ?_)
    focus exact BA
    clear hK K hW2
    (try simp only [Act.put, List.setIfInBounds_toArray, List.set_cons_zero, List.set_cons_succ, List.getElem_toArray, List.getElem_cons_zero, List.getElem_cons_succ])
    refine wpAnyH_ready (rs := [6]) (by kernel_rfl) (by simp) ?_; refine AllReadyH.cons (by simp only [List.getElem?_toArray, List.getElem?_cons_zero, List.getElem?_cons_succ]; rfl) (fun K hK => ?_) AllReadyH.nil; rw [if_pos (by rfl)]; refine wp_appB (l := rawL S R) (.tmp 13) (.tmp 15) tyDt encDt_ok (by rfl) (⟨dev, seq, tm, tg, pl, ax, sc⟩ : Dt) (by rfl) (w.heap.size + 1) (by rfl) (by first | rfl | simp) hown (by rfl) BN (by have := HL.out; omega) (by have := HL.out; omega) (by have := bR.size; have := HY.out; omega) ?_; intro A9 c9 w9 hown9 hb9 hs9 hf9; have bR := bR.trans (hb9.mono (by have := HY.out; omega)); have BA := BA.below hb9 (by omega); refine hK.out _ _ ?_ (fun hHeld => ?_); (focus exact BA); clear hK K BN; (try simp only [Act.put, List.setIfInBounds_toArray, List.set_cons_zero, List.set_cons_succ, List.getElem_toArray, List.getElem_cons_zero, List.getElem_cons_succ]); refine wpAnyH_ready (rs := [7]) (by kernel_rfl) (by simp) ?_; refine AllReadyH.cons (by simp only [List.getElem?_toArray, List.getElem?_cons_zero, List.getElem?_cons_succ]; rfl) (fun K hK => ?_) AllReadyH.nil; rw [if_pos (by rfl)]; go_wp2_with fail; have bW := HBW.out.trans (bR.mono HBW.out.size); refine (CF.out _ bW A9 c9 (by have := hown9.rd encDt_ok; exact this)).mono ?_; rintro e w5 ⟨S', R', As, Ar, cs, cr, hof, hl1, hl2, rfl, rs, rr, hb⟩; have HF := Lib.hid (And.intro hof (And.intro hl1 (And.intro hl2 (And.intro rs (And.intro rr (bW.st hb)))))); have BA := BA.below hb BA.lt; clear hof hl1 hl2 rs rr hb hown9 hb9 hs9 hf9 bR bW; go_wp2_with fail; refine hK.out _ _ ?_ (fun hHeld => ?_); (focus exact BA); clear hK K; (try simp only [Act.put, List.setIfInBounds_toArray, List.set_cons_zero, List.set_cons_succ, List.getElem_toArray, List.getElem_cons_zero, List.getElem_cons_succ]); refine wpAnyH_take (i := 8) (v := ?_) (by simp only [List.getElem?_toArray, List.getElem?_cons_zero, List.getElem?_cons_succ]; rfl) (by kernel_rfl) (by kernel_rfl) (by kernel_rfl) (by intro _ _ _ h; exact h) (Or.inl ⟨by rfl, ?_⟩) (by assumption) ?_; rotate_left; (focus (intro w1 hSw; (try dsimp only at hSw); go_simp; (try with_reducible rfl))); (try simp only [Act.put, List.setIfInBounds_toArray, List.set_cons_zero, List.set_cons_succ, List.getElem_toArray, List.getElem_cons_zero, List.getElem_cons_succ]); refine wpAnyH_take (i := 9) (v := ?_) (by simp only [List.getElem?_toArray, List.getElem?_cons_zero, List.getElem?_cons_succ]; rfl) (by kernel_rfl) (by kernel_rfl) (by kernel_rfl) (by intro _ _ _ h; exact h) (Or.inl ⟨by rfl, ?_⟩) (by assumption) ?_; rotate_left; (focus (intro w1 hSw; (try dsimp only at hSw); go_simp; (try with_reducible rfl))); (try simp only [Act.put, List.setIfInBounds_toArray, List.set_cons_zero, List.set_cons_succ, List.getElem_toArray, List.getElem_cons_zero, List.getElem_cons_succ]); refine wpAnyH_take (i := 10) (v := ?_) (by simp only [List.getElem?_toArray, List.getElem?_cons_zero, List.getElem?_cons_succ]; rfl) (by kernel_rfl) (by kernel_rfl) (by kernel_rfl) (by intro _ _ _ h; exact h) (Or.inl ⟨by rfl, ?_⟩) (by assumption) ?_; rotate_left; (focus (intro w1 hSw; (try dsimp only at hSw); go_simp; (try with_reducible rfl))); (try simp only [Act.put, List.setIfInBounds_toArray, List.set_cons_zero, List.set_cons_succ, List.getElem_toArray, List.getElem_cons_zero, List.getElem_cons_succ]); refine wpAnyH_take (i := 11) (v := ?_) (by simp only [List.getElem?_toArray, List.getElem?_cons_zero, List.getElem?_cons_succ]; rfl) (by kernel_rfl) (by kernel_rfl) (by kernel_rfl) (by intro _ _ _ h; exact h) (Or.inl ⟨by rfl, ?_⟩) (by assumption) ?_; rotate_left; (focus (intro w1 hSw; (try dsimp only at hSw); go_simp; (try with_reducible rfl))); (try simp only [Act.put, List.setIfInBounds_toArray, List.set_cons_zero, List.set_cons_succ, List.getElem_toArray, List.getElem_cons_zero, List.getElem_cons_succ]); refine wpAnyH_done (by kernel_rfl) ?_ _; go_wp2_with fail; go_ret2; exact ⟨S', R', As, Ar, cs, cr, HF.out.1, HF.out.2.1, HF.out.2.2.1, rfl, HF.out.2.2.2.1, HF.out.2.2.2.2.1, HF.out.2.2.2.2.2⟩
  · obtain ⟨W1, hW1⟩ : ∃ x, World.alloc W0 (.cells #[.string dev, .int .i64 seq, .int .i64 tm, .string tg, .string pl, .int .i64 ax, .int .i64 sc] 24) = x := ⟨_, rfl⟩
    have hb2 : Below W0.heap.size W0 W1 := by rw [← hW1]; exact (Below.refl _ _).al _
    have BN : Blk W1 W0.heap.size #[.string dev, .int .i64 seq, .int .i64 tm, .string tg, .string pl, .int .i64 ax, .int .i64 sc] 24 := by rw [← hW1]; exact Blk.new _ _ _
    have BA := BA.below hb2 BA.lt
    have bR := bR.st hb2
    clear hb2
    rw [if_pos (by rfl)]
    go_wp2_with fail
    refine hK.out _ _ ?_ (fun hHeld => ?_)
    focus exact BA
    clear hK K hW1
    (try simp only [Act.put, List.setIfInBounds_toArray, List.set_cons_zero, List.set_cons_succ, List.getElem_toArray, List.getElem_cons_zero, List.getElem_cons_succ])
    refine wpAnyH_ready (rs := [3]) (by kernel_rfl) (by simp) ?_; refine AllReadyH.cons (by simp only [List.getElem?_toArray, List.getElem?_cons_zero, List.getElem?_cons_succ]; rfl) (fun K hK => ?_) AllReadyH.nil
    rw [if_pos (by rfl)]; go_wp2_with fail
    refine (CR.out _ (HBW.out.st bR)).mono ?_
    rintro e w1 ⟨Ao, co, rfl, hown, hb⟩
    have hnw := bR.size
    have bR := bR.st hb
    have BA := BA.below hb BA.lt
    have BN := BN.below hb BN.lt
    have hown := hown.mono (base' := w.heap.size + 1) (by have := HY.out; omega)
    clear hb CR
    go_wp2_with fail; refine hK.out _ _ ?_ (fun hHeld => ?_); (focus exact BA); clear hK K; (try simp only [Act.put, List.setIfInBounds_toArray, List.set_cons_zero, List.set_cons_succ, List.getElem_toArray, List.getElem_cons_zero, List.getElem_cons_succ])
    refine wpAnyH_ready (rs := [6]) (by kernel_rfl) (by simp) ?_; refine AllReadyH.cons (by simp only [List.getElem?_toArray, List.getElem?_cons_zero, List.getElem?_cons_succ]; rfl) (fun K hK => ?_) AllReadyH.nil; rw [if_pos (by rfl)]; refine wp_appB (l := rawL S R) (.tmp 13) (.tmp 15) tyDt encDt_ok (by rfl) (⟨dev, seq, tm, tg, pl, ax, sc⟩ : Dt) (by rfl) (w.heap.size + 1) (by rfl) (by first | rfl | simp) hown (by rfl) BN (by have := HL.out; omega) (by have := HL.out; omega) (by have := bR.size; have := HY.out; omega) ?_; intro A9 c9 w9 hown9 hb9 hs9 hf9; have bR := bR.trans (hb9.mono (by have := HY.out; omega)); have BA := BA.below hb9 (by omega); refine hK.out _ _ ?_ (fun hHeld => ?_); (focus exact BA); clear hK K BN; (try simp only [Act.put, List.setIfInBounds_toArray, List.set_cons_zero, List.set_cons_succ, List.getElem_toArray, List.getElem_cons_zero, List.getElem_cons_succ]); refine wpAnyH_ready (rs := [7]) (by kernel_rfl) (by simp) ?_; refine AllReadyH.cons (by simp only [List.getElem?_toArray, List.getElem?_cons_zero, List.getElem?_cons_succ]; rfl) (fun K hK => ?_) AllReadyH.nil; rw [if_pos (by rfl)]; go_wp2_with fail; have bW := HBW.out.trans (bR.mono HBW.out.size); refine (CF.out _ bW A9 c9 (by have := hown9.rd encDt_ok; exact this)).mono ?_; rintro e w5 ⟨S', R', As, Ar, cs, cr, hof, hl1, hl2, rfl, rs, rr, hb⟩; have HF := Lib.hid (And.intro hof (And.intro hl1 (And.intro hl2 (And.intro rs (And.intro rr (bW.st hb)))))); have BA := BA.below hb BA.lt; clear hof hl1 hl2 rs rr hb hown9 hb9 hs9 hf9 bR bW; go_wp2_with fail; refine hK.out _ _ ?_ (fun hHeld => ?_); (focus exact BA); clear hK K; (try simp only [Act.put, List.setIfInBounds_toArray, List.set_cons_zero, List.set_cons_succ, List.getElem_toArray, List.getElem_cons_zero, List.getElem_cons_succ]); refine wpAnyH_take (i := 8) (v := ?_) (by simp only [List.getElem?_toArray, List.getElem?_cons_zero, List.getElem?_cons_succ]; rfl) (by kernel_rfl) (by kernel_rfl) (by kernel_rfl) (by intro _ _ _ h; exact h) (Or.inl ⟨by rfl, ?_⟩) (by assumption) ?_; rotate_left; (focus (intro w1 hSw; (try dsimp only at hSw); go_simp; (try with_reducible rfl))); (try simp only [Act.put, List.setIfInBounds_toArray, List.set_cons_zero, List.set_cons_succ, List.getElem_toArray, List.getElem_cons_zero, List.getElem_cons_succ]); refine wpAnyH_take (i := 9) (v := ?_) (by simp only [List.getElem?_toArray, List.getElem?_cons_zero, List.getElem?_cons_succ]; rfl) (by kernel_rfl) (by kernel_rfl) (by kernel_rfl) (by intro _ _ _ h; exact h) (Or.inl ⟨by rfl, ?_⟩) (by assumption) ?_; rotate_left; (focus (intro w1 hSw; (try dsimp only at hSw); go_simp; (try with_reducible rfl))); (try simp only [Act.put, List.setIfInBounds_toArray, List.set_cons_zero, List.set_cons_succ, List.getElem_toArray, List.getElem_cons_zero, List.getElem_cons_succ]); refine wpAnyH_take (i := 10) (v := ?_) (by simp only [List.getElem?_toArray, List.getElem?_cons_zero, List.getElem?_cons_succ]; rfl) (by kernel_rfl) (by kernel_rfl) (by kernel_rfl) (by intro _ _ _ h; exact h) (Or.inl ⟨by rfl, ?_⟩) (by assumption) ?_; rotate_left; (focus (intro w1 hSw; (try dsimp only at hSw); go_simp; (try with_reducible rfl))); (try simp only [Act.put, List.setIfInBounds_toArray, List.set_cons_zero, List.set_cons_succ, List.getElem_toArray, List.getElem_cons_zero, List.getElem_cons_succ]); refine wpAnyH_take (i := 11) (v := ?_) (by simp only [List.getElem?_toArray, List.getElem?_cons_zero, List.getElem?_cons_succ]; rfl) (by kernel_rfl) (by kernel_rfl) (by kernel_rfl) (by intro _ _ _ h; exact h) (Or.inl ⟨by rfl, ?_⟩) (by assumption) ?_; rotate_left; (focus (intro w1 hSw; (try dsimp only at hSw); go_simp; (try with_reducible rfl))); (try simp only [Act.put, List.setIfInBounds_toArray, List.set_cons_zero, List.set_cons_succ, List.getElem_toArray, List.getElem_cons_zero, List.getElem_cons_succ]); refine wpAnyH_done (by kernel_rfl) ?_ _; go_wp2_with fail; go_ret2; exact ⟨S', R', As, Ar, cs, cr, HF.out.1, HF.out.2.1, HF.out.2.2.1, rfl, HF.out.2.2.2.1, HF.out.2.2.2.2.1, HF.out.2.2.2.2.2⟩
end Go.Proofs.Ytgkppjkmakomnaa
