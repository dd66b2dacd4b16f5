/- The reference's functions of chapter 05, walked: ends, combine. -/
import Derived.Test.YtkipbmcahkacmaaSpanRef2
import Derived.Deep.RegionHeld3
import Derived.Deep.RegionWith
import Derived.Deep.DrawnRows
import Derived.IntWalk
namespace Go.Proofs.Ytkipbmcahkacmaa
open Go.RowKit Go.Lib

set_option maxHeartbeats 1000000 in
theorem rends_any (A : Option Addr) (c : Nat) (l : List Iv) (B : Option Addr) (d : Nat) (o : List Int) (w : World) (h : Rd encIv 2 w w.heap.size A l) (ho : Rd encI 1 w w.heap.size B o) (hl : l.length ≤ 100000000000) (hol : o.length ≤ 100000000000) :
    Calls Try.prog 39 #[.slice A l.length c, .slice B o.length d] w fun e w' => ∃ A' c', e = .returned (.slice A' (endsL l o).length c') ∧ Rd encI 1 w' w'.heap.size A' (endsL l o) ∧ Below w.heap.size w w' := by
  go_enter Try.func39, Try.ntmps39
  go_wp2
  go_loopw [5, 6] (fun v i wr => ∃ (k : Nat) (A' : Option Addr) (c' : Nat) (p : List Int), k ≤ l.length ∧ i = .int .i64 k ∧ Hid (endsL (l.take k) o = p) ∧ v = .slice A' p.length c' ∧ Rd encI 1 wr wr.heap.size A' p ∧ Below w.heap.size w wr) (fun _ i _ => l.length - (intOf i).toNat)
  case atStart => exact ⟨0, B, d, o, Nat.zero_le _, rfl, rfl, rfl, ho, Below.refl _ _⟩
  case round =>
    obtain ⟨k, A', c', p, hk, rfl, HP, rfl, hrd, hbel⟩ := hrel
    have hpl : p.length ≤ 400000000000 := by
      have h1 := endsL_length (l.take k) o
      rw [HP.out] at h1
      have h2 : (l.take k).length ≤ k := List.length_take_le _ _
      omega
    by_cases hlt : k < l.length
    · obtain ⟨b, off, f, u, rfl, hb, hx, hc0, hc1⟩ := (h.keep hbel).iv hlt
      clear h ho
      have hb' : b < wr.heap.size := Nat.lt_of_lt_of_le hb hbel.size
      have hst : endsL (l.take (k + 1)) o = if validB f u then putL (putL p f) u else p := by
        rw [take_snoc hx, endsL_snoc, HP.out]; rfl
      clear hx
      cases hv : validB f u
      · have R := Lib.hid (show endsL (l.take (k + 1)) o = p by rw [hst, hv]; rfl)
        clear hst
        have hbal : Below w.heap.size w (wr.alloc (.cells #[.int .i64 f, .int .i64 u] 25)) := hbel.alloc hbel.size _
        have hrd1 := (hrd.keepW (w' := wr.alloc (.cells #[.int .i64 f, .int .i64 u] 25)) (fun q hq => World.cell?_alloc_lt wr _ q hq)).more (B' := (wr.alloc (.cells #[.int .i64 f, .int .i64 u] 25)).heap.size) (by simp)
        go_wp2_with (go_at_call 11; refine (rvalid_any _ _ _).mono ?_; rintro e w' ⟨rfl, rfl⟩)
        go_roundw
        case rel => exact ⟨k + 1, A', c', p, by omega, by go_num, R, rfl, hrd1, hbal⟩
        case measure => simp [intOf]; omega
      · have R := Lib.hid (show endsL (l.take (k + 1)) o = putL (putL p f) u by rw [hst, hv]; rfl)
        clear hst
        have hbal : Below w.heap.size w (wr.alloc (.cells #[.int .i64 f, .int .i64 u] 25)) := hbel.alloc hbel.size _
        have hrd1 := (hrd.keepW (w' := wr.alloc (.cells #[.int .i64 f, .int .i64 u] 25)) (fun q hq => World.cell?_alloc_lt wr _ q hq)).more (B' := (wr.alloc (.cells #[.int .i64 f, .int .i64 u] 25)).heap.size) (by simp)
        have hc0' := (World.cell?_alloc_lt wr (.cells #[.int .i64 f, .int .i64 u] 25) ⟨b, off + k * 2, none⟩ hb').trans hc0
        have hc1' := (World.cell?_alloc_lt wr (.cells #[.int .i64 f, .int .i64 u] 25) ⟨b, off + k * 2 + 1, none⟩ hb').trans hc1
        go_wp2_with (go_at_call 11; refine (rvalid_any _ _ _).mono ?_; rintro e w' ⟨rfl, rfl⟩)
        have hz : wr.heap.size < (wr.alloc (.cells #[.int .i64 f, .int .i64 u] 25)).heap.size := by simp
        generalize wr.alloc (.cells #[.int .i64 f, .int .i64 u] 25) = wq at *
        have hpl1 : (putL p f).length ≤ 500000000000 := by have := putL_length p f; omega
        have hlz : (k : Int) < (l.length : Int) := by omega
        have hk0 : (0 : Int) ≤ (k : Int) := by omega
        have hbq : b < wq.drew.heap.size := by show b < wq.heap.size; omega
        clear hc0 hc1 hb' hrd HP
        have hrd2 : Rd encI 1 wq.drew wq.drew.heap.size A' p := hrd1
        clear hrd1
        go_region_held3 (fun w' => w'.cell? ⟨b, off + k * 2, none⟩ = some (.int .i64 f) ∧ w'.cell? ⟨b, off + k * 2 + 1, none⟩ = some (.int .i64 u)) (go_keep) (first | (go_at_call 45; (with_reducible refine (rput_any _ _ p f _ hrd2 (by omega)).mono ?_); rintro e w1 ⟨A1, c1, rfl, hown1, hb1⟩; have q0 := (hb1.cell (p := ⟨b, off + k * 2, none⟩) hbq).trans hc0'; have q1 := (hb1.cell (p := ⟨b, off + k * 2 + 1, none⟩) hbq).trans hc1') | (go_at_call 45; (with_reducible refine (rput_any _ _ (putL p f) u _ (hown1.rd encI_ok) (by omega)).mono ?_); rintro e w2 ⟨A2, c2, rfl, hown2, hb2⟩; have q2 := (hb2.cell (p := ⟨b, off + k * 2, none⟩) (Nat.lt_of_lt_of_le hbq hb1.size)).trans q0; have q3 := (hb2.cell (p := ⟨b, off + k * 2 + 1, none⟩) (Nat.lt_of_lt_of_le hbq hb1.size)).trans q1))
        go_wp2
        go_roundw
        case rel => exact ⟨k + 1, A2, c2, _, by omega, by go_num, R, by simp, hown2.rd encI_ok, (hbal.drew.trans (hb1.mono (Nat.le_trans hbel.size (Nat.le_of_lt hz)))).trans (hb2.mono (Nat.le_trans (Nat.le_trans hbel.size (Nat.le_of_lt hz)) hb1.size))⟩
        case measure => simp [intOf]; omega
    · obtain rfl : k = l.length := by omega
      have R := Lib.hid (show endsL l o = p by have := HP.out; rwa [List.take_length] at this)
      clear h ho HP
      go_wp2
      go_ret
      rw [R.out]
      exact ⟨A', c', rfl, hrd, hbel⟩

theorem Rd.ints {w : World} {B : Nat} {A : Option Addr} {l : List Int} (h : Rd encI 1 w B A l) {i : Nat} (hi : i + 1 < l.length) :
    ∃ b off x y, A = some ⟨b, off, none⟩ ∧ b < B ∧ l[i]? = some x ∧ l[i + 1]? = some y ∧ w.cell? ⟨b, off + i, none⟩ = some (.int .i64 x) ∧ w.cell? ⟨b, off + (i + 1), none⟩ = some (.int .i64 y) := by
  obtain ⟨b, off, x, hA, hb, hx, hc⟩ := h.i (show i < l.length by omega)
  obtain ⟨b', off', y, hA', hb', hy, hc'⟩ := h.i hi
  rw [hA] at hA'
  injection hA' with e
  injection e with e1 e2
  subst e1 e2
  exact ⟨b, off, x, y, hA, hb, hx, hy, hc, hc'⟩

/-- the segments that are done after k rounds -/
def segK (a b : List Iv) (way : Int) (p : List Int) (k : Nat) : List Iv := ((segs p).take k).foldl (segStep (inB a b way)) []
theorem segK_succ {a b : List Iv} {way : Int} {p : List Int} {k : Nat} {x y : Int} (hx : p[k]? = some x) (hy : p[k + 1]? = some y) : segK a b way p (k + 1) = segStep (inB a b way) (segK a b way p k) (x, y) := by
  unfold segK
  rw [take_snoc (segs_get p k x y hx hy), List.foldl_append]
  rfl
theorem segK_length (a b : List Iv) (way : Int) (p : List Int) (k : Nat) : (segK a b way p k).length ≤ k := by
  have key : ∀ (l out : List Iv), (l.foldl (segStep (inB a b way)) out).length ≤ out.length + l.length := by
    intro l
    induction l with
    | nil => intro out; simp
    | cons x l ih =>
      intro out
      rw [List.foldl_cons]
      have := ih (segStep (inB a b way) out x)
      have := segStep_length (inB a b way) out x
      simp only [List.length_cons]
      omega
  have := key ((segs p).take k) []
  have h2 : ((segs p).take k).length ≤ k := List.length_take_le _ _
  simp only [List.length_nil] at this
  unfold segK
  omega

set_option maxHeartbeats 2000000 in
theorem rcombine_any (A : Option Addr) (c : Nat) (a : List Iv) (B : Option Addr) (d : Nat) (b : List Iv) (way : Int) (w : World) (ha : Rd encIv 2 w w.heap.size A a) (hb : Rd encIv 2 w w.heap.size B b) (hla : a.length ≤ 10000000000) (hlb : b.length ≤ 10000000000) :
    Calls Try.prog 31 #[.slice A a.length c, .slice B b.length d, .int .i64 way] w fun e w' => ∃ A' c', e = .returned (.slice A' (combL a b way).length c') ∧ Own 25 encIv 2 w' w.heap.size A' c' (combL a b way) ∧ Below w.heap.size w w' := by
  have hea := endsL_length a []
  have heb := endsL_length b (endsL a [])
  simp only [List.length_nil] at hea
  have C1 := Lib.hid (rends_any A c a none 0 [] w ha Rd.nil (by omega) (by simp))
  have C2 := Lib.hid (fun (w1 : World) (hb1 : Below w.heap.size w w1) (A' : Option Addr) (c' : Nat) (h1 : Rd encI 1 w1 w1.heap.size A' (endsL a [])) => rends_any B d b A' c' (endsL a []) w1 ((hb.keep hb1).more hb1.size) h1 (by omega) (by omega))
  go_enter Try.func31, Try.ntmps31
  go_wp2_with fail
  refine C1.out.mono ?_
  rintro e w1 ⟨A1, c1, rfl, hr1, hb1⟩
  go_wp2_with fail
  refine (C2.out w1 hb1 A1 c1 hr1).mono ?_
  rintro e w2 ⟨A2, c2, rfl, hr2, hb2⟩
  clear C1 C2 hr1
  have hbel : Below w.heap.size w w2 := hb1.trans (hb2.mono hb1.size)
  clear hb1 hb2
  obtain ⟨p, hp⟩ : ∃ p, p = endsL b (endsL a []) := ⟨_, rfl⟩
  have hpl : p.length ≤ 100000000000 := by rw [hp]; omega
  have R0 := Lib.hid (show combL a b way = segK a b way p (p.length - 1) by unfold combL segL segK; rw [← segs_length, List.take_length, hp])
  rw [← hp] at hr2 ⊢
  clear hp hea heb
  have HA := Lib.hid ((ha.keep hbel).more hbel.size)
  have HB := Lib.hid ((hb.keep hbel).more hbel.size)
  have CIn := Lib.hid (fun (w3 : World) (hb3 : Below w2.heap.size w2 w3) (t : Int) => rin_any A B c d a b t way w3 ((HA.out.keep hb3).more hb3.size) ((HB.out.keep hb3).more hb3.size) (by omega) (by omega))
  clear ha hb
  go_wp2_with fail
  go_loopw [7, 9] (fun v i wr => ∃ (k : Nat) (A' : Option Addr) (c' : Nat) (o : List Iv), (k + 1 ≤ p.length ∨ k = 0) ∧ i = .int .i64 k ∧ Hid (segK a b way p k = o) ∧ v = .slice A' o.length c' ∧ Own 25 encIv 2 wr w2.heap.size A' c' o ∧ Below w2.heap.size w2 wr) (fun _ i _ => p.length - (intOf i).toNat)
  case atStart => exact ⟨0, none, 0, [], .inr rfl, rfl, rfl, rfl, Own.nil _ _, Below.refl _ _⟩
  case round =>
    obtain ⟨k, A', c', o, hk, rfl, HO, rfl, hown, hbr⟩ := hrel
    have hol : o.length ≤ k := by rw [← HO.out]; exact segK_length _ _ _ _ _
    by_cases hlt : k + 1 < p.length
    · obtain ⟨g, off, x, y, rfl, hg, hx, hy, hc0, hc1⟩ := (hr2.keep hbr).ints hlt
      have hst : segK a b way p (k + 1) = segStep (inB a b way) o (x, y) := by rw [segK_succ hx hy, HO.out]
      have HR := Lib.hid hr2
      clear hx hy hr2 hk
      cases hi : inB a b way x
      · have R := Lib.hid (show segK a b way p (k + 1) = o by rw [hst, segStep_no _ _ _ hi])
        clear hst
        go_wp2_with (go_at_call 40; refine (CIn.out wr hbr x).mono ?_; rw [hi]; rintro e w3 ⟨rfl, hb3⟩)
        go_roundw
        case rel => exact ⟨k + 1, A', c', o, by omega, by go_num, R, rfl, hown.keep hb3 (Nat.le_refl _), hbr.trans (hb3.mono hbr.size)⟩
        case measure => simp [intOf]; omega
      · rcases snoc_cases o with rfl | ⟨q, z, rfl⟩
        · have R := Lib.hid (show segK a b way p (k + 1) = [(x, y)] by rw [hst]; simp [segStep, hi])
          clear hst
          go_wp2_with (go_at_call 40; refine (CIn.out wr hbr x).mono ?_; rw [hi]; rintro e w3 ⟨rfl, hb3⟩)
          have hb4 := hbr.trans (hb3.mono hbr.size)
          have hg3 : g < wr.heap.size := Nat.lt_of_lt_of_le hg hbr.size
          have hg4 : g < w3.heap.size := Nat.lt_of_lt_of_le hg3 hb3.size
          have hc2 := (hb3.cell (p := ⟨g, off + k, none⟩) hg3).trans hc0
          have hc3 := (hb3.cell (p := ⟨g, off + (k + 1), none⟩) hg3).trans hc1
          have hown3 := hown.keep hb3 (Nat.le_refl _)
          clear hc0 hc1 hown
          go_quiet (fail)
          go_wp2
          have hown4 := hown3.drewN nq
          have hb5 := below_drewN hb4 nq
          have hk1 : (0 : Int) ≤ (k : Int) := by omega
          have hk2 : (k : Int) < (p.length : Int) := by omega
          have hk3 : (0 : Int) ≤ (k : Int) + 1 := by omega
          have hk4 : (k : Int) + 1 < (p.length : Int) := by omega
          have hc4 : (w3.drewN nq).cell? ⟨g, off + k, none⟩ = some (.int .i64 x) := hc2
          have hc5 : (w3.drewN nq).cell? ⟨g, off + (k + 1), none⟩ = some (.int .i64 y) := hc3
          have hbq : w2.heap.size ≤ (w3.drewN nq).heap.size := hb5.size
          have hgq : g < (w3.drewN nq).heap.size := Nat.lt_of_lt_of_le hg hb5.size
          have hw1 : IntKind.i64.wrap ((k : Int) + 1) = (k : Int) + 1 := IntWalk.i64_in _ (by omega)
          have hw2 : ((k : Int) + 1).toNat = k + 1 := by omega
          clear hown3 hb4 hc2 hc3 hb3 hg4 hg3
          generalize w3.drewN nq = wq at *
          go_region_held3 (fun w' => w'.cell? ⟨g, off + k, none⟩ = some (.int .i64 x) ∧ w'.cell? ⟨g, off + (k + 1), none⟩ = some (.int .i64 y)) (go_keep) ((refine step_app1 (l := ([] : List Iv)) rfl (.tmp 57) (.tmp 68) tyIv encIv_ok (by rfl) ((x, y) : Iv) (by rfl) w2.heap.size (by rfl) (by first | rfl | simp) (by exact (hown4.alloc _)) (by rfl) (by first | exact heap_alloc_new _ _ | exact heap_alloc_new' _ _ _ (by simp)) (by first | omega | (simp; done) | (simp; omega)) (by first | omega | (simp; done) | (simp; omega)) (by have := hb5.size; simp; omega) ?_; intro A9 c9 w9 hown9 hb9 hs9 hf9; have hbel9 := (hb5.alloc hb5.size _).drew.trans hb9; have q0 := (hb9.cell (p := ⟨g, off + k, none⟩) hg).trans ((World.cell?_alloc_lt wq.drew _ ⟨g, off + k, none⟩ hgq).trans hc4); have q1 := (hb9.cell (p := ⟨g, off + (k + 1), none⟩) hg).trans ((World.cell?_alloc_lt wq.drew _ ⟨g, off + (k + 1), none⟩ hgq).trans hc5)))
          clear hw1 hw2
          go_wp2
          go_roundw
          case rel => exact ⟨k + 1, A9, c9, _, .inl hlt, by go_num, R, by simp, hown9, hbel9⟩
          case measure => simp [intOf]; omega
        · obtain ⟨hA, h0, _⟩ | ⟨g', hA, hg1, hg2⟩ := hown.form
          · simp at h0
          · subst hA
            have hz1 := hown.cells encIv_ok rfl (i := q.length) (x := z) (by simp) (j := 1) (u := .int .i64 z.2) rfl
            have hz2 := hown.frozen rfl (q.length * 2 + 1)
            have hql : q.length ≤ 100000000000 := by simp at hol; omega
            by_cases he : z.2 = x
            · have hq : ((z.2 : Int) == x) = true := by simpa using he
              have R := Lib.hid (show segK a b way p (k + 1) = q ++ [(z.1, y)] by rw [hst, segStep_snoc _ _ _ _ hi, if_pos he])
              have HE := Lib.hid he
              clear hst he
              go_wp2_with (go_at_call 40; refine (CIn.out wr hbr x).mono ?_; rw [hi]; rintro e w3 ⟨rfl, hb3⟩)
              have hb4 := hbr.trans (hb3.mono hbr.size)
              have hg3 : g < wr.heap.size := Nat.lt_of_lt_of_le hg hbr.size
              have hg4 : g < w3.heap.size := Nat.lt_of_lt_of_le hg3 hb3.size
              have hc2 := (hb3.cell (p := ⟨g, off + k, none⟩) hg3).trans hc0
              have hc3 := (hb3.cell (p := ⟨g, off + (k + 1), none⟩) hg3).trans hc1
              have hz3 := (hb3.cell (p := ⟨g', q.length * 2 + 1, none⟩) hg2).trans hz1
              have hz4 := (hb3.frozen (p := ⟨g', q.length * 2 + 1, none⟩) hg2).trans hz2
              have hown3 := hown.keep hb3 (Nat.le_refl _)
              clear hc0 hc1 hz1 hz2 hown
              go_quiet (fail)
              have hown4 := (hown3.drewN nq).stored encIv_ok (g := g') (i := q.length) (j := 1) (x := z) (y := (z.1, y)) (u := .int .i64 y) rfl (by simp) (by omega) rfl
              have hb5 := (below_drewN hb4 nq).setCell (p := ⟨g', q.length * 2 + 1, none⟩) hg1 (.int .i64 y)
              have hset : (q ++ [z]).set q.length (z.1, y) = q ++ [(z.1, y)] := by simp
              rw [hset] at hown4
              clear hset hown3
              go_wp2
              go_roundw
              case rel => exact ⟨k + 1, _, _, _, .inl hlt, by go_num, R, by simp, hown4, hb5⟩
              case measure => simp [intOf]; omega
            · have hq : ((z.2 : Int) == x) = false := by simpa using he
              have R := Lib.hid (show segK a b way p (k + 1) = q ++ [z] ++ [(x, y)] by rw [hst, segStep_snoc _ _ _ _ hi, if_neg he])
              clear hst
              go_wp2_with (go_at_call 40; refine (CIn.out wr hbr x).mono ?_; rw [hi]; rintro e w3 ⟨rfl, hb3⟩)
              have hb4 := hbr.trans (hb3.mono hbr.size)
              have hg3 : g < wr.heap.size := Nat.lt_of_lt_of_le hg hbr.size
              have hg4 : g < w3.heap.size := Nat.lt_of_lt_of_le hg3 hb3.size
              have hc2 := (hb3.cell (p := ⟨g, off + k, none⟩) hg3).trans hc0
              have hc3 := (hb3.cell (p := ⟨g, off + (k + 1), none⟩) hg3).trans hc1
              have hz3 := (hb3.cell (p := ⟨g', q.length * 2 + 1, none⟩) hg2).trans hz1
              have hown3 := hown.keep hb3 (Nat.le_refl _)
              clear hc0 hc1 hz1 hz2 hown
              go_quiet (fail)
              go_wp2
              have hown4 := hown3.drewN nq
              have hb5 := below_drewN hb4 nq
              have hk1 : (0 : Int) ≤ (k : Int) := by omega
              have hk2 : (k : Int) < (p.length : Int) := by omega
              have hk3 : (0 : Int) ≤ (k : Int) + 1 := by omega
              have hk4 : (k : Int) + 1 < (p.length : Int) := by omega
              have hc4 : (w3.drewN nq).cell? ⟨g, off + k, none⟩ = some (.int .i64 x) := hc2
              have hc5 : (w3.drewN nq).cell? ⟨g, off + (k + 1), none⟩ = some (.int .i64 y) := hc3
              have hgq : g < (w3.drewN nq).heap.size := Nat.lt_of_lt_of_le hg hb5.size
              have hw1 : IntKind.i64.wrap ((k : Int) + 1) = (k : Int) + 1 := IntWalk.i64_in _ (by omega)
              have hw2 : ((k : Int) + 1).toNat = k + 1 := by omega
              clear hown3 hb4 hc2 hc3 hb3 hg4 hg3 hz3
              generalize w3.drewN nq = wq at *
              go_region_held3 (fun w' => w'.cell? ⟨g, off + k, none⟩ = some (.int .i64 x) ∧ w'.cell? ⟨g, off + (k + 1), none⟩ = some (.int .i64 y)) (go_keep) ((refine step_app1 (l := q ++ [z]) rfl (.tmp 57) (.tmp 68) tyIv encIv_ok (by rfl) ((x, y) : Iv) (by rfl) w2.heap.size (by rfl) (by first | rfl | simp) (by exact (hown4.alloc _)) (by rfl) (by first | exact heap_alloc_new _ _ | exact heap_alloc_new' _ _ _ (by simp)) (by first | omega | (simp; done) | (simp; omega)) (by first | omega | (simp; done) | (simp; omega)) (by have := hb5.size; simp; omega) ?_; intro A9 c9 w9 hown9 hb9 hs9 hf9; have hbel9 := (hb5.alloc hb5.size _).drew.trans hb9; have q0 := (hb9.cell (p := ⟨g, off + k, none⟩) hg).trans ((World.cell?_alloc_lt wq.drew _ ⟨g, off + k, none⟩ hgq).trans hc4); have q1 := (hb9.cell (p := ⟨g, off + (k + 1), none⟩) hg).trans ((World.cell?_alloc_lt wq.drew _ ⟨g, off + (k + 1), none⟩ hgq).trans hc5)))
              clear hw1 hw2
              go_wp2
              go_roundw
              case rel => exact ⟨k + 1, A9, c9, _, .inl hlt, by go_num, R, by simp, hown9, hbel9⟩
              case measure => simp [intOf]; omega
    · have R := Lib.hid (show combL a b way = o by rw [R0.out, ← HO.out]; congr 1; omega)
      have hp1 : (k : Int) + 1 < (p.length : Int) → False := by omega
      clear R0 HO hr2
      go_wp2
      go_ret
      rw [R.out]
      exact ⟨A', c', rfl, hown.mono hbel.size, hbel.trans (hbr.mono hbel.size)⟩
end Go.Proofs.Ytkipbmcahkacmaa
