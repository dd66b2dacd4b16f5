/- SameSeen, SameSeens, SameRejects at equal values, walked. -/
import Derived.Test.YtgkppjkmakomnaaDetRComp
set_option linter.unusedSimpArgs false
namespace Go.Proofs.Ytgkppjkmakomnaa
open Go.RowKit Go.Lib

theorem Rd.sn {w : World} {B : Nat} {A : Option Addr} {l : List Sn} (h : Rd encSn 11 w B A l) {i : Nat} (hi : i < l.length) :
    ∃ b off x, A = some ⟨b, off, none⟩ ∧ b < B ∧ l[i]? = some x ∧ w.cell? ⟨b, off + i * 11, none⟩ = some (.string x.d.dev) ∧ w.cell? ⟨b, off + i * 11 + 1, none⟩ = some (.int .i64 x.d.seq) ∧ w.cell? ⟨b, off + i * 11 + 2, none⟩ = some (.int .i64 x.d.time) ∧ w.cell? ⟨b, off + i * 11 + 3, none⟩ = some (.string x.d.tag) ∧ w.cell? ⟨b, off + i * 11 + 4, none⟩ = some (.string x.d.pl) ∧ w.cell? ⟨b, off + i * 11 + 5, none⟩ = some (.int .i64 x.d.ax) ∧ w.cell? ⟨b, off + i * 11 + 6, none⟩ = some (.int .i64 x.d.sc) ∧ w.cell? ⟨b, off + i * 11 + 7, none⟩ = some (.int .i64 x.t) ∧ w.cell? ⟨b, off + i * 11 + 8, none⟩ = some (.string x.pt) ∧ w.cell? ⟨b, off + i * 11 + 9, none⟩ = some (.int .i64 x.lane) ∧ w.cell? ⟨b, off + i * 11 + 10, none⟩ = some (.int .i64 x.kind) := by
  obtain ⟨b, off, x, hA, hb, hx, hc⟩ := h.at_ hi
  exact ⟨b, off, x, hA, hb, hx, hc 0 _ rfl, hc 1 _ rfl, hc 2 _ rfl, hc 3 _ rfl, hc 4 _ rfl, hc 5 _ rfl, hc 6 _ rfl, hc 7 _ rfl, hc 8 _ rfl, hc 9 _ rfl, hc 10 _ rfl⟩
theorem Rd.rj {w : World} {B : Nat} {A : Option Addr} {l : List Rj} (h : Rd encRj 8 w B A l) {i : Nat} (hi : i < l.length) :
    ∃ b off x, A = some ⟨b, off, none⟩ ∧ b < B ∧ l[i]? = some x ∧ w.cell? ⟨b, off + i * 8, none⟩ = some (.string x.d.dev) ∧ w.cell? ⟨b, off + i * 8 + 1, none⟩ = some (.int .i64 x.d.seq) ∧ w.cell? ⟨b, off + i * 8 + 2, none⟩ = some (.int .i64 x.d.time) ∧ w.cell? ⟨b, off + i * 8 + 3, none⟩ = some (.string x.d.tag) ∧ w.cell? ⟨b, off + i * 8 + 4, none⟩ = some (.string x.d.pl) ∧ w.cell? ⟨b, off + i * 8 + 5, none⟩ = some (.int .i64 x.d.ax) ∧ w.cell? ⟨b, off + i * 8 + 6, none⟩ = some (.int .i64 x.d.sc) ∧ w.cell? ⟨b, off + i * 8 + 7, none⟩ = some (.int .i64 x.why) := by
  obtain ⟨b, off, x, hA, hb, hx, hc⟩ := h.at_ hi
  exact ⟨b, off, x, hA, hb, hx, hc 0 _ rfl, hc 1 _ rfl, hc 2 _ rfl, hc 3 _ rfl, hc 4 _ rfl, hc 5 _ rfl, hc 6 _ rfl, hc 7 _ rfl⟩
theorem Rd.dt {w : World} {B : Nat} {A : Option Addr} {l : List Dt} (h : Rd encDt 7 w B A l) {i : Nat} (hi : i < l.length) :
    ∃ b off x, A = some ⟨b, off, none⟩ ∧ b < B ∧ l[i]? = some x ∧ w.cell? ⟨b, off + i * 7, none⟩ = some (.string x.dev) ∧ w.cell? ⟨b, off + i * 7 + 1, none⟩ = some (.int .i64 x.seq) ∧ w.cell? ⟨b, off + i * 7 + 2, none⟩ = some (.int .i64 x.time) ∧ w.cell? ⟨b, off + i * 7 + 3, none⟩ = some (.string x.tag) ∧ w.cell? ⟨b, off + i * 7 + 4, none⟩ = some (.string x.pl) ∧ w.cell? ⟨b, off + i * 7 + 5, none⟩ = some (.int .i64 x.ax) ∧ w.cell? ⟨b, off + i * 7 + 6, none⟩ = some (.int .i64 x.sc) := by
  obtain ⟨b, off, x, hA, hb, hx, hc⟩ := h.at_ hi
  exact ⟨b, off, x, hA, hb, hx, hc 0 _ rfl, hc 1 _ rfl, hc 2 _ rfl, hc 3 _ rfl, hc 4 _ rfl, hc 5 _ rfl, hc 6 _ rfl⟩
theorem cmpSn_self (s : Sn) : cmpSn s s = 0 := cmpSn_zero.2 rfl
theorem cmpRj_self (s : Rj) : cmpRj s s = 0 := cmpRj_zero.2 rfl
theorem rorder_self (s : Rj) (hsz : SzD s.d) (w : World) : Calls Try.prog 47 #[RjV s, RjV s] w fun e w' => e = .returned (.int .i64 0) ∧ Gr w w' := by
  have := rorder_any s s hsz w
  rwa [cmpRj_self] at this
set_option maxRecDepth 100000 in
set_option maxHeartbeats 4000000 in
theorem sameSn_true (s : Sn) (hsz : SzS s) (w : World) : Calls Try.prog 16 #[SnV s, SnV s] w fun e w' => e = .returned (.bool true) ∧ Gr w w' := by
  have CO := Lib.hid (fun (X : World) => rcomp_any s s hsz X)
  rw [cmpSn_self] at CO
  obtain ⟨⟨a1, a2, a3, a4, a5, a6, a7⟩, at_, ap, al, ak⟩ := s
  simp only [SnV] at CO ⊢
  obtain ⟨Y1, hY1⟩ : ∃ Y, w.alloc (.cells #[.string a1, .int .i64 a2, .int .i64 a3, .string a4, .string a5, .int .i64 a6, .int .i64 a7, .int .i64 at_, .string ap, .int .i64 al, .int .i64 ak] 29) = Y := ⟨_, rfl⟩; obtain ⟨Y2, hY2⟩ : ∃ Y, Y1.alloc (.cells #[.string a1, .int .i64 a2, .int .i64 a3, .string a4, .string a5, .int .i64 a6, .int .i64 a7, .int .i64 at_, .string ap, .int .i64 al, .int .i64 ak] 29) = Y := ⟨_, rfl⟩; have gY : Gr w Y2 := (by rw [← hY2, ← hY1]; exact (Gr.alloc _ _).trans (Gr.alloc _ _)); have BA : Blk Y2 w.heap.size #[.string a1, .int .i64 a2, .int .i64 a3, .string a4, .string a5, .int .i64 a6, .int .i64 a7, .int .i64 at_, .string ap, .int .i64 al, .int .i64 ak] 29 := (by rw [← hY2, ← hY1]; exact (Blk.new w _ _).alloc _); have BB : Blk Y2 Y1.heap.size #[.string a1, .int .i64 a2, .int .i64 a3, .string a4, .string a5, .int .i64 a6, .int .i64 a7, .int .i64 at_, .string ap, .int .i64 al, .int .i64 ak] 29 := (by rw [← hY2]; exact Blk.new Y1 _ _)
  go_enter Try.func16, Try.ntmps16
  go_wp2_with (first | (refine wpList_boxLoad rfl (ty := 29) (x := .tmp 2) (cs := #[.string a1, .int .i64 a2, .int .i64 a3, .string a4, .string a5, .int .i64 a6, .int .i64 a7, .int .i64 at_, .string ap, .int .i64 al, .int .i64 ak]) rfl BA rfl ⟨_, Try.underlying29, by kernel_rfl⟩ ?_) | (refine wpList_boxLoad rfl (ty := 29) (x := .tmp 3) (cs := #[.string a1, .int .i64 a2, .int .i64 a3, .string a4, .string a5, .int .i64 a6, .int .i64 a7, .int .i64 at_, .string ap, .int .i64 al, .int .i64 ak]) rfl BB rfl ⟨_, Try.underlying29, by kernel_rfl⟩ ?_))
  refine (CO.out _).mono ?_
  rintro e wn ⟨rfl, hg⟩
  go_wp2_with fail
  go_ret
  exact ⟨rfl, gY.trans hg⟩
set_option maxRecDepth 100000 in
set_option maxHeartbeats 8000000 in
theorem sameSns_true {A A2 : Option Addr} (c c2 : Nat) {l : List Sn} {w : World} (h1 : Rd encSn 11 w w.heap.size A l) (h2 : Rd encSn 11 w w.heap.size A2 l) (hl : l.length ≤ 1000000) (hz : ∀ x ∈ l, SzS x) :
    Calls Try.prog 25 #[.slice A l.length c, .slice A2 l.length c2] w fun e w' => e = .returned (.bool true) ∧ Below w.heap.size w w' := by
  have H1 := Lib.hid h1
  have H2 := Lib.hid h2
  have HZ := Lib.hid hz
  clear h1 h2 hz
  go_enter Try.func25, Try.ntmps25
  go_wp2_with fail
  go_loopw [5] (fun i wr => ∃ k : Nat, k ≤ l.length ∧ i = .int .i64 k ∧ Below w.heap.size w wr) (fun i _ => l.length - (intOf i).toNat)
  case atStart => exact ⟨0, Nat.zero_le _, rfl, Below.refl _ _⟩
  case round =>
    obtain ⟨k, hk, rfl, bW⟩ := hrel
    by_cases hi : k < l.length
    · obtain ⟨b, off, x, hA, hb, hx, d0, d1, d2, d3, d4, d5, d6, d7, d8, d9, d10⟩ := H1.out.sn hi
      obtain ⟨b', off', x', hA', hb', hx', e0, e1, e2, e3, e4, e5, e6, e7, e8, e9, e10⟩ := H2.out.sn hi
      obtain rfl : x = x' := Option.some.inj (hx.symm.trans hx')
      have CC := Lib.hid (fun (X : World) => sameSn_true x (HZ.out x (List.mem_of_getElem? hx)) X)
      have HC := Lib.hid (And.intro hb (And.intro hb' (show (fun w' : World => w'.cell? ⟨b, off + k * 11, none⟩ = some (.string x.d.dev) ∧ w'.cell? ⟨b, off + k * 11 + 1, none⟩ = some (.int .i64 x.d.seq) ∧ w'.cell? ⟨b, off + k * 11 + 2, none⟩ = some (.int .i64 x.d.time) ∧ w'.cell? ⟨b, off + k * 11 + 3, none⟩ = some (.string x.d.tag) ∧ w'.cell? ⟨b, off + k * 11 + 4, none⟩ = some (.string x.d.pl) ∧ w'.cell? ⟨b, off + k * 11 + 5, none⟩ = some (.int .i64 x.d.ax) ∧ w'.cell? ⟨b, off + k * 11 + 6, none⟩ = some (.int .i64 x.d.sc) ∧ w'.cell? ⟨b, off + k * 11 + 7, none⟩ = some (.int .i64 x.t) ∧ w'.cell? ⟨b, off + k * 11 + 8, none⟩ = some (.string x.pt) ∧ w'.cell? ⟨b, off + k * 11 + 9, none⟩ = some (.int .i64 x.lane) ∧ w'.cell? ⟨b, off + k * 11 + 10, none⟩ = some (.int .i64 x.kind) ∧ w'.cell? ⟨b', off' + k * 11, none⟩ = some (.string x.d.dev) ∧ w'.cell? ⟨b', off' + k * 11 + 1, none⟩ = some (.int .i64 x.d.seq) ∧ w'.cell? ⟨b', off' + k * 11 + 2, none⟩ = some (.int .i64 x.d.time) ∧ w'.cell? ⟨b', off' + k * 11 + 3, none⟩ = some (.string x.d.tag) ∧ w'.cell? ⟨b', off' + k * 11 + 4, none⟩ = some (.string x.d.pl) ∧ w'.cell? ⟨b', off' + k * 11 + 5, none⟩ = some (.int .i64 x.d.ax) ∧ w'.cell? ⟨b', off' + k * 11 + 6, none⟩ = some (.int .i64 x.d.sc) ∧ w'.cell? ⟨b', off' + k * 11 + 7, none⟩ = some (.int .i64 x.t) ∧ w'.cell? ⟨b', off' + k * 11 + 8, none⟩ = some (.string x.pt) ∧ w'.cell? ⟨b', off' + k * 11 + 9, none⟩ = some (.int .i64 x.lane) ∧ w'.cell? ⟨b', off' + k * 11 + 10, none⟩ = some (.int .i64 x.kind)) w from ⟨d0, d1, d2, d3, d4, d5, d6, d7, d8, d9, d10, e0, e1, e2, e3, e4, e5, e6, e7, e8, e9, e10⟩)))
      have hi1 : (0 : Int) ≤ (k : Int) := by omega
      have hi2 : (k : Int) < (l.length : Int) := by omega
      have HL := Lib.hid hi
      obtain ⟨⟨a1, a2, a3, a4, a5, a6, a7⟩, at_, ap, al, ak⟩ := x
      simp only [SnV] at CC HC
      clear hx hx' hk hi hb hb' d0 d1 d2 d3 d4 d5 d6 d7 d8 d9 d10 e0 e1 e2 e3 e4 e5 e6 e7 e8 e9 e10
      subst hA
      subst hA'
      have hSS : (fun w' : World => w'.cell? ⟨b, off + k * 11, none⟩ = some (.string a1) ∧ w'.cell? ⟨b, off + k * 11 + 1, none⟩ = some (.int .i64 a2) ∧ w'.cell? ⟨b, off + k * 11 + 2, none⟩ = some (.int .i64 a3) ∧ w'.cell? ⟨b, off + k * 11 + 3, none⟩ = some (.string a4) ∧ w'.cell? ⟨b, off + k * 11 + 4, none⟩ = some (.string a5) ∧ w'.cell? ⟨b, off + k * 11 + 5, none⟩ = some (.int .i64 a6) ∧ w'.cell? ⟨b, off + k * 11 + 6, none⟩ = some (.int .i64 a7) ∧ w'.cell? ⟨b, off + k * 11 + 7, none⟩ = some (.int .i64 at_) ∧ w'.cell? ⟨b, off + k * 11 + 8, none⟩ = some (.string ap) ∧ w'.cell? ⟨b, off + k * 11 + 9, none⟩ = some (.int .i64 al) ∧ w'.cell? ⟨b, off + k * 11 + 10, none⟩ = some (.int .i64 ak) ∧ w'.cell? ⟨b', off' + k * 11, none⟩ = some (.string a1) ∧ w'.cell? ⟨b', off' + k * 11 + 1, none⟩ = some (.int .i64 a2) ∧ w'.cell? ⟨b', off' + k * 11 + 2, none⟩ = some (.int .i64 a3) ∧ w'.cell? ⟨b', off' + k * 11 + 3, none⟩ = some (.string a4) ∧ w'.cell? ⟨b', off' + k * 11 + 4, none⟩ = some (.string a5) ∧ w'.cell? ⟨b', off' + k * 11 + 5, none⟩ = some (.int .i64 a6) ∧ w'.cell? ⟨b', off' + k * 11 + 6, none⟩ = some (.int .i64 a7) ∧ w'.cell? ⟨b', off' + k * 11 + 7, none⟩ = some (.int .i64 at_) ∧ w'.cell? ⟨b', off' + k * 11 + 8, none⟩ = some (.string ap) ∧ w'.cell? ⟨b', off' + k * 11 + 9, none⟩ = some (.int .i64 al) ∧ w'.cell? ⟨b', off' + k * 11 + 10, none⟩ = some (.int .i64 ak)) wr := by
        obtain ⟨q1, q2, d0, d1, d2, d3, d4, d5, d6, d7, d8, d9, d10, e0, e1, e2, e3, e4, e5, e6, e7, e8, e9, e10⟩ := HC.out
        exact ⟨(bW.cell q1).trans d0, (bW.cell q1).trans d1, (bW.cell q1).trans d2, (bW.cell q1).trans d3, (bW.cell q1).trans d4, (bW.cell q1).trans d5, (bW.cell q1).trans d6, (bW.cell q1).trans d7, (bW.cell q1).trans d8, (bW.cell q1).trans d9, (bW.cell q1).trans d10, (bW.cell q2).trans e0, (bW.cell q2).trans e1, (bW.cell q2).trans e2, (bW.cell q2).trans e3, (bW.cell q2).trans e4, (bW.cell q2).trans e5, (bW.cell q2).trans e6, (bW.cell q2).trans e7, (bW.cell q2).trans e8, (bW.cell q2).trans e9, (bW.cell q2).trans e10⟩
      go_upto_region 6 with fail
      refine wp_region_held_drew (S := (fun w' : World => w'.cell? ⟨b, off + k * 11, none⟩ = some (.string a1) ∧ w'.cell? ⟨b, off + k * 11 + 1, none⟩ = some (.int .i64 a2) ∧ w'.cell? ⟨b, off + k * 11 + 2, none⟩ = some (.int .i64 a3) ∧ w'.cell? ⟨b, off + k * 11 + 3, none⟩ = some (.string a4) ∧ w'.cell? ⟨b, off + k * 11 + 4, none⟩ = some (.string a5) ∧ w'.cell? ⟨b, off + k * 11 + 5, none⟩ = some (.int .i64 a6) ∧ w'.cell? ⟨b, off + k * 11 + 6, none⟩ = some (.int .i64 a7) ∧ w'.cell? ⟨b, off + k * 11 + 7, none⟩ = some (.int .i64 at_) ∧ w'.cell? ⟨b, off + k * 11 + 8, none⟩ = some (.string ap) ∧ w'.cell? ⟨b, off + k * 11 + 9, none⟩ = some (.int .i64 al) ∧ w'.cell? ⟨b, off + k * 11 + 10, none⟩ = some (.int .i64 ak) ∧ w'.cell? ⟨b', off' + k * 11, none⟩ = some (.string a1) ∧ w'.cell? ⟨b', off' + k * 11 + 1, none⟩ = some (.int .i64 a2) ∧ w'.cell? ⟨b', off' + k * 11 + 2, none⟩ = some (.int .i64 a3) ∧ w'.cell? ⟨b', off' + k * 11 + 3, none⟩ = some (.string a4) ∧ w'.cell? ⟨b', off' + k * 11 + 4, none⟩ = some (.string a5) ∧ w'.cell? ⟨b', off' + k * 11 + 5, none⟩ = some (.int .i64 a6) ∧ w'.cell? ⟨b', off' + k * 11 + 6, none⟩ = some (.int .i64 a7) ∧ w'.cell? ⟨b', off' + k * 11 + 7, none⟩ = some (.int .i64 at_) ∧ w'.cell? ⟨b', off' + k * 11 + 8, none⟩ = some (.string ap) ∧ w'.cell? ⟨b', off' + k * 11 + 9, none⟩ = some (.int .i64 al) ∧ w'.cell? ⟨b', off' + k * 11 + 10, none⟩ = some (.int .i64 ak))) (by kernel_rfl) ?_ (fun hHeld => ?_)
      focus exact hSS
      have bW := bW.drew
      change wpAnyH _ _ _ _ _ 10 _ _ _
      refine wpAnyH_take (i := 0) (v := ?_) (by simp only [List.getElem?_toArray, List.getElem?_cons_zero, List.getElem?_cons_succ]; rfl) (by kernel_rfl) (by kernel_rfl) (by kernel_rfl) (by intro _ _ _ h; exact h) (Or.inl ⟨by rfl, ?_⟩) (by assumption) ?_; rotate_left; (focus (intro w1 hSw; (try dsimp only at hSw); go_simp; (try with_reducible rfl))); (try simp only [Act.put, List.setIfInBounds_toArray, List.set_cons_zero, List.set_cons_succ, List.getElem_toArray, List.getElem_cons_zero, List.getElem_cons_succ])
      refine wpAnyH_take (i := 1) (v := ?_) (by simp only [List.getElem?_toArray, List.getElem?_cons_zero, List.getElem?_cons_succ]; rfl) (by kernel_rfl) (by kernel_rfl) (by kernel_rfl) (by intro _ _ _ h; exact h) (Or.inl ⟨by rfl, ?_⟩) (by assumption) ?_; rotate_left; (focus (intro w1 hSw; (try dsimp only at hSw); go_simp; (try with_reducible rfl))); (try simp only [Act.put, List.setIfInBounds_toArray, List.set_cons_zero, List.set_cons_succ, List.getElem_toArray, List.getElem_cons_zero, List.getElem_cons_succ])
      refine wpAnyH_take (i := 2) (v := ?_) (by simp only [List.getElem?_toArray, List.getElem?_cons_zero, List.getElem?_cons_succ]; rfl) (by kernel_rfl) (by kernel_rfl) (by kernel_rfl) (by intro _ _ _ h; exact h) (Or.inl ⟨by rfl, ?_⟩) (by assumption) ?_; rotate_left; (focus (intro w1 hSw; (try dsimp only at hSw); go_simp; (try with_reducible rfl))); (try simp only [Act.put, List.setIfInBounds_toArray, List.set_cons_zero, List.set_cons_succ, List.getElem_toArray, List.getElem_cons_zero, List.getElem_cons_succ])
      refine wpAnyH_take (i := 3) (v := ?_) (by simp only [List.getElem?_toArray, List.getElem?_cons_zero, List.getElem?_cons_succ]; rfl) (by kernel_rfl) (by kernel_rfl) (by kernel_rfl) (by intro _ _ _ h; exact h) (Or.inl ⟨by rfl, ?_⟩) (by assumption) ?_; rotate_left; (focus (intro w1 hSw; (try dsimp only at hSw); go_simp; (try with_reducible rfl))); (try simp only [Act.put, List.setIfInBounds_toArray, List.set_cons_zero, List.set_cons_succ, List.getElem_toArray, List.getElem_cons_zero, List.getElem_cons_succ])
      refine wpAnyH_take (i := 4) (v := ?_) (by simp only [List.getElem?_toArray, List.getElem?_cons_zero, List.getElem?_cons_succ]; rfl) (by kernel_rfl) (by kernel_rfl) (by kernel_rfl) (by intro _ _ _ h; exact h) (Or.inl ⟨by rfl, ?_⟩) (by assumption) ?_; rotate_left; (focus (intro w1 hSw; (try dsimp only at hSw); go_simp; (try with_reducible rfl))); (try simp only [Act.put, List.setIfInBounds_toArray, List.set_cons_zero, List.set_cons_succ, List.getElem_toArray, List.getElem_cons_zero, List.getElem_cons_succ])
      refine wpAnyH_take (i := 5) (v := ?_) (by simp only [List.getElem?_toArray, List.getElem?_cons_zero, List.getElem?_cons_succ]; rfl) (by kernel_rfl) (by kernel_rfl) (by kernel_rfl) (by intro _ _ _ h; exact h) (Or.inl ⟨by rfl, ?_⟩) (by assumption) ?_; rotate_left; (focus (intro w1 hSw; (try dsimp only at hSw); go_simp; (try with_reducible rfl))); (try simp only [Act.put, List.setIfInBounds_toArray, List.set_cons_zero, List.set_cons_succ, List.getElem_toArray, List.getElem_cons_zero, List.getElem_cons_succ])
      refine wpAnyH_take (i := 6) (v := ?_) (by simp only [List.getElem?_toArray, List.getElem?_cons_zero, List.getElem?_cons_succ]; rfl) (by kernel_rfl) (by kernel_rfl) (by kernel_rfl) (by intro _ _ _ h; exact h) (Or.inl ⟨by rfl, ?_⟩) (by assumption) ?_; rotate_left; (focus (intro w1 hSw; (try dsimp only at hSw); go_simp; (try with_reducible rfl))); (try simp only [Act.put, List.setIfInBounds_toArray, List.set_cons_zero, List.set_cons_succ, List.getElem_toArray, List.getElem_cons_zero, List.getElem_cons_succ])
      refine wpAnyH_take (i := 7) (v := ?_) (by simp only [List.getElem?_toArray, List.getElem?_cons_zero, List.getElem?_cons_succ]; rfl) (by kernel_rfl) (by kernel_rfl) (by kernel_rfl) (by intro _ _ _ h; exact h) (Or.inl ⟨by rfl, ?_⟩) (by assumption) ?_; rotate_left; (focus (intro w1 hSw; (try dsimp only at hSw); go_simp; (try with_reducible rfl))); (try simp only [Act.put, List.setIfInBounds_toArray, List.set_cons_zero, List.set_cons_succ, List.getElem_toArray, List.getElem_cons_zero, List.getElem_cons_succ])
      refine wpAnyH_ready (rs := [8]) (by kernel_rfl) (by simp) ?_; refine AllReadyH.cons (by simp only [List.getElem?_toArray, List.getElem?_cons_zero, List.getElem?_cons_succ]; rfl) (fun K hK => ?_) AllReadyH.nil
      rw [if_pos (by rfl)]; go_wp2_with fail
      refine (CC.out _).mono ?_
      rintro e wn ⟨rfl, hg⟩
      have bW := bW.st hg.below
      have hSS : (fun w' : World => w'.cell? ⟨b, off + k * 11, none⟩ = some (.string a1) ∧ w'.cell? ⟨b, off + k * 11 + 1, none⟩ = some (.int .i64 a2) ∧ w'.cell? ⟨b, off + k * 11 + 2, none⟩ = some (.int .i64 a3) ∧ w'.cell? ⟨b, off + k * 11 + 3, none⟩ = some (.string a4) ∧ w'.cell? ⟨b, off + k * 11 + 4, none⟩ = some (.string a5) ∧ w'.cell? ⟨b, off + k * 11 + 5, none⟩ = some (.int .i64 a6) ∧ w'.cell? ⟨b, off + k * 11 + 6, none⟩ = some (.int .i64 a7) ∧ w'.cell? ⟨b, off + k * 11 + 7, none⟩ = some (.int .i64 at_) ∧ w'.cell? ⟨b, off + k * 11 + 8, none⟩ = some (.string ap) ∧ w'.cell? ⟨b, off + k * 11 + 9, none⟩ = some (.int .i64 al) ∧ w'.cell? ⟨b, off + k * 11 + 10, none⟩ = some (.int .i64 ak) ∧ w'.cell? ⟨b', off' + k * 11, none⟩ = some (.string a1) ∧ w'.cell? ⟨b', off' + k * 11 + 1, none⟩ = some (.int .i64 a2) ∧ w'.cell? ⟨b', off' + k * 11 + 2, none⟩ = some (.int .i64 a3) ∧ w'.cell? ⟨b', off' + k * 11 + 3, none⟩ = some (.string a4) ∧ w'.cell? ⟨b', off' + k * 11 + 4, none⟩ = some (.string a5) ∧ w'.cell? ⟨b', off' + k * 11 + 5, none⟩ = some (.int .i64 a6) ∧ w'.cell? ⟨b', off' + k * 11 + 6, none⟩ = some (.int .i64 a7) ∧ w'.cell? ⟨b', off' + k * 11 + 7, none⟩ = some (.int .i64 at_) ∧ w'.cell? ⟨b', off' + k * 11 + 8, none⟩ = some (.string ap) ∧ w'.cell? ⟨b', off' + k * 11 + 9, none⟩ = some (.int .i64 al) ∧ w'.cell? ⟨b', off' + k * 11 + 10, none⟩ = some (.int .i64 ak)) wn := by
        obtain ⟨q1, q2, d0, d1, d2, d3, d4, d5, d6, d7, d8, d9, d10, e0, e1, e2, e3, e4, e5, e6, e7, e8, e9, e10⟩ := HC.out
        exact ⟨(bW.cell q1).trans d0, (bW.cell q1).trans d1, (bW.cell q1).trans d2, (bW.cell q1).trans d3, (bW.cell q1).trans d4, (bW.cell q1).trans d5, (bW.cell q1).trans d6, (bW.cell q1).trans d7, (bW.cell q1).trans d8, (bW.cell q1).trans d9, (bW.cell q1).trans d10, (bW.cell q2).trans e0, (bW.cell q2).trans e1, (bW.cell q2).trans e2, (bW.cell q2).trans e3, (bW.cell q2).trans e4, (bW.cell q2).trans e5, (bW.cell q2).trans e6, (bW.cell q2).trans e7, (bW.cell q2).trans e8, (bW.cell q2).trans e9, (bW.cell q2).trans e10⟩
      go_wp2_with fail
      refine hK.out _ _ ?_ (fun hHeld => ?_)
      focus exact hSS
      clear hK K
      (try simp only [Act.put, List.setIfInBounds_toArray, List.set_cons_zero, List.set_cons_succ, List.getElem_toArray, List.getElem_cons_zero, List.getElem_cons_succ])
      refine wpAnyH_take (i := 9) (v := ?_) (by simp only [List.getElem?_toArray, List.getElem?_cons_zero, List.getElem?_cons_succ]; rfl) (by kernel_rfl) (by kernel_rfl) (by kernel_rfl) (by intro _ _ _ h; exact h) (Or.inl ⟨by rfl, ?_⟩) (by assumption) ?_; rotate_left; (focus (intro w1 hSw; (try dsimp only at hSw); go_simp; (try with_reducible rfl))); (try simp only [Act.put, List.setIfInBounds_toArray, List.set_cons_zero, List.set_cons_succ, List.getElem_toArray, List.getElem_cons_zero, List.getElem_cons_succ])
      refine wpAnyH_done (by kernel_rfl) ?_ _
      go_wp2_with fail
      go_roundw
      case rel => exact ⟨k + 1, HL.out, by go_num, bW⟩
      case measure => have := HL.out; simp [intOf]; omega
    · obtain rfl : k = l.length := by omega
      go_wp2
      go_ret
      exact ⟨rfl, bW⟩
set_option maxRecDepth 100000 in
set_option maxHeartbeats 8000000 in
theorem sameRjs_true {A A2 : Option Addr} (c c2 : Nat) {l : List Rj} {w : World} (h1 : Rd encRj 8 w w.heap.size A l) (h2 : Rd encRj 8 w w.heap.size A2 l) (hl : l.length ≤ 1000000) (hz : ∀ x ∈ l, SzD x.d) :
    Calls Try.prog 26 #[.slice A l.length c, .slice A2 l.length c2] w fun e w' => e = .returned (.bool true) ∧ Below w.heap.size w w' := by
  have H1 := Lib.hid h1
  have H2 := Lib.hid h2
  have HZ := Lib.hid hz
  clear h1 h2 hz
  go_enter Try.func26, Try.ntmps26
  go_wp2_with fail
  go_loopw [5] (fun i wr => ∃ k : Nat, k ≤ l.length ∧ i = .int .i64 k ∧ Below w.heap.size w wr) (fun i _ => l.length - (intOf i).toNat)
  case atStart => exact ⟨0, Nat.zero_le _, rfl, Below.refl _ _⟩
  case round =>
    obtain ⟨k, hk, rfl, bW⟩ := hrel
    by_cases hi : k < l.length
    · obtain ⟨b, off, x, hA, hb, hx, d0, d1, d2, d3, d4, d5, d6, d7⟩ := H1.out.rj hi
      obtain ⟨b', off', x', hA', hb', hx', e0, e1, e2, e3, e4, e5, e6, e7⟩ := H2.out.rj hi
      obtain rfl : x = x' := Option.some.inj (hx.symm.trans hx')
      have CC := Lib.hid (fun (X : World) => rorder_self x (HZ.out x (List.mem_of_getElem? hx)) X)
      have HC := Lib.hid (And.intro hb (And.intro hb' (show (fun w' : World => w'.cell? ⟨b, off + k * 8, none⟩ = some (.string x.d.dev) ∧ w'.cell? ⟨b, off + k * 8 + 1, none⟩ = some (.int .i64 x.d.seq) ∧ w'.cell? ⟨b, off + k * 8 + 2, none⟩ = some (.int .i64 x.d.time) ∧ w'.cell? ⟨b, off + k * 8 + 3, none⟩ = some (.string x.d.tag) ∧ w'.cell? ⟨b, off + k * 8 + 4, none⟩ = some (.string x.d.pl) ∧ w'.cell? ⟨b, off + k * 8 + 5, none⟩ = some (.int .i64 x.d.ax) ∧ w'.cell? ⟨b, off + k * 8 + 6, none⟩ = some (.int .i64 x.d.sc) ∧ w'.cell? ⟨b, off + k * 8 + 7, none⟩ = some (.int .i64 x.why) ∧ w'.cell? ⟨b', off' + k * 8, none⟩ = some (.string x.d.dev) ∧ w'.cell? ⟨b', off' + k * 8 + 1, none⟩ = some (.int .i64 x.d.seq) ∧ w'.cell? ⟨b', off' + k * 8 + 2, none⟩ = some (.int .i64 x.d.time) ∧ w'.cell? ⟨b', off' + k * 8 + 3, none⟩ = some (.string x.d.tag) ∧ w'.cell? ⟨b', off' + k * 8 + 4, none⟩ = some (.string x.d.pl) ∧ w'.cell? ⟨b', off' + k * 8 + 5, none⟩ = some (.int .i64 x.d.ax) ∧ w'.cell? ⟨b', off' + k * 8 + 6, none⟩ = some (.int .i64 x.d.sc) ∧ w'.cell? ⟨b', off' + k * 8 + 7, none⟩ = some (.int .i64 x.why)) w from ⟨d0, d1, d2, d3, d4, d5, d6, d7, e0, e1, e2, e3, e4, e5, e6, e7⟩)))
      have hi1 : (0 : Int) ≤ (k : Int) := by omega
      have hi2 : (k : Int) < (l.length : Int) := by omega
      have HL := Lib.hid hi
      obtain ⟨⟨a1, a2, a3, a4, a5, a6, a7⟩, aw⟩ := x
      simp only [RjV] at CC HC
      clear hx hx' hk hi hb hb' d0 d1 d2 d3 d4 d5 d6 d7 e0 e1 e2 e3 e4 e5 e6 e7
      subst hA
      subst hA'
      have hSS : (fun w' : World => w'.cell? ⟨b, off + k * 8, none⟩ = some (.string a1) ∧ w'.cell? ⟨b, off + k * 8 + 1, none⟩ = some (.int .i64 a2) ∧ w'.cell? ⟨b, off + k * 8 + 2, none⟩ = some (.int .i64 a3) ∧ w'.cell? ⟨b, off + k * 8 + 3, none⟩ = some (.string a4) ∧ w'.cell? ⟨b, off + k * 8 + 4, none⟩ = some (.string a5) ∧ w'.cell? ⟨b, off + k * 8 + 5, none⟩ = some (.int .i64 a6) ∧ w'.cell? ⟨b, off + k * 8 + 6, none⟩ = some (.int .i64 a7) ∧ w'.cell? ⟨b, off + k * 8 + 7, none⟩ = some (.int .i64 aw) ∧ w'.cell? ⟨b', off' + k * 8, none⟩ = some (.string a1) ∧ w'.cell? ⟨b', off' + k * 8 + 1, none⟩ = some (.int .i64 a2) ∧ w'.cell? ⟨b', off' + k * 8 + 2, none⟩ = some (.int .i64 a3) ∧ w'.cell? ⟨b', off' + k * 8 + 3, none⟩ = some (.string a4) ∧ w'.cell? ⟨b', off' + k * 8 + 4, none⟩ = some (.string a5) ∧ w'.cell? ⟨b', off' + k * 8 + 5, none⟩ = some (.int .i64 a6) ∧ w'.cell? ⟨b', off' + k * 8 + 6, none⟩ = some (.int .i64 a7) ∧ w'.cell? ⟨b', off' + k * 8 + 7, none⟩ = some (.int .i64 aw)) wr := by
        obtain ⟨q1, q2, d0, d1, d2, d3, d4, d5, d6, d7, e0, e1, e2, e3, e4, e5, e6, e7⟩ := HC.out
        exact ⟨(bW.cell q1).trans d0, (bW.cell q1).trans d1, (bW.cell q1).trans d2, (bW.cell q1).trans d3, (bW.cell q1).trans d4, (bW.cell q1).trans d5, (bW.cell q1).trans d6, (bW.cell q1).trans d7, (bW.cell q2).trans e0, (bW.cell q2).trans e1, (bW.cell q2).trans e2, (bW.cell q2).trans e3, (bW.cell q2).trans e4, (bW.cell q2).trans e5, (bW.cell q2).trans e6, (bW.cell q2).trans e7⟩
      go_upto_region 6 with fail
      refine wp_region_held_drew (S := (fun w' : World => w'.cell? ⟨b, off + k * 8, none⟩ = some (.string a1) ∧ w'.cell? ⟨b, off + k * 8 + 1, none⟩ = some (.int .i64 a2) ∧ w'.cell? ⟨b, off + k * 8 + 2, none⟩ = some (.int .i64 a3) ∧ w'.cell? ⟨b, off + k * 8 + 3, none⟩ = some (.string a4) ∧ w'.cell? ⟨b, off + k * 8 + 4, none⟩ = some (.string a5) ∧ w'.cell? ⟨b, off + k * 8 + 5, none⟩ = some (.int .i64 a6) ∧ w'.cell? ⟨b, off + k * 8 + 6, none⟩ = some (.int .i64 a7) ∧ w'.cell? ⟨b, off + k * 8 + 7, none⟩ = some (.int .i64 aw) ∧ w'.cell? ⟨b', off' + k * 8, none⟩ = some (.string a1) ∧ w'.cell? ⟨b', off' + k * 8 + 1, none⟩ = some (.int .i64 a2) ∧ w'.cell? ⟨b', off' + k * 8 + 2, none⟩ = some (.int .i64 a3) ∧ w'.cell? ⟨b', off' + k * 8 + 3, none⟩ = some (.string a4) ∧ w'.cell? ⟨b', off' + k * 8 + 4, none⟩ = some (.string a5) ∧ w'.cell? ⟨b', off' + k * 8 + 5, none⟩ = some (.int .i64 a6) ∧ w'.cell? ⟨b', off' + k * 8 + 6, none⟩ = some (.int .i64 a7) ∧ w'.cell? ⟨b', off' + k * 8 + 7, none⟩ = some (.int .i64 aw))) (by kernel_rfl) ?_ (fun hHeld => ?_)
      focus exact hSS
      have bW := bW.drew
      change wpAnyH _ _ _ _ _ 10 _ _ _
      refine wpAnyH_take (i := 0) (v := ?_) (by simp only [List.getElem?_toArray, List.getElem?_cons_zero, List.getElem?_cons_succ]; rfl) (by kernel_rfl) (by kernel_rfl) (by kernel_rfl) (by intro _ _ _ h; exact h) (Or.inl ⟨by rfl, ?_⟩) (by assumption) ?_; rotate_left; (focus (intro w1 hSw; (try dsimp only at hSw); go_simp; (try with_reducible rfl))); (try simp only [Act.put, List.setIfInBounds_toArray, List.set_cons_zero, List.set_cons_succ, List.getElem_toArray, List.getElem_cons_zero, List.getElem_cons_succ])
      refine wpAnyH_take (i := 1) (v := ?_) (by simp only [List.getElem?_toArray, List.getElem?_cons_zero, List.getElem?_cons_succ]; rfl) (by kernel_rfl) (by kernel_rfl) (by kernel_rfl) (by intro _ _ _ h; exact h) (Or.inl ⟨by rfl, ?_⟩) (by assumption) ?_; rotate_left; (focus (intro w1 hSw; (try dsimp only at hSw); go_simp; (try with_reducible rfl))); (try simp only [Act.put, List.setIfInBounds_toArray, List.set_cons_zero, List.set_cons_succ, List.getElem_toArray, List.getElem_cons_zero, List.getElem_cons_succ])
      refine wpAnyH_take (i := 2) (v := ?_) (by simp only [List.getElem?_toArray, List.getElem?_cons_zero, List.getElem?_cons_succ]; rfl) (by kernel_rfl) (by kernel_rfl) (by kernel_rfl) (by intro _ _ _ h; exact h) (Or.inl ⟨by rfl, ?_⟩) (by assumption) ?_; rotate_left; (focus (intro w1 hSw; (try dsimp only at hSw); go_simp; (try with_reducible rfl))); (try simp only [Act.put, List.setIfInBounds_toArray, List.set_cons_zero, List.set_cons_succ, List.getElem_toArray, List.getElem_cons_zero, List.getElem_cons_succ])
      refine wpAnyH_take (i := 3) (v := ?_) (by simp only [List.getElem?_toArray, List.getElem?_cons_zero, List.getElem?_cons_succ]; rfl) (by kernel_rfl) (by kernel_rfl) (by kernel_rfl) (by intro _ _ _ h; exact h) (Or.inl ⟨by rfl, ?_⟩) (by assumption) ?_; rotate_left; (focus (intro w1 hSw; (try dsimp only at hSw); go_simp; (try with_reducible rfl))); (try simp only [Act.put, List.setIfInBounds_toArray, List.set_cons_zero, List.set_cons_succ, List.getElem_toArray, List.getElem_cons_zero, List.getElem_cons_succ])
      refine wpAnyH_take (i := 4) (v := ?_) (by simp only [List.getElem?_toArray, List.getElem?_cons_zero, List.getElem?_cons_succ]; rfl) (by kernel_rfl) (by kernel_rfl) (by kernel_rfl) (by intro _ _ _ h; exact h) (Or.inl ⟨by rfl, ?_⟩) (by assumption) ?_; rotate_left; (focus (intro w1 hSw; (try dsimp only at hSw); go_simp; (try with_reducible rfl))); (try simp only [Act.put, List.setIfInBounds_toArray, List.set_cons_zero, List.set_cons_succ, List.getElem_toArray, List.getElem_cons_zero, List.getElem_cons_succ])
      refine wpAnyH_take (i := 5) (v := ?_) (by simp only [List.getElem?_toArray, List.getElem?_cons_zero, List.getElem?_cons_succ]; rfl) (by kernel_rfl) (by kernel_rfl) (by kernel_rfl) (by intro _ _ _ h; exact h) (Or.inl ⟨by rfl, ?_⟩) (by assumption) ?_; rotate_left; (focus (intro w1 hSw; (try dsimp only at hSw); go_simp; (try with_reducible rfl))); (try simp only [Act.put, List.setIfInBounds_toArray, List.set_cons_zero, List.set_cons_succ, List.getElem_toArray, List.getElem_cons_zero, List.getElem_cons_succ])
      refine wpAnyH_take (i := 6) (v := ?_) (by simp only [List.getElem?_toArray, List.getElem?_cons_zero, List.getElem?_cons_succ]; rfl) (by kernel_rfl) (by kernel_rfl) (by kernel_rfl) (by intro _ _ _ h; exact h) (Or.inl ⟨by rfl, ?_⟩) (by assumption) ?_; rotate_left; (focus (intro w1 hSw; (try dsimp only at hSw); go_simp; (try with_reducible rfl))); (try simp only [Act.put, List.setIfInBounds_toArray, List.set_cons_zero, List.set_cons_succ, List.getElem_toArray, List.getElem_cons_zero, List.getElem_cons_succ])
      refine wpAnyH_take (i := 7) (v := ?_) (by simp only [List.getElem?_toArray, List.getElem?_cons_zero, List.getElem?_cons_succ]; rfl) (by kernel_rfl) (by kernel_rfl) (by kernel_rfl) (by intro _ _ _ h; exact h) (Or.inl ⟨by rfl, ?_⟩) (by assumption) ?_; rotate_left; (focus (intro w1 hSw; (try dsimp only at hSw); go_simp; (try with_reducible rfl))); (try simp only [Act.put, List.setIfInBounds_toArray, List.set_cons_zero, List.set_cons_succ, List.getElem_toArray, List.getElem_cons_zero, List.getElem_cons_succ])
      refine wpAnyH_ready (rs := [8]) (by kernel_rfl) (by simp) ?_; refine AllReadyH.cons (by simp only [List.getElem?_toArray, List.getElem?_cons_zero, List.getElem?_cons_succ]; rfl) (fun K hK => ?_) AllReadyH.nil
      rw [if_pos (by rfl)]; go_wp2_with fail
      refine (CC.out _).mono ?_
      rintro e wn ⟨rfl, hg⟩
      have bW := bW.st hg.below
      have hSS : (fun w' : World => w'.cell? ⟨b, off + k * 8, none⟩ = some (.string a1) ∧ w'.cell? ⟨b, off + k * 8 + 1, none⟩ = some (.int .i64 a2) ∧ w'.cell? ⟨b, off + k * 8 + 2, none⟩ = some (.int .i64 a3) ∧ w'.cell? ⟨b, off + k * 8 + 3, none⟩ = some (.string a4) ∧ w'.cell? ⟨b, off + k * 8 + 4, none⟩ = some (.string a5) ∧ w'.cell? ⟨b, off + k * 8 + 5, none⟩ = some (.int .i64 a6) ∧ w'.cell? ⟨b, off + k * 8 + 6, none⟩ = some (.int .i64 a7) ∧ w'.cell? ⟨b, off + k * 8 + 7, none⟩ = some (.int .i64 aw) ∧ w'.cell? ⟨b', off' + k * 8, none⟩ = some (.string a1) ∧ w'.cell? ⟨b', off' + k * 8 + 1, none⟩ = some (.int .i64 a2) ∧ w'.cell? ⟨b', off' + k * 8 + 2, none⟩ = some (.int .i64 a3) ∧ w'.cell? ⟨b', off' + k * 8 + 3, none⟩ = some (.string a4) ∧ w'.cell? ⟨b', off' + k * 8 + 4, none⟩ = some (.string a5) ∧ w'.cell? ⟨b', off' + k * 8 + 5, none⟩ = some (.int .i64 a6) ∧ w'.cell? ⟨b', off' + k * 8 + 6, none⟩ = some (.int .i64 a7) ∧ w'.cell? ⟨b', off' + k * 8 + 7, none⟩ = some (.int .i64 aw)) wn := by
        obtain ⟨q1, q2, d0, d1, d2, d3, d4, d5, d6, d7, e0, e1, e2, e3, e4, e5, e6, e7⟩ := HC.out
        exact ⟨(bW.cell q1).trans d0, (bW.cell q1).trans d1, (bW.cell q1).trans d2, (bW.cell q1).trans d3, (bW.cell q1).trans d4, (bW.cell q1).trans d5, (bW.cell q1).trans d6, (bW.cell q1).trans d7, (bW.cell q2).trans e0, (bW.cell q2).trans e1, (bW.cell q2).trans e2, (bW.cell q2).trans e3, (bW.cell q2).trans e4, (bW.cell q2).trans e5, (bW.cell q2).trans e6, (bW.cell q2).trans e7⟩
      go_wp2_with fail
      refine hK.out _ _ ?_ (fun hHeld => ?_)
      focus exact hSS
      clear hK K
      (try simp only [Act.put, List.setIfInBounds_toArray, List.set_cons_zero, List.set_cons_succ, List.getElem_toArray, List.getElem_cons_zero, List.getElem_cons_succ])
      refine wpAnyH_take (i := 9) (v := ?_) (by simp only [List.getElem?_toArray, List.getElem?_cons_zero, List.getElem?_cons_succ]; rfl) (by kernel_rfl) (by kernel_rfl) (by kernel_rfl) (by intro _ _ _ h; exact h) (Or.inl ⟨by rfl, ?_⟩) (by assumption) ?_; rotate_left; (focus (intro w1 hSw; (try dsimp only at hSw); go_simp; (try with_reducible rfl))); (try simp only [Act.put, List.setIfInBounds_toArray, List.set_cons_zero, List.set_cons_succ, List.getElem_toArray, List.getElem_cons_zero, List.getElem_cons_succ])
      refine wpAnyH_done (by kernel_rfl) ?_ _
      go_wp2_with fail
      go_roundw
      case rel => exact ⟨k + 1, HL.out, by go_num, bW⟩
      case measure => have := HL.out; simp [intOf]; omega
    · obtain rfl : k = l.length := by omega
      go_wp2
      go_ret
      exact ⟨rfl, bW⟩
end Go.Proofs.Ytgkppjkmakomnaa
