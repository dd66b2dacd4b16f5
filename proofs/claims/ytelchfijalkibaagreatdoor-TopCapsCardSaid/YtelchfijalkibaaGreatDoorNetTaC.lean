/- The reference's checks of tariffs, walked. -/
import Derived.Test.YtelchfijalkibaaGreatDoorNetRate
set_option linter.unusedSimpArgs false
set_option linter.unusedSimpArgs false
namespace Go.Proofs.YtelchfijalkibaaGreatDoor
open Go.RowKit Go.Lib

structure Ta where
  f : Int
  t : Int
  bA : Option Addr
  bc : Nat
  bs : List Bd
  rA : Option Addr
  rc : Nat
  rs : List Rt
def encTa (x : Ta) : List Value := [.int .i64 x.f, .int .i64 x.t, .slice x.bA x.bs.length x.bc, .slice x.rA x.rs.length x.rc]
theorem encTa_ok : Enc encTa 4 := ⟨fun _ => rfl, fun x u hu => by simp [encTa] at hu; rcases hu with rfl | rfl | rfl | rfl <;> rfl⟩
theorem Rd.ta {w : World} {B : Nat} {A : Option Addr} {l : List Ta} (h : Rd encTa 4 w B A l) {i : Nat} (hi : i < l.length) :
    ∃ b off x, A = some ⟨b, off, none⟩ ∧ b < B ∧ l[i]? = some x ∧ w.cell? ⟨b, off + i * 4, none⟩ = some (.int .i64 x.f) ∧ w.cell? ⟨b, off + i * 4 + 1, none⟩ = some (.int .i64 x.t) ∧ w.cell? ⟨b, off + i * 4 + 2, none⟩ = some (.slice x.bA x.bs.length x.bc) ∧ w.cell? ⟨b, off + i * 4 + 3, none⟩ = some (.slice x.rA x.rs.length x.rc) := by
  obtain ⟨b, off, x, hA, hb, hx, hc⟩ := h.at_ hi
  exact ⟨b, off, x, hA, hb, hx, hc 0 _ rfl, hc 1 _ rfl, hc 2 _ rfl, hc 3 _ rfl⟩
structure TaOk (w : World) (x : Ta) : Prop where
  b : Rd encBd 4 w w.heap.size x.bA x.bs
  r : Rd encRt 5 w w.heap.size x.rA x.rs
  bl : x.bs.length ≤ 9223372036854775807
  rl : x.rs.length ≤ 9223372036854775807
theorem TaOk.st {w w' : World} {x : Ta} (h : TaOk w x) (hb : Below w.heap.size w w') : TaOk w' x := ⟨h.b.st hb, h.r.st hb, h.bl, h.rl⟩

set_option maxRecDepth 100000 in
set_option maxHeartbeats 16000000 in
theorem tcheck_any {pA lA sA : Option Addr} (pc lc sc : Nat) {pts : List Pt} {lks : List Lk} {sys : List Sy} (x : Ta) {w : World} (h : TOk w pA lA sA pts lks sys) (hsc : sys.length ≤ sc) (hx : TaOk w x) :
    Calls Tryz.prog 41 #[.agg #[.int .i64 x.f, .int .i64 x.t, .slice x.bA x.bs.length x.bc, .slice x.rA x.rs.length x.rc], .agg #[.slice pA pts.length pc, .slice lA lks.length lc, .slice sA sys.length sc]] w fun e w' => ZI (∀ y ∈ x.rs, RtC y) e ∧ Below w.heap.size w w' := by
  obtain ⟨Y1, hY1⟩ : ∃ Y, w.alloc (.cells #[.int .i64 x.f, .int .i64 x.t, .slice x.bA x.bs.length x.bc, .slice x.rA x.rs.length x.rc] 77) = Y := ⟨_, rfl⟩
  obtain ⟨Y2, hY2⟩ : ∃ Y, Y1.alloc (.cells #[.slice pA pts.length pc, .slice lA lks.length lc, .slice sA sys.length sc] 28) = Y := ⟨_, rfl⟩
  have bW : Below w.heap.size w Y2 := by rw [← hY2, ← hY1]; exact ((Below.refl _ w).al _).al _
  have B1 : Blk Y2 w.heap.size #[.int .i64 x.f, .int .i64 x.t, .slice x.bA x.bs.length x.bc, .slice x.rA x.rs.length x.rc] 77 := by rw [← hY2, ← hY1]; exact (Blk.new w _ _).alloc _
  have B2 : Blk Y2 Y1.heap.size #[.slice pA pts.length pc, .slice lA lks.length lc, .slice sA sys.length sc] 28 := by rw [← hY2]; exact Blk.new Y1 _ _
  have CV := Lib.hid (fun (X : World) => rvalid5_any x.f x.t X)
  have CN := Lib.hid (fun (s : ByteArray) (X : World) => r1name_any s X)
  have CW := Lib.hid (fun (d f t : Int) (X : World) => vwin_any d f t X)
  have CR := Lib.hid (fun (i : Nat) (hi : i < x.rs.length) (X : World) (hX : Below w.heap.size w X) => rate_any pc lc sc x.bc x.rc x.f x.t i (h.st hX) hsc (hx.st hX).b hx.bl (hx.st hX).r hx.rl hi)
  have HX := Lib.hid hx
  have hbl := hx.bl
  have hrl := hx.rl
  have y0 := B1.cell 0 (v := .int .i64 x.f) rfl; have y1 := B1.cell 1 (v := .int .i64 x.t) rfl; have y2 := B1.cell 2 (v := .slice x.bA x.bs.length x.bc) rfl; have y3 := B1.cell 3 (v := .slice x.rA x.rs.length x.rc) rfl
  clear h hx
  go_enter Tryz.func41, Tryz.ntmps41
  go_wp2_with fail
  refine (CV.out _).mono ?_
  rintro e W3 ⟨⟨b, rfl⟩, hbn⟩
  have bW := bW.st hbn
  have B1 := B1.below hbn B1.lt
  have B2 := B2.below hbn B2.lt
  clear hbn CV y0 y1 y2 y3 hY1 hY2
  cases b
  · go_wp2_with fail
    go_ret
    exact ⟨ZI.no (by simp), bW⟩
  have y0 := B1.cell 0 (v := .int .i64 x.f) rfl; have y1 := B1.cell 1 (v := .int .i64 x.t) rfl; have y2 := B1.cell 2 (v := .slice x.bA x.bs.length x.bc) rfl; have y3 := B1.cell 3 (v := .slice x.rA x.rs.length x.rc) rfl
  by_cases q1 : 1024 < x.bs.length
  · have q2 : (1024 : Int) < (x.bs.length : Int) := by omega
    go_wp2_with fail
    go_ret
    exact ⟨ZI.no (by simp), bW⟩
  have q2 : ¬ (1024 : Int) < (x.bs.length : Int) := by omega
  by_cases q3 : 1024 < x.rs.length
  · have q4 : (1024 : Int) < (x.rs.length : Int) := by omega
    go_wp2_with fail
    go_ret
    exact ⟨ZI.no (by simp), bW⟩
  have q4 : ¬ (1024 : Int) < (x.rs.length : Int) := by omega
  have HB1 := Lib.hid B1
  have HB2 := Lib.hid B2
  have HBW := Lib.hid bW
  go_wp2_with fail
  clear y0 y1 y2 y3 B1 B2 bW
  go_loopw [5] (fun j wr => ∃ k : Nat, k ≤ x.bs.length ∧ j = .int .i64 k ∧ Below W3.heap.size W3 wr) (fun j _ => x.bs.length - (RowKit.intOf j).toNat)
  case atStart => exact ⟨0, Nat.zero_le _, rfl, Below.refl _ _⟩
  case round =>
    obtain ⟨k, hk, rfl, bY⟩ := hrel
    have k1 : (0 : Int) ≤ (k : Int) := by omega
    have B1 := HB1.out.below bY HB1.out.lt
    have bW := HBW.out.st bY
    have y0 := B1.cell 0 (v := .int .i64 x.f) rfl; have y1 := B1.cell 1 (v := .int .i64 x.t) rfl; have y2 := B1.cell 2 (v := .slice x.bA x.bs.length x.bc) rfl; have y3 := B1.cell 3 (v := .slice x.rA x.rs.length x.rc) rfl
    by_cases hi : k < x.bs.length
    · have k2 : (k : Int) < (x.bs.length : Int) := by omega
      obtain ⟨b, off, y, hA, hb, hy, d0, d1, d2, d3⟩ := (HX.out.st bW).b.bd hi
      rw [hA] at y2
      have HI := Lib.hid hi
      have CW1 := Lib.hid (CW.out y.d y.f y.t)
      have CN1 := Lib.hid (CN.out y.name)
      clear hy hi hb hA B1
      cases hn : nameB y.name
      all_goals
        rw [hn] at CN1
        clear hn
        go_wp2_with fail
        refine (CN1.out _).mono ?_
        rintro e w' ⟨rfl, hw'⟩
        rw [hw']
        clear hw' w'
      · go_wp2_with fail
        go_ret
        exact ⟨ZI.no (by simp), bW⟩
      · go_wp2_with fail
        refine (CW1.out _).mono ?_
        rintro e W4 ⟨⟨b, rfl⟩, hbn⟩
        have bW4 := bW.st hbn
        have bY4 := bY.st hbn
        clear hbn
        cases b
        · go_wp2_with fail
          go_ret
          exact ⟨ZI.no (by simp), bW4⟩
        · go_wp2_with fail
          go_roundw
          case rel => exact ⟨k + 1, HI.out, by go_num, bY4⟩
          case measure => have := HI.out; simp [RowKit.intOf]; omega
    · obtain rfl : k = x.bs.length := by omega
      have HB1 := Lib.hid B1
      have HB2 := Lib.hid (HB2.out.below bY HB2.out.lt)
      have HBW := Lib.hid bW
      go_wp2_with fail
      clear y0 y1 y2 y3 B1 bW bY
      obtain ⟨W5, hW5⟩ : ∃ V, V = wr := ⟨_, rfl⟩
      subst hW5
      go_loopw [6] (fun j wr => ∃ k : Nat, k ≤ x.rs.length ∧ j = .int .i64 k ∧ Hid (∀ y ∈ x.rs.take k, RtC y) ∧ Below W5.heap.size W5 wr) (fun j _ => x.rs.length - (RowKit.intOf j).toNat)
      case atStart => exact ⟨0, Nat.zero_le _, rfl, (by unfold Hid; simp), Below.refl _ _⟩
      case round =>
        obtain ⟨k, hk, rfl, HT, bY⟩ := hrel
        have B1 := HB1.out.below bY HB1.out.lt
        have B2 := HB2.out.below bY HB2.out.lt
        have bW := HBW.out.st bY
        have y0 := B1.cell 0 (v := .int .i64 x.f) rfl; have y1 := B1.cell 1 (v := .int .i64 x.t) rfl; have y2 := B1.cell 2 (v := .slice x.bA x.bs.length x.bc) rfl; have y3 := B1.cell 3 (v := .slice x.rA x.rs.length x.rc) rfl
        have z0 := B2.cell 0 (v := .slice pA pts.length pc) rfl; have z1 := B2.cell 1 (v := .slice lA lks.length lc) rfl; have z2 := B2.cell 2 (v := .slice sA sys.length sc) rfl
        by_cases hi : k < x.rs.length
        · have k2 : (k : Int) < (x.rs.length : Int) := by omega
          have CRk := Lib.hid (CR.out k hi wr bW)
          have HI := Lib.hid hi
          clear hi B1 B2
          go_wp2_with fail
          refine CRk.out.mono ?_
          rintro e W6 ⟨⟨n, rfl, hz⟩, hbn⟩
          have HZ := Lib.hid hz
          clear hz
          have bW6 := bW.st hbn
          have bY6 := bY.st hbn
          clear hbn CRk
          by_cases hn : n = 0
          · subst hn
            have R : Hid (∀ y ∈ x.rs.take (k + 1), RtC y) := Lib.hid (by
              intro y hy
              rw [take_snoc (List.getElem?_eq_getElem HI.out)] at hy
              rcases List.mem_append.1 hy with q | q
              · exact HT.out y q
              · rw [List.mem_singleton] at q; subst q; exact HZ.out rfl _ (List.getElem?_eq_getElem HI.out))
            go_wp2_with fail
            go_roundw
            case rel => exact ⟨k + 1, HI.out, by go_num, R, bY6⟩
            case measure => have := HI.out; simp [RowKit.intOf]; omega
          · have hn2 : (n != 0) = true := by simp [hn]
            have HN := Lib.hid hn
            go_wp2_with fail
            go_ret
            exact ⟨ZI.no HN.out, bW6⟩
        · obtain rfl : k = x.rs.length := by omega
          rw [List.take_length] at HT
          go_wp2_with fail
          go_ret
          exact ⟨ZI.yes HT.out, bW⟩

set_option maxRecDepth 100000 in
set_option maxHeartbeats 16000000 in
theorem tall_any {pA lA sA : Option Addr} (pc lc sc : Nat) {pts : List Pt} {lks : List Lk} {sys : List Sy} {A : Option Addr} (c : Nat) {l : List Ta} {w : World} (h : TOk w pA lA sA pts lks sys) (hsc : sys.length ≤ sc) (hr : Rd encTa 4 w w.heap.size A l) (hx : ∀ x ∈ l, TaOk w x) :
    Calls Tryz.prog 12 #[.slice A l.length c, .agg #[.slice pA pts.length pc, .slice lA lks.length lc, .slice sA sys.length sc]] w fun e w' => ZI (∀ x ∈ l, ∀ y ∈ x.rs, RtC y) e ∧ Below w.heap.size w w' := by
  obtain ⟨Y, hY⟩ : ∃ Y, w.alloc (.cells #[.slice pA pts.length pc, .slice lA lks.length lc, .slice sA sys.length sc] 28) = Y := ⟨_, rfl⟩
  have bW : Below w.heap.size w Y := by rw [← hY]; exact (Below.refl _ w).al _
  have BP : Blk Y w.heap.size #[.slice pA pts.length pc, .slice lA lks.length lc, .slice sA sys.length sc] 28 := by rw [← hY]; exact Blk.new w _ _
  have HBW := Lib.hid bW
  have HBP := Lib.hid BP
  have HR := Lib.hid hr
  have CC := Lib.hid (fun (x : Ta) (q : x ∈ l) (X : World) (hX : Below w.heap.size w X) => tcheck_any pc lc sc x (h.st hX) hsc ((hx x q).st hX))
  clear h hr hx
  by_cases q1 : 1024 < l.length
  · have q2 : (1024 : Int) < (l.length : Int) := by omega
    go_enter Tryz.func12, Tryz.ntmps12
    go_wp2_with fail
    go_ret
    exact ⟨ZI.no (by simp), bW⟩
  have q2 : ¬ (1024 : Int) < (l.length : Int) := by omega
  go_enter Tryz.func12, Tryz.ntmps12
  go_wp2_with fail
  clear hY bW BP
  go_loopw [5] (fun j wr => ∃ k : Nat, k ≤ l.length ∧ j = .int .i64 k ∧ Hid (∀ x ∈ l.take k, ∀ y ∈ x.rs, RtC y) ∧ Below Y.heap.size Y wr) (fun j _ => l.length - (RowKit.intOf j).toNat)
  case atStart => exact ⟨0, Nat.zero_le _, rfl, (by unfold Hid; simp), Below.refl _ _⟩
  case round =>
    obtain ⟨k, hk, rfl, HT, bY⟩ := hrel
    have k1 : (0 : Int) ≤ (k : Int) := by omega
    have bW := HBW.out.st bY
    by_cases hi : k < l.length
    · have k2 : (k : Int) < (l.length : Int) := by omega
      obtain ⟨b, off, x, rfl, hb, hxk, d0, d1, d2, d3⟩ := (HR.out.st bW).ta hi
      have CX := Lib.hid (CC.out x (List.mem_of_getElem? hxk))
      have HI := Lib.hid hi
      have HXK := Lib.hid hxk
      have BP := HBP.out.below bY HBP.out.lt
      have HB := Lib.hid hb
      have hS0 : (fun w' : World => Blk w' w.heap.size #[.slice pA pts.length pc, .slice lA lks.length lc, .slice sA sys.length sc] 28 ∧ w'.cell? ⟨b, off + k * 4, none⟩ = some (.int .i64 x.f) ∧ w'.cell? ⟨b, off + k * 4 + 1, none⟩ = some (.int .i64 x.t) ∧ w'.cell? ⟨b, off + k * 4 + 2, none⟩ = some (.slice x.bA x.bs.length x.bc) ∧ w'.cell? ⟨b, off + k * 4 + 3, none⟩ = some (.slice x.rA x.rs.length x.rc)) wr := ⟨BP, d0, d1, d2, d3⟩
      have HS := Lib.hid hS0
      have HBYr := Lib.hid bY
      have HBWr := Lib.hid bW
      have HBPr := Lib.hid BP
      clear hxk hi hb d0 d1 d2 d3 bY bW BP hS0
      go_wp2_with fail
      refine wp_region_held_drew (S := (fun w' : World => Blk w' w.heap.size #[.slice pA pts.length pc, .slice lA lks.length lc, .slice sA sys.length sc] 28 ∧ w'.cell? ⟨b, off + k * 4, none⟩ = some (.int .i64 x.f) ∧ w'.cell? ⟨b, off + k * 4 + 1, none⟩ = some (.int .i64 x.t) ∧ w'.cell? ⟨b, off + k * 4 + 2, none⟩ = some (.slice x.bA x.bs.length x.bc) ∧ w'.cell? ⟨b, off + k * 4 + 3, none⟩ = some (.slice x.rA x.rs.length x.rc))) (by kernel_rfl) ?_ (fun hHeld => ?_)
      focus exact HS.out
      have hSS : (fun w' : World => Blk w' w.heap.size #[.slice pA pts.length pc, .slice lA lks.length lc, .slice sA sys.length sc] 28 ∧ w'.cell? ⟨b, off + k * 4, none⟩ = some (.int .i64 x.f) ∧ w'.cell? ⟨b, off + k * 4 + 1, none⟩ = some (.int .i64 x.t) ∧ w'.cell? ⟨b, off + k * 4 + 2, none⟩ = some (.slice x.bA x.bs.length x.bc) ∧ w'.cell? ⟨b, off + k * 4 + 3, none⟩ = some (.slice x.rA x.rs.length x.rc)) wr.drew := HS.out
      have HS : Hid ((fun w' : World => Blk w' w.heap.size #[.slice pA pts.length pc, .slice lA lks.length lc, .slice sA sys.length sc] 28 ∧ w'.cell? ⟨b, off + k * 4, none⟩ = some (.int .i64 x.f) ∧ w'.cell? ⟨b, off + k * 4 + 1, none⟩ = some (.int .i64 x.t) ∧ w'.cell? ⟨b, off + k * 4 + 2, none⟩ = some (.slice x.bA x.bs.length x.bc) ∧ w'.cell? ⟨b, off + k * 4 + 3, none⟩ = some (.slice x.rA x.rs.length x.rc)) wr.drew) := HS
      have HBYr : Hid (Below Y.heap.size Y wr.drew) := Lib.hid (below_drewN HBYr.out 1)
      have HBWr : Hid (Below w.heap.size w wr.drew) := Lib.hid (below_drewN HBWr.out 1)
      have HBPr := Lib.hid HBPr.out.drew
      have HB : Hid (b < wr.drew.heap.size) := HB
      generalize wr.drew = W0 at hSS hHeld HS HBYr HBWr HBPr HB ⊢
      change wpAnyH _ _ _ _ _ 7 _ _ _
      refine wpAnyH_take (i := 0) (v := ?_) (by simp only [List.getElem?_toArray, List.getElem?_cons_zero, List.getElem?_cons_succ]; rfl) (by kernel_rfl) (by kernel_rfl) (by kernel_rfl) (by intro _ _ _ h; exact h) (Or.inl ⟨by rfl, ?_⟩) (by assumption) ?_; rotate_left; (focus (intro w1 hSw; (try dsimp only at hSw); go_simp; (try with_reducible rfl))); (try simp only [Act.put, List.setIfInBounds_toArray, List.set_cons_zero, List.set_cons_succ, List.getElem_toArray, List.getElem_cons_zero, List.getElem_cons_succ])
      refine wpAnyH_take (i := 1) (v := ?_) (by simp only [List.getElem?_toArray, List.getElem?_cons_zero, List.getElem?_cons_succ]; rfl) (by kernel_rfl) (by kernel_rfl) (by kernel_rfl) (by intro _ _ _ h; exact h) (Or.inl ⟨by rfl, ?_⟩) (by assumption) ?_; rotate_left; (focus (intro w1 hSw; (try dsimp only at hSw); go_simp; (try with_reducible rfl))); (try simp only [Act.put, List.setIfInBounds_toArray, List.set_cons_zero, List.set_cons_succ, List.getElem_toArray, List.getElem_cons_zero, List.getElem_cons_succ])
      refine wpAnyH_take (i := 2) (v := ?_) (by simp only [List.getElem?_toArray, List.getElem?_cons_zero, List.getElem?_cons_succ]; rfl) (by kernel_rfl) (by kernel_rfl) (by kernel_rfl) (by intro _ _ _ h; exact h) (Or.inl ⟨by rfl, ?_⟩) (by assumption) ?_; rotate_left; (focus (intro w1 hSw; (try dsimp only at hSw); go_simp; (try with_reducible rfl))); (try simp only [Act.put, List.setIfInBounds_toArray, List.set_cons_zero, List.set_cons_succ, List.getElem_toArray, List.getElem_cons_zero, List.getElem_cons_succ])
      refine wpAnyH_take (i := 3) (v := ?_) (by simp only [List.getElem?_toArray, List.getElem?_cons_zero, List.getElem?_cons_succ]; rfl) (by kernel_rfl) (by kernel_rfl) (by kernel_rfl) (by intro _ _ _ h; exact h) (Or.inl ⟨by rfl, ?_⟩) (by assumption) ?_; rotate_left; (focus (intro w1 hSw; (try dsimp only at hSw); go_simp; (try with_reducible rfl))); (try simp only [Act.put, List.setIfInBounds_toArray, List.set_cons_zero, List.set_cons_succ, List.getElem_toArray, List.getElem_cons_zero, List.getElem_cons_succ])
      refine wpAnyH_take (i := 4) (v := .agg #[.slice pA pts.length pc, .slice lA lks.length lc, .slice sA sys.length sc]) (by simp only [List.getElem?_toArray, List.getElem?_cons_zero, List.getElem?_cons_succ]; rfl) (by kernel_rfl) (by kernel_rfl) (by kernel_rfl) (by intro _ _ _ h; exact h) (yieldsIf_boxLoad (by rfl) rfl rfl (fun _ hw => hw.1) ⟨_, Tryz.underlying28, by kernel_rfl⟩) (by assumption) ?_; (try simp only [Act.put, List.setIfInBounds_toArray, List.set_cons_zero, List.set_cons_succ, List.getElem_toArray, List.getElem_cons_zero, List.getElem_cons_succ])
      refine wpAnyH_ready (rs := [5]) (by kernel_rfl) (by simp) ?_; refine AllReadyH.cons (by simp only [List.getElem?_toArray, List.getElem?_cons_zero, List.getElem?_cons_succ]; rfl) (fun K hK => ?_) AllReadyH.nil
      rw [if_pos (by rfl)]; go_wp2_with fail
      refine (CX.out _ HBWr.out).mono ?_
      rintro e W3 ⟨⟨n, rfl, hz⟩, hbn⟩
      have HZ := Lib.hid hz
      clear hz
      have hSS : (fun w' : World => Blk w' w.heap.size #[.slice pA pts.length pc, .slice lA lks.length lc, .slice sA sys.length sc] 28 ∧ w'.cell? ⟨b, off + k * 4, none⟩ = some (.int .i64 x.f) ∧ w'.cell? ⟨b, off + k * 4 + 1, none⟩ = some (.int .i64 x.t) ∧ w'.cell? ⟨b, off + k * 4 + 2, none⟩ = some (.slice x.bA x.bs.length x.bc) ∧ w'.cell? ⟨b, off + k * 4 + 3, none⟩ = some (.slice x.rA x.rs.length x.rc)) W3 := ⟨HBPr.out.below hbn HBPr.out.lt, (World.cell?_of_block (hbn.block b HB.out)).trans HS.out.2.1, (World.cell?_of_block (hbn.block b HB.out)).trans HS.out.2.2.1, (World.cell?_of_block (hbn.block b HB.out)).trans HS.out.2.2.2.1, (World.cell?_of_block (hbn.block b HB.out)).trans HS.out.2.2.2.2⟩
      have bY3 := HBYr.out.st hbn
      have bW3 := HBWr.out.st hbn
      have d0 := hSS.2.1
      have d1 := hSS.2.2.1
      clear hbn
      go_wp2_with fail
      refine hK.out _ _ ?_ (fun hHeld => ?_)
      focus exact hSS
      clear hK K
      (try simp only [Act.put, List.setIfInBounds_toArray, List.set_cons_zero, List.set_cons_succ, List.getElem_toArray, List.getElem_cons_zero, List.getElem_cons_succ])
      refine wpAnyH_take (i := 6) (v := ?_) (by simp only [List.getElem?_toArray, List.getElem?_cons_zero, List.getElem?_cons_succ]; rfl) (by kernel_rfl) (by kernel_rfl) (by kernel_rfl) (by intro _ _ _ h; exact h) (Or.inl ⟨by rfl, ?_⟩) (by assumption) ?_; rotate_left; (focus (intro w1 hSw; (try dsimp only at hSw); go_simp; (try with_reducible rfl))); (try simp only [Act.put, List.setIfInBounds_toArray, List.set_cons_zero, List.set_cons_succ, List.getElem_toArray, List.getElem_cons_zero, List.getElem_cons_succ])
      refine wpAnyH_done (by kernel_rfl) ?_ _
      clear hSS hHeld HS
      by_cases hn : n = 0
      case' neg =>
        have hn2 : (n != 0) = true := by simp [hn]
        have HN := Lib.hid hn
        go_wp2_with fail
        go_ret
        exact ⟨ZI.no HN.out, bW3⟩
      subst hn
      have R : Hid (∀ x ∈ l.take (k + 1), ∀ y ∈ x.rs, RtC y) := Lib.hid (by
        intro z hz
        rw [take_snoc HXK.out] at hz
        rcases List.mem_append.1 hz with q | q
        · exact HT.out z q
        · rw [List.mem_singleton] at q; subst q; exact HZ.out rfl)
      clear HXK HZ
      go_wp2_with fail
      go_loopw [7] (fun j wr => ∃ m : Nat, m ≤ k ∧ j = .int .i64 m ∧ ∃ n, wr = W3.drewN n) (fun j _ => k - (RowKit.intOf j).toNat)
      case atStart => exact ⟨0, Nat.zero_le _, rfl, 0, rfl⟩
      case round =>
        obtain ⟨m, hm, rfl, n, rfl⟩ := hrel
        have m1 : (0 : Int) ≤ (m : Int) := by omega
        by_cases hmk : m < k
        · have m2 : (m : Int) < (k : Int) := by omega
          have m3 : (m : Int) < (l.length : Int) := by have := HI.out; omega
          obtain ⟨b', off', y, hA, hb', hy, f0, f1, f2, f3⟩ := (HR.out.st bW3).ta (i := m) (by have := HI.out; omega)
          injection hA with hA
          injection hA with u1 u2
          subst u1 u2
          have HM := Lib.hid hmk
          clear hb' hy f2 f3 hmk
          obtain ⟨yf, yt, _, _, _, _, _, _⟩ := y
          simp only at f0 f1
          obtain ⟨xf, xt, _, _, _, _, _, _⟩ := x
          simp only at *
          by_cases a1 : xf < yt
          · have a2 : decide (xf < yt) = true := decide_eq_true a1
            by_cases a3 : yf < xt
            · have a4 : decide (yf < xt) = true := decide_eq_true a3
              go_wp2_with fail
              go_quiet (fail)
              go_wp2_with fail
              go_ret
              exact ⟨ZI.no (by simp), below_drewN (below_drewN bW3 _) _⟩
            · have a4 : decide (yf < xt) = false := decide_eq_false a3
              go_wp2_with fail
              go_quiet (fail)
              go_wp2_with fail
              go_roundw
              case rel => exact ⟨m + 1, HM.out, by go_num, _, rfl⟩
              case measure => have := HM.out; simp [RowKit.intOf]; omega
          · have a2 : decide (xf < yt) = false := decide_eq_false a1
            go_wp2_with fail
            go_quiet (fail)
            go_wp2_with fail
            go_roundw
            case rel => exact ⟨m + 1, HM.out, by go_num, _, rfl⟩
            case measure => have := HM.out; simp [RowKit.intOf]; omega
        · obtain rfl : m = k := by omega
          have bYn := below_drewN bY3 n
          go_wp2_with fail
          go_roundw
          case rel => exact ⟨m + 1, HI.out, by go_num, R, bYn⟩
          case measure => have := HI.out; simp [RowKit.intOf]; omega
    · obtain rfl : k = l.length := by omega
      rw [List.take_length] at HT
      go_wp2_with fail
      go_ret
      exact ⟨ZI.yes HT.out, bW⟩
end Go.Proofs.YtelchfijalkibaaGreatDoor
