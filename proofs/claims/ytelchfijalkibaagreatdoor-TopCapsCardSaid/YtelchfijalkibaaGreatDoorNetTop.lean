/- The reference's point and Check of a topology, walked. -/
import Derived.Test.YtelchfijalkibaaGreatDoorJNetChk
import Derived.Deep.RegionWith
import Derived.Deep.RegionHeld3
set_option linter.unusedSimpArgs false
set_option linter.unusedSimpArgs false
namespace Go.Proofs.YtelchfijalkibaaGreatDoor
open Go.RowKit Go.Lib

/-- a topology can be read -/
structure TOk (w : World) (pA lA sA : Option Addr) (pts : List Pt) (lks : List Lk) (sys : List Sy) : Prop where
  p : Rd encPt 3 w w.heap.size pA pts
  l : Rd encLk 4 w w.heap.size lA lks
  s : Rd encSy 3 w w.heap.size sA sys
  pl : pts.length ≤ 9223372036854775807
  ll : lks.length ≤ 9223372036854775807
  sl : sys.length ≤ 9223372036854775807
theorem TOk.st {w w' : World} {pA lA sA : Option Addr} {pts : List Pt} {lks : List Lk} {sys : List Sy} (h : TOk w pA lA sA pts lks sys) (hb : Below w.heap.size w w') : TOk w' pA lA sA pts lks sys := ⟨h.p.st hb, h.l.st hb, h.s.st hb, h.pl, h.ll, h.sl⟩
/-- the points' systems are there -/
def Good (pts : List Pt) (sys : List Sy) : Prop := ∀ p ∈ pts, emp p.sys = true ∨ inSys sys p.sys

set_option maxRecDepth 100000 in
set_option maxHeartbeats 8000000 in
theorem point_any {pA lA sA : Option Addr} (pc lc sc : Nat) {pts : List Pt} {lks : List Lk} {sys : List Sy} (p : Pt) {w : World} (h : TOk w pA lA sA pts lks sys) :
    Calls Tryz.prog 40 #[.agg #[.slice pA pts.length pc, .slice lA lks.length lc, .slice sA sys.length sc], PtV p] w fun e w' => (∃ n : Int, e = .returned (.int .i64 n) ∧ (n = 0 → emp p.sys = true ∨ inSys sys p.sys)) ∧ Below w.heap.size w w' := by
  obtain ⟨pn, pk, ps⟩ := p
  simp only [PtV]
  obtain ⟨Y1, hY1⟩ : ∃ Y, w.alloc (.cells #[.slice pA pts.length pc, .slice lA lks.length lc, .slice sA sys.length sc] 28) = Y := ⟨_, rfl⟩
  obtain ⟨Y2, hY2⟩ : ∃ Y, Y1.alloc (.cells #[.string pn, .int .i64 pk, .string ps] 85) = Y := ⟨_, rfl⟩
  have bW : Below w.heap.size w Y2 := by rw [← hY2, ← hY1]; exact ((Below.refl _ w).al _).al _
  have B1 : Blk Y2 w.heap.size #[.slice pA pts.length pc, .slice lA lks.length lc, .slice sA sys.length sc] 28 := by rw [← hY2, ← hY1]; exact (Blk.new w _ _).alloc _
  have B2 : Blk Y2 Y1.heap.size #[.string pn, .int .i64 pk, .string ps] 85 := by rw [← hY2]; exact Blk.new Y1 _ _
  have z2 := B1.cell 2 (v := .slice sA sys.length sc) rfl
  have p1 := B2.cell 1 (v := .int .i64 pk) rfl
  have p2 := B2.cell 2 (v := .string ps) rfl
  have CF := Lib.hid (tfind_any sc ps (h.st bW).s h.sl)
  have HS := Lib.hid (h.st bW).s
  clear B1 B2 h
  have e0 : (ps.toList == ([] : List UInt8)) = emp ps := by
    cases q : emp ps
    · exact (toList_neE q).2.2
    · exact (toList_eE q).2.2
  go_enter Tryz.func40, Tryz.ntmps40
  go_wp2_with fail
  refine CF.out.mono ?_
  rintro e w' ⟨⟨r, rfl, hr⟩, hw'⟩
  rw [hw']
  clear hw' w' CF
  rcases hr with ⟨rfl, hno⟩ | ⟨k, rfl, hk, hin⟩
  · clear hno
    by_cases q1 : pk = 1
    · subst q1
      go_wp2_with fail
      go_ret
      exact ⟨⟨_, rfl, fun q => by cases q⟩, bW⟩
    · have q1b : (pk == 1) = false := by simp [q1]
      by_cases q2 : pk = 4
      · subst q2
        cases he : emp ps
        · rw [he] at e0
          obtain ⟨n1, n2, n3⟩ := toList_neE he
          go_wp2_with fail
          go_ret
          exact ⟨⟨_, rfl, fun q => by cases q⟩, bW⟩
        · rw [he] at e0
          obtain ⟨n1, n2, n3⟩ := toList_eE he
          have HE := Lib.hid he
          go_wp2_with fail
          go_ret
          exact ⟨⟨_, rfl, fun _ => .inl HE.out⟩, bW⟩
      · have q2b : (pk != 4) = true := by simp [q2]
        go_wp2_with fail
        go_ret
        exact ⟨⟨_, rfl, fun q => by cases q⟩, bW⟩
  · have HIN := Lib.hid hin
    have k1 : (0 : Int) ≤ (k : Int) := by omega
    have k2 : (k : Int) < (sys.length : Int) := by omega
    have hd : decide (0 ≤ (k : Int)) = true := decide_eq_true k1
    obtain ⟨b, off, x, rfl, hb, hx, d0, d1, d2⟩ := HS.out.sy hk
    clear hin hx hb d0 d2
    obtain ⟨xn, xc, xm⟩ := x
    simp only at d1
    cases xc
    all_goals
      by_cases q1 : pk = 1
      · subst q1
        go_wp2_with fail
        go_ret
        exact ⟨⟨_, rfl, fun _ => .inr HIN.out⟩, bW⟩
      · have q1b : (pk == 1) = false := by simp [q1]
        by_cases q2 : pk = 4
        · subst q2
          go_wp2_with fail
          go_ret
          exact ⟨⟨_, rfl, fun _ => .inr HIN.out⟩, bW⟩
        · have q2b : (pk != 4) = true := by simp [q2]
          go_wp2_with fail
          go_ret
          exact ⟨⟨_, rfl, fun _ => .inr HIN.out⟩, bW⟩

set_option maxRecDepth 100000 in
set_option maxHeartbeats 16000000 in
theorem topchk_any {pA lA sA : Option Addr} (pc lc sc : Nat) {pts : List Pt} {lks : List Lk} {sys : List Sy} {w : World} (h : TOk w pA lA sA pts lks sys) (hsc : sys.length ≤ sc) :
    Calls Tryz.prog 11 #[.agg #[.slice pA pts.length pc, .slice lA lks.length lc, .slice sA sys.length sc]] w fun e w' => (∃ n : Int, e = .returned (.int .i64 n) ∧ (n = 0 → Good pts sys)) ∧ Below w.heap.size w w' := by
  obtain ⟨Y, hY⟩ : ∃ Y, w.alloc (.cells #[.slice pA pts.length pc, .slice lA lks.length lc, .slice sA sys.length sc] 28) = Y := ⟨_, rfl⟩
  have bW : Below w.heap.size w Y := by rw [← hY]; exact (Below.refl _ w).al _
  have BP : Blk Y w.heap.size #[.slice pA pts.length pc, .slice lA lks.length lc, .slice sA sys.length sc] 28 := by rw [← hY]; exact Blk.new w _ _
  have H := Lib.hid h
  have CC := Lib.hid (netchk_any pc lc (h.st bW).p (h.st bW).l h.pl h.ll)
  have z0 := BP.cell 0 (v := .slice pA pts.length pc) rfl
  have z1 := BP.cell 1 (v := .slice lA lks.length lc) rfl
  have z2 := BP.cell 2 (v := .slice sA sys.length sc) rfl
  clear h
  go_enter Tryz.func11, Tryz.ntmps11
  go_wp2_with fail
  refine CC.out.mono ?_
  rintro e W1 ⟨⟨n, rfl⟩, hbn⟩
  have bW := bW.st hbn
  have BP := BP.below hbn BP.lt
  clear hbn CC hY z0 z1 z2
  have z2 := BP.cell 2 (v := .slice sA sys.length sc) rfl
  by_cases hn : n = 0
  · subst hn
    by_cases q1 : 64 < sys.length
    · have q2 : (64 : Int) < (sys.length : Int) := by omega
      go_wp2_with fail
      go_ret
      exact ⟨⟨_, rfl, fun q => by cases q⟩, bW⟩
    · have q2 : ¬ (64 : Int) < (sys.length : Int) := by omega
      have HBP := Lib.hid BP
      have HBW := Lib.hid bW
      go_wp2_with fail
      clear z2 BP bW
      go_loopw [4] (fun i wr => ∃ k : Nat, k ≤ sys.length ∧ i = .int .i64 k ∧ Below W1.heap.size W1 wr) (fun i _ => sys.length - (RowKit.intOf i).toNat)
      case atStart => exact ⟨0, Nat.zero_le _, rfl, Below.refl _ _⟩
      case round =>
        obtain ⟨k, hk, rfl, bY⟩ := hrel
        have k1 : (0 : Int) ≤ (k : Int) := by omega
        have BP := HBP.out.below bY HBP.out.lt
        have bW := HBW.out.st bY
        have z2 := BP.cell 2 (v := .slice sA sys.length sc) rfl
        by_cases hi : k < sys.length
        · have k2 : (k : Int) < (sys.length : Int) := by omega
          obtain ⟨b, off, x, hA, hb, hx, d0, d1, d2⟩ := (H.out.st bW).s.sy hi
          rw [hA] at z2
          have HI := Lib.hid hi
          obtain ⟨xn, xc, xm⟩ := x
          simp only at *
          obtain ⟨Y5, hY5⟩ : ∃ Y, wr.alloc (.cells #[.string xn, .bool xc, .int .i64 xm] 90) = Y := ⟨_, rfl⟩
          have b5 : Below wr.heap.size wr Y5 := by rw [← hY5]; exact (Below.refl _ wr).al _
          have B5 : Blk Y5 wr.heap.size #[.string xn, .bool xc, .int .i64 xm] 90 := by rw [← hY5]; exact Blk.new wr _ _
          have BP5 := BP.below b5 BP.lt
          have y2 := BP5.cell 2 (v := .slice sA sys.length sc) rfl
          have hrd := (H.out.st (bW.st b5)).s.take k
          rw [hA] at y2 hrd
          have p0 := B5.cell 0 (v := .string xn) rfl
          have p1 := B5.cell 1 (v := .bool xc) rfl
          have p2 := B5.cell 2 (v := .int .i64 xm) rfl
          have bW5 := bW.st b5
          have bY5 := bY.st b5
          have ktl : (sys.take k).length = k := List.length_take_of_le (by omega)
          have CN := Lib.hid (fun (X : World) => r1name_any xn X)
          have CF := Lib.hid (fun (X : World) (hX : Below w.heap.size w X) => tfind_any (A := some ⟨b, off, none⟩) sc xn (l := sys.take k) (by have q := (H.out.st hX).s.take k; rw [hA] at q; exact q) (by rw [ktl]; omega))
          simp only [ktl] at CF
          have kc1 : k ≤ sc := by omega
          have kc2 : (k : Int) ≤ (sc : Int) := by omega
          have HBY5 := Lib.hid bY5
          have HBW5 := Lib.hid bW5
          have hs5 : wr.heap.size < Y5.heap.size := B5.lt
          clear hx hi hb hA BP BP5 B5 b5 bY bW hrd ktl
          cases hn : nameB xn
          · rw [hn] at CN
            clear hn
            go_wp2_with fail
            refine (CN.out _).mono ?_
            rintro e w' ⟨rfl, hw'⟩
            rw [hw']
            clear hw' w'
            go_wp2_with fail
            go_ret
            exact ⟨⟨_, rfl, fun q => by cases q⟩, bW5⟩
          · rw [hn] at CN
            clear hn
            go_wp2_with fail
            refine (CN.out _).mono ?_
            rintro e w' ⟨rfl, hw'⟩
            rw [hw']
            clear hw' w'
            go_wp2_with fail
            refine wp_region_held_drew (S := (fun w' : World => w'.cell? ⟨w.heap.size, 2, none⟩ = some (.slice (some ⟨b, off, none⟩) sys.length sc) ∧ w'.cell? ⟨wr.heap.size, 0, none⟩ = some (.string xn))) (by kernel_rfl) ?_ (fun hHeld => ?_)
            focus exact ⟨y2, p0⟩
            have hSS : (fun w' : World => w'.cell? ⟨w.heap.size, 2, none⟩ = some (.slice (some ⟨b, off, none⟩) sys.length sc) ∧ w'.cell? ⟨wr.heap.size, 0, none⟩ = some (.string xn)) Y5.drew := ⟨y2, p0⟩
            have q1 : Y5.drew.cell? ⟨wr.heap.size, 1, none⟩ = some (.bool xc) := p1
            have q2 : Y5.drew.cell? ⟨wr.heap.size, 2, none⟩ = some (.int .i64 xm) := p2
            have HBW5 : Hid (Below w.heap.size w Y5.drew) := Lib.hid (below_drewN bW5 1)
            have HBY5 : Hid (Below W1.heap.size W1 Y5.drew) := Lib.hid (below_drewN bY5 1)
            clear p0 p1 p2 y2 hY5 bW5 bY5 hs5
            generalize Y5.drew = W0 at hSS hHeld HBW5 HBY5 q1 q2 ⊢
            change wpAnyH _ _ _ _ _ 8 _ _ _
            refine wpAnyH_take (i := 0) (v := ?_) (by simp only [List.getElem?_toArray, List.getElem?_cons_zero, List.getElem?_cons_succ]; rfl) (by kernel_rfl) (by kernel_rfl) (by kernel_rfl) (by intro _ _ _ h; exact h) (Or.inl ⟨by rfl, ?_⟩) (by assumption) ?_; rotate_left; (focus (intro w1 hSw; (try dsimp only at hSw); go_simp; (try with_reducible rfl))); (try simp only [Act.put, List.setIfInBounds_toArray, List.set_cons_zero, List.set_cons_succ, List.getElem_toArray, List.getElem_cons_zero, List.getElem_cons_succ])
            refine wpAnyH_take (i := 1) (v := ?_) (by simp only [List.getElem?_toArray, List.getElem?_cons_zero, List.getElem?_cons_succ]; rfl) (by kernel_rfl) (by kernel_rfl) (by kernel_rfl) (by intro _ _ _ h; exact h) (Or.inl ⟨by rfl, ?_⟩) (by assumption) ?_; rotate_left; (focus (intro w1 hSw; (try dsimp only at hSw); go_simp; (try with_reducible rfl))); (try simp only [Act.put, List.setIfInBounds_toArray, List.set_cons_zero, List.set_cons_succ, List.getElem_toArray, List.getElem_cons_zero, List.getElem_cons_succ])
            refine wpAnyH_take (i := 2) (v := ?_) (by simp only [List.getElem?_toArray, List.getElem?_cons_zero, List.getElem?_cons_succ]; rfl) (by kernel_rfl) (by kernel_rfl) (by kernel_rfl) (by intro _ _ _ h; exact h) (Or.inl ⟨by rfl, ?_⟩) (by assumption) ?_; rotate_left; (focus (intro w1 hSw; (try dsimp only at hSw); go_simp; (try with_reducible rfl))); (try simp only [Act.put, List.setIfInBounds_toArray, List.set_cons_zero, List.set_cons_succ, List.getElem_toArray, List.getElem_cons_zero, List.getElem_cons_succ])
            refine wpAnyH_take (i := 3) (v := ?_) (by simp only [List.getElem?_toArray, List.getElem?_cons_zero, List.getElem?_cons_succ]; rfl) (by kernel_rfl) (by kernel_rfl) (by kernel_rfl) (by intro _ _ _ h; exact h) (Or.inl ⟨by rfl, ?_⟩) (by assumption) ?_; rotate_left; (focus (intro w1 hSw; (try dsimp only at hSw); go_simp; (try with_reducible rfl))); (try simp only [Act.put, List.setIfInBounds_toArray, List.set_cons_zero, List.set_cons_succ, List.getElem_toArray, List.getElem_cons_zero, List.getElem_cons_succ])
            refine wpAnyH_take (i := 4) (v := ?_) (by simp only [List.getElem?_toArray, List.getElem?_cons_zero, List.getElem?_cons_succ]; rfl) (by kernel_rfl) (by kernel_rfl) (by kernel_rfl) (by intro _ _ _ h; exact h) (Or.inl ⟨by rfl, ?_⟩) (by assumption) ?_; rotate_left; (focus (intro w1 hSw; (try dsimp only at hSw); go_simp; (try with_reducible rfl))); (try simp only [Act.put, List.setIfInBounds_toArray, List.set_cons_zero, List.set_cons_succ, List.getElem_toArray, List.getElem_cons_zero, List.getElem_cons_succ])
            refine wpAnyH_take (i := 5) (v := ?_) (by simp only [List.getElem?_toArray, List.getElem?_cons_zero, List.getElem?_cons_succ]; rfl) (by kernel_rfl) (by kernel_rfl) (by kernel_rfl) (by intro _ _ _ h; exact h) (Or.inl ⟨by rfl, ?_⟩) (by assumption) ?_; rotate_left; (focus (intro w1 hSw; (try dsimp only at hSw); go_simp; (try with_reducible rfl))); (try simp only [Act.put, List.setIfInBounds_toArray, List.set_cons_zero, List.set_cons_succ, List.getElem_toArray, List.getElem_cons_zero, List.getElem_cons_succ])
            refine wpAnyH_ready (rs := [6]) (by kernel_rfl) (by simp) ?_; refine AllReadyH.cons (by simp only [List.getElem?_toArray, List.getElem?_cons_zero, List.getElem?_cons_succ]; rfl) (fun K hK => ?_) AllReadyH.nil
            rw [if_pos (by rfl)]; go_wp2_with fail
            refine (CF.out _ HBW5.out).mono ?_
            rintro e w' ⟨⟨r, rfl, -⟩, hw'⟩
            rw [hw']
            clear hw' w'
            go_wp2_with fail
            refine hK.out _ _ ?_ (fun hHeld => ?_)
            focus exact hSS
            clear hK K
            (try simp only [Act.put, List.setIfInBounds_toArray, List.set_cons_zero, List.set_cons_succ, List.getElem_toArray, List.getElem_cons_zero, List.getElem_cons_succ])
            by_cases hr : 0 ≤ r
            · have hd : decide (0 ≤ r) = true := decide_eq_true hr
              refine wpAnyH_take (i := 7) (v := ?_) (by simp only [List.getElem?_toArray, List.getElem?_cons_zero, List.getElem?_cons_succ]; rfl) (by kernel_rfl) (by kernel_rfl) (by kernel_rfl) (by intro _ _ _ h; exact h) (Or.inl ⟨by rfl, ?_⟩) (by assumption) ?_; rotate_left; (focus (intro w1 hSw; (try dsimp only at hSw); go_simp; (try with_reducible rfl))); (try simp only [Act.put, List.setIfInBounds_toArray, List.set_cons_zero, List.set_cons_succ, List.getElem_toArray, List.getElem_cons_zero, List.getElem_cons_succ])
              refine wpAnyH_done (by kernel_rfl) ?_ _
              go_wp2_with fail
              go_ret
              exact ⟨⟨_, rfl, fun q => by cases q⟩, HBW5.out⟩
            · have hd : decide (0 ≤ r) = false := decide_eq_false hr
              refine wpAnyH_take (i := 7) (v := ?_) (by simp only [List.getElem?_toArray, List.getElem?_cons_zero, List.getElem?_cons_succ]; rfl) (by kernel_rfl) (by kernel_rfl) (by kernel_rfl) (by intro _ _ _ h; exact h) (Or.inl ⟨by rfl, ?_⟩) (by assumption) ?_; rotate_left; (focus (intro w1 hSw; (try dsimp only at hSw); go_simp; (try with_reducible rfl))); (try simp only [Act.put, List.setIfInBounds_toArray, List.set_cons_zero, List.set_cons_succ, List.getElem_toArray, List.getElem_cons_zero, List.getElem_cons_succ])
              refine wpAnyH_done (by kernel_rfl) ?_ _
              clear hSS hHeld
              by_cases a1 : xm < 0
              · go_wp2_with fail
                go_ret
                exact ⟨⟨_, rfl, fun q => by cases q⟩, HBW5.out⟩
              · by_cases a2 : 2147483648 < xm
                · go_wp2_with fail
                  go_ret
                  exact ⟨⟨_, rfl, fun q => by cases q⟩, HBW5.out⟩
                · cases xc
                  · go_wp2_with fail
                    go_roundw
                    case rel => exact ⟨k + 1, HI.out, by go_num, HBY5.out⟩
                    case measure => have := HI.out; simp [RowKit.intOf]; omega
                  · by_cases a3 : xm = 0
                    · subst a3
                      go_wp2_with fail
                      go_ret
                      exact ⟨⟨_, rfl, fun q => by cases q⟩, HBW5.out⟩
                    · have a4 : (xm == 0) = false := by simp [a3]
                      go_wp2_with fail
                      go_roundw
                      case rel => exact ⟨k + 1, HI.out, by go_num, HBY5.out⟩
                      case measure => have := HI.out; simp [RowKit.intOf]; omega
        · obtain rfl : k = sys.length := by omega
          have HBP := Lib.hid BP
          have HBW := Lib.hid bW
          go_wp2_with fail
          clear z2 BP bW bY
          have hpl := H.out.pl
          obtain ⟨W2, hW2⟩ : ∃ V, V = wr := ⟨_, rfl⟩
          subst hW2
          go_loopw [6] (fun i wr => ∃ k : Nat, k ≤ pts.length ∧ i = .int .i64 k ∧ Hid (Good (pts.take k) sys) ∧ Below W2.heap.size W2 wr) (fun i _ => pts.length - (RowKit.intOf i).toNat)
          case atStart => exact ⟨0, Nat.zero_le _, rfl, (by unfold Hid Good; simp), Below.refl _ _⟩
          case round =>
            obtain ⟨k, hk, rfl, HQ, bY⟩ := hrel
            have k1 : (0 : Int) ≤ (k : Int) := by omega
            have BP := HBP.out.below bY HBP.out.lt
            have bW := HBW.out.st bY
            have z0 := BP.cell 0 (v := .slice pA pts.length pc) rfl
            by_cases hi : k < pts.length
            · have k2 : (k : Int) < (pts.length : Int) := by omega
              obtain ⟨b, off, p, hA, hb, hx, d0, d1, d2⟩ := (H.out.st bW).p.pt hi
              rw [hA] at z0
              have HI := Lib.hid hi
              have HX := Lib.hid hx
              obtain ⟨pn, pk, ps⟩ := p
              simp only at *
              have CPT := Lib.hid (fun (X : World) (hX : Below w.heap.size w X) => point_any pc lc sc ⟨pn, pk, ps⟩ (H.out.st hX))
              simp only [PtV] at CPT
              have HB := Lib.hid hb
              have HBPr := Lib.hid BP
              have HBWr := Lib.hid bW
              have HBYr := Lib.hid bY
              clear hx hi hb hA BP bY bW
              go_wp2_with fail
              refine wp_region_held_drew (S := (fun w' : World => (Blk w' w.heap.size #[.slice pA pts.length pc, .slice lA lks.length lc, .slice sA sys.length sc] 28 ∧ w'.cell? ⟨w.heap.size, 0, none⟩ = some (.slice (some ⟨b, off, none⟩) pts.length pc)) ∧ w'.cell? ⟨b, off + k * 3, none⟩ = some (.string pn) ∧ w'.cell? ⟨b, off + k * 3 + 1, none⟩ = some (.int .i64 pk) ∧ w'.cell? ⟨b, off + k * 3 + 2, none⟩ = some (.string ps))) (by kernel_rfl) ?_ (fun hHeld => ?_)
              focus exact ⟨⟨HBPr.out, z0⟩, d0, d1, d2⟩
              have hSS : (fun w' : World => (Blk w' w.heap.size #[.slice pA pts.length pc, .slice lA lks.length lc, .slice sA sys.length sc] 28 ∧ w'.cell? ⟨w.heap.size, 0, none⟩ = some (.slice (some ⟨b, off, none⟩) pts.length pc)) ∧ w'.cell? ⟨b, off + k * 3, none⟩ = some (.string pn) ∧ w'.cell? ⟨b, off + k * 3 + 1, none⟩ = some (.int .i64 pk) ∧ w'.cell? ⟨b, off + k * 3 + 2, none⟩ = some (.string ps)) wr.drew := ⟨⟨HBPr.out.drew, z0⟩, d0, d1, d2⟩
              have HBWr : Hid (Below w.heap.size w wr.drew) := Lib.hid (below_drewN HBWr.out 1)
              have HBYr : Hid (Below W2.heap.size W2 wr.drew) := Lib.hid (below_drewN HBYr.out 1)
              have HBPr := Lib.hid HBPr.out.drew
              have HB : Hid (b < wr.drew.heap.size) := HB
              have HC := hSS
              have HC := Lib.hid HC
              clear z0 d0 d1 d2
              generalize wr.drew = W0 at hSS hHeld HBWr HBYr HBPr HB HC ⊢
              change wpAnyH _ _ _ _ _ 9 _ _ _
              refine wpAnyH_take (i := 0) (v := .agg #[.slice pA pts.length pc, .slice lA lks.length lc, .slice sA sys.length sc]) (by simp only [List.getElem?_toArray, List.getElem?_cons_zero, List.getElem?_cons_succ]; rfl) (by kernel_rfl) (by kernel_rfl) (by kernel_rfl) (by intro _ _ _ h; exact h) (yieldsIf_boxLoad (by rfl) rfl rfl (fun _ hw => hw.1.1) ⟨_, Tryz.underlying28, by kernel_rfl⟩) (by assumption) ?_; (try simp only [Act.put, List.setIfInBounds_toArray, List.set_cons_zero, List.set_cons_succ, List.getElem_toArray, List.getElem_cons_zero, List.getElem_cons_succ])
              refine wpAnyH_take (i := 1) (v := ?_) (by simp only [List.getElem?_toArray, List.getElem?_cons_zero, List.getElem?_cons_succ]; rfl) (by kernel_rfl) (by kernel_rfl) (by kernel_rfl) (by intro _ _ _ h; exact h) (Or.inl ⟨by rfl, ?_⟩) (by assumption) ?_; rotate_left; (focus (intro w1 hSw; (try dsimp only at hSw); go_simp; (try with_reducible rfl))); (try simp only [Act.put, List.setIfInBounds_toArray, List.set_cons_zero, List.set_cons_succ, List.getElem_toArray, List.getElem_cons_zero, List.getElem_cons_succ])
              refine wpAnyH_take (i := 2) (v := ?_) (by simp only [List.getElem?_toArray, List.getElem?_cons_zero, List.getElem?_cons_succ]; rfl) (by kernel_rfl) (by kernel_rfl) (by kernel_rfl) (by intro _ _ _ h; exact h) (Or.inl ⟨by rfl, ?_⟩) (by assumption) ?_; rotate_left; (focus (intro w1 hSw; (try dsimp only at hSw); go_simp; (try with_reducible rfl))); (try simp only [Act.put, List.setIfInBounds_toArray, List.set_cons_zero, List.set_cons_succ, List.getElem_toArray, List.getElem_cons_zero, List.getElem_cons_succ])
              refine wpAnyH_take (i := 3) (v := ?_) (by simp only [List.getElem?_toArray, List.getElem?_cons_zero, List.getElem?_cons_succ]; rfl) (by kernel_rfl) (by kernel_rfl) (by kernel_rfl) (by intro _ _ _ h; exact h) (Or.inl ⟨by rfl, ?_⟩) (by assumption) ?_; rotate_left; (focus (intro w1 hSw; (try dsimp only at hSw); go_simp; (try with_reducible rfl))); (try simp only [Act.put, List.setIfInBounds_toArray, List.set_cons_zero, List.set_cons_succ, List.getElem_toArray, List.getElem_cons_zero, List.getElem_cons_succ])
              refine wpAnyH_take (i := 4) (v := ?_) (by simp only [List.getElem?_toArray, List.getElem?_cons_zero, List.getElem?_cons_succ]; rfl) (by kernel_rfl) (by kernel_rfl) (by kernel_rfl) (by intro _ _ _ h; exact h) (Or.inl ⟨by rfl, ?_⟩) (by assumption) ?_; rotate_left; (focus (intro w1 hSw; (try dsimp only at hSw); go_simp; (try with_reducible rfl))); (try simp only [Act.put, List.setIfInBounds_toArray, List.set_cons_zero, List.set_cons_succ, List.getElem_toArray, List.getElem_cons_zero, List.getElem_cons_succ])
              refine wpAnyH_take (i := 5) (v := ?_) (by simp only [List.getElem?_toArray, List.getElem?_cons_zero, List.getElem?_cons_succ]; rfl) (by kernel_rfl) (by kernel_rfl) (by kernel_rfl) (by intro _ _ _ h; exact h) (Or.inl ⟨by rfl, ?_⟩) (by assumption) ?_; rotate_left; (focus (intro w1 hSw; (try dsimp only at hSw); go_simp; (try with_reducible rfl))); (try simp only [Act.put, List.setIfInBounds_toArray, List.set_cons_zero, List.set_cons_succ, List.getElem_toArray, List.getElem_cons_zero, List.getElem_cons_succ])
              refine wpAnyH_take (i := 6) (v := ?_) (by simp only [List.getElem?_toArray, List.getElem?_cons_zero, List.getElem?_cons_succ]; rfl) (by kernel_rfl) (by kernel_rfl) (by kernel_rfl) (by intro _ _ _ h; exact h) (Or.inl ⟨by rfl, ?_⟩) (by assumption) ?_; rotate_left; (focus (intro w1 hSw; (try dsimp only at hSw); go_simp; (try with_reducible rfl))); (try simp only [Act.put, List.setIfInBounds_toArray, List.set_cons_zero, List.set_cons_succ, List.getElem_toArray, List.getElem_cons_zero, List.getElem_cons_succ])
              refine wpAnyH_ready (rs := [7]) (by kernel_rfl) (by simp) ?_; refine AllReadyH.cons (by simp only [List.getElem?_toArray, List.getElem?_cons_zero, List.getElem?_cons_succ]; rfl) (fun K hK => ?_) AllReadyH.nil
              rw [if_pos (by rfl)]; go_wp2_with fail
              refine (CPT.out _ HBWr.out).mono ?_
              rintro e W3 ⟨⟨n, rfl, hn⟩, hbn⟩
              have HN := Lib.hid hn
              have HBW3 := Lib.hid (HBWr.out.st hbn)
              have HBY3 := Lib.hid (HBYr.out.st hbn)
              have hSS : (fun w' : World => (Blk w' w.heap.size #[.slice pA pts.length pc, .slice lA lks.length lc, .slice sA sys.length sc] 28 ∧ w'.cell? ⟨w.heap.size, 0, none⟩ = some (.slice (some ⟨b, off, none⟩) pts.length pc)) ∧ w'.cell? ⟨b, off + k * 3, none⟩ = some (.string pn) ∧ w'.cell? ⟨b, off + k * 3 + 1, none⟩ = some (.int .i64 pk) ∧ w'.cell? ⟨b, off + k * 3 + 2, none⟩ = some (.string ps)) W3 := ⟨⟨HBPr.out.below hbn HBPr.out.lt, (World.cell?_of_block (hbn.block w.heap.size HBPr.out.lt)).trans HC.out.1.2⟩, (World.cell?_of_block (hbn.block b HB.out)).trans HC.out.2.1, (World.cell?_of_block (hbn.block b HB.out)).trans HC.out.2.2.1, (World.cell?_of_block (hbn.block b HB.out)).trans HC.out.2.2.2⟩
              clear hbn hn
              go_wp2_with fail
              refine hK.out _ _ ?_ (fun hHeld => ?_)
              focus exact hSS
              clear hK K
              (try simp only [Act.put, List.setIfInBounds_toArray, List.set_cons_zero, List.set_cons_succ, List.getElem_toArray, List.getElem_cons_zero, List.getElem_cons_succ])
              refine wpAnyH_take (i := 8) (v := ?_) (by simp only [List.getElem?_toArray, List.getElem?_cons_zero, List.getElem?_cons_succ]; rfl) (by kernel_rfl) (by kernel_rfl) (by kernel_rfl) (by intro _ _ _ h; exact h) (Or.inl ⟨by rfl, ?_⟩) (by assumption) ?_; rotate_left; (focus (intro w1 hSw; (try dsimp only at hSw); go_simp; (try with_reducible rfl))); (try simp only [Act.put, List.setIfInBounds_toArray, List.set_cons_zero, List.set_cons_succ, List.getElem_toArray, List.getElem_cons_zero, List.getElem_cons_succ])
              refine wpAnyH_done (by kernel_rfl) ?_ _
              clear hSS hHeld HC
              by_cases hn0 : n = 0
              · subst hn0
                have R : Hid (Good (pts.take (k + 1)) sys) := Lib.hid (by
                  intro y hy
                  rw [take_snoc HX.out] at hy
                  rcases List.mem_append.1 hy with q | q
                  · exact HQ.out y q
                  · rw [List.mem_singleton] at q; subst q; exact HN.out rfl)
                go_wp2_with fail
                go_roundw
                case rel => exact ⟨k + 1, HI.out, by go_num, R, HBY3.out⟩
                case measure => have := HI.out; simp [RowKit.intOf]; omega
              · have hn2 : (n != 0) = true := by simp [hn0]
                have HN0 := Lib.hid hn0
                go_wp2_with fail
                go_ret
                exact ⟨⟨_, rfl, fun q => absurd q HN0.out⟩, HBW3.out⟩
            · obtain rfl : k = pts.length := by omega
              have HG : Hid (Good pts sys) := Lib.hid (by have := HQ.out; rwa [List.take_length] at this)
              go_wp2_with fail
              go_ret
              exact ⟨⟨_, rfl, fun _ => HG.out⟩, bW⟩
  · have hn2 : (n != 0) = true := by simp [hn]
    go_wp2_with fail
    go_ret
    exact ⟨⟨_, rfl, fun q => absurd q hn⟩, bW⟩
end Go.Proofs.YtelchfijalkibaaGreatDoor
