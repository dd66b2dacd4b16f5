/- span.Meet, walked. -/
import Derived.Test.YtbeoopofckbijaaJoins
namespace Go.Proofs.Ytbeoopofckbijaa
open Go.RowKit Go.Lib

set_option maxHeartbeats 4000000 in
theorem meet_any {A B : Option Addr} (c d : Nat) {a b : List Iv} {w : World} (ha : Rd encIv 2 w w.heap.size A a) (hb : Rd encIv 2 w w.heap.size B b) (hla : a.length ≤ 100000000000) (hlb : b.length ≤ 100000000000) :
    Calls Try.prog 17 #[.slice A a.length c, .slice B b.length d] w fun e w' => NFr (fun t => Mem a t ∧ Mem b t) w w' e := by
  have C1 := Lib.hid (join1 c ha hla)
  have C2 := Lib.hid (fun (w1 : World) (h1 : Below w.heap.size w w1) => join1 d ((hb.keep h1).more h1.size) hlb)
  clear ha hb
  go_enter Try.func17, Try.ntmps17
  go_wp2_with fail
  refine C1.out.mono ?_
  rintro e w1 ⟨A1, c1, x, rfl, hnx, hmx, hox, hb1⟩
  have HMX := Lib.hid hmx
  clear hmx C1
  go_wp2_with fail
  refine (C2.out w1 hb1).mono ?_
  rintro e w2 ⟨A2, c2, y, rfl, hny, hmy, hoy, hb2⟩
  have HMY := Lib.hid hmy
  have hrx := Lib.hid ((hox.keep hb2 (Nat.le_refl _)).rd encIv_ok)
  have hry := Lib.hid (hoy.rd encIv_ok)
  have hbel := hb1.trans (hb2.mono hb1.size)
  have R1 := Lib.hid (meetL_NF hnx hny)
  have R2 := Lib.hid (fun t => (meetL_mem hnx hny t).trans (by rw [HMX.out, HMY.out] : _ ↔ Mem a t ∧ Mem b t))
  have hlx := hnx.length_max
  have hly := hny.length_max
  have R3 := Lib.hid (meetL_NF hnx hny).length_max
  have HNX := Lib.hid hnx
  clear C2 hmy hox hoy hb1 hb2 HMX HMY hnx hny
  go_wp2_with fail
  go_loopw [7, 8, 9] (fun v i j wr => ∃ (k1 k2 : Nat) (A' : Option Addr) (c' : Nat) (o : List Iv), k1 ≤ x.length ∧ k2 ≤ y.length ∧ i = .int .i64 k1 ∧ j = .int .i64 k2 ∧ Hid (o ++ meetL (x.drop k1) (y.drop k2) = meetL x y) ∧ v = .slice A' o.length c' ∧ Own 26 encIv 2 wr w2.heap.size A' c' o ∧ Below w2.heap.size w2 wr) (fun _ i j _ => (x.length - (intOf i).toNat) + (y.length - (intOf j).toNat))
  case atStart => exact ⟨0, 0, none, 0, [], Nat.zero_le _, Nat.zero_le _, rfl, rfl, rfl, rfl, Own.nil _ _, Below.refl _ _⟩
  case round =>
    obtain ⟨k1, k2, A', c', o, hk1, hk2, rfl, rfl, HO, rfl, hown, hbr⟩ := hrel
    have hol : o.length ≤ 68719476736 := by
      have h1 := R3.out
      rw [← HO.out, List.length_append] at h1
      omega
    by_cases hl1 : k1 < x.length
    · by_cases hl2 : k2 < y.length
      · obtain ⟨g, off, f, u, rfl, hg, hx, hc0, hc1⟩ := (hrx.out.keep hbr).iv hl1
        obtain ⟨g', off', f', u', rfl, hg', hy, hc2, hc3⟩ := (hry.out.keep hbr).iv hl2
        have hst : o ++ (one? (isect (f, u) (f', u')) ++ if u < u' then meetL (x.drop (k1 + 1)) (y.drop k2) else meetL (x.drop k1) (y.drop (k2 + 1))) = meetL x y := by
          rw [← HO.out, meetL_step hx hy]
        clear hx hy HO
        have hk1' : (0 : Int) ≤ (k1 : Int) := by omega
        have hk2' : (0 : Int) ≤ (k2 : Int) := by omega
        have hl1' : (k1 : Int) < (x.length : Int) := by omega
        have hl2' : (k2 : Int) < (y.length : Int) := by omega
        have n0 := World.new_ne wr _ hc0
        have n1 := World.new_ne wr _ hc1
        have n2 := World.new_ne wr _ hc2
        have n3 := World.new_ne wr _ hc3
        go_wp2_with fail
        go_region_held3 (fun w' => w'.cell? ⟨g, off + k1 * 2, none⟩ = some (.int .i64 f) ∧ w'.cell? ⟨g, off + k1 * 2 + 1, none⟩ = some (.int .i64 u) ∧ w'.cell? ⟨g', off' + k2 * 2, none⟩ = some (.int .i64 f') ∧ w'.cell? ⟨g', off' + k2 * 2 + 1, none⟩ = some (.int .i64 u')) (go_keep) (fail)
        all_goals
          have p1 := hbr.al (.cells #[.int .i64 (max f f'), .int .i64 (min u u')] 26)
          have p2 := hown.alloc (.cells #[.int .i64 (max f f'), .int .i64 (min u u')] 26)
          have q1 : Below w2.heap.size w2 (wr.alloc (.cells #[.int .i64 (max f f'), .int .i64 (min u u')] 26)).drew := p1.drew
          have q2 : Own 26 encIv 2 (wr.alloc (.cells #[.int .i64 (max f f'), .int .i64 (min u u')] 26)).drew w2.heap.size A' c' o := p2
          have q3 : (wr.alloc (.cells #[.int .i64 (max f f'), .int .i64 (min u u')] 26)).drew.cell? ⟨wr.heap.size, 0, none⟩ = some (.int .i64 (max f f')) := by simp
          have q4 : (wr.alloc (.cells #[.int .i64 (max f f'), .int .i64 (min u u')] 26)).drew.cell? ⟨wr.heap.size, 1, none⟩ = some (.int .i64 (min u u')) := by simp
          have q5 : wr.heap.size < (wr.alloc (.cells #[.int .i64 (max f f'), .int .i64 (min u u')] 26)).drew.heap.size := by simp
          have hgr : g < wr.heap.size := Nat.lt_of_lt_of_le hg hbr.size
          have hgr' : g' < wr.heap.size := Nat.lt_of_lt_of_le hg' hbr.size
          have q6 : (wr.alloc (.cells #[.int .i64 (max f f'), .int .i64 (min u u')] 26)).drew.cell? ⟨g, off + k1 * 2 + 1, none⟩ = some (.int .i64 u) := (World.cell?_alloc_lt wr _ _ hgr).trans hc1
          have q7 : (wr.alloc (.cells #[.int .i64 (max f f'), .int .i64 (min u u')] 26)).drew.cell? ⟨g', off' + k2 * 2 + 1, none⟩ = some (.int .i64 u') := (World.cell?_alloc_lt wr _ _ hgr').trans hc3
          have q8 : wr.heap.size < wr.heap.size + 1 := by omega
          clear p1 p2 hbr hown hc0 hc1 hc2 hc3 n0 n1 n2 n3
          generalize (wr.alloc (.cells #[.int .i64 (max f f'), .int .i64 (min u u')] 26)).drew = wq at *
          generalize wr.heap.size = bx at *
          have HST := Lib.hid hst
          clear hst
          by_cases hm : max f f' < min u u'
          · go_wp2_with (at_builtin; refine wpList_app1 rfl (.tmp 55) (.tmp 57) tyIv encIv_ok rfl ((max f f', min u u') : Iv) rfl _ rfl (by simp) q2 rfl (by first | rfl | simp) (by first | omega | (simp; omega)) (by first | omega | (simp; omega)) q1.size ?_; intro A3 c3 w3 hown3 hb3 hs3 hf3; have hbel3 := q1.trans hb3)
            have r6 := (hb3.cell (p := ⟨g, off + k1 * 2 + 1, none⟩) hg).trans q6
            have r7 := (hb3.cell (p := ⟨g', off' + k2 * 2 + 1, none⟩) hg').trans q7
            by_cases hc : u < u'
            · have R := Lib.hid (show (o ++ [(max f f', min u u')]) ++ meetL (x.drop (k1 + 1)) (y.drop k2) = meetL x y by rw [← HST.out, if_pos hc]; simp [one?, isect, hm])
              go_quiet (fail)
              go_wp2
              go_roundw
              case rel => exact ⟨k1 + 1, k2, A3, c3, _, by omega, by omega, by go_num, rfl, R, by simp, hown3.drewN nq, below_drewN hbel3 nq⟩
              case measure => simp [intOf]; omega
            · have R := Lib.hid (show (o ++ [(max f f', min u u')]) ++ meetL (x.drop k1) (y.drop (k2 + 1)) = meetL x y by rw [← HST.out, if_neg hc]; simp [one?, isect, hm])
              go_quiet (fail)
              go_wp2
              go_roundw
              case rel => exact ⟨k1, k2 + 1, A3, c3, _, by omega, by omega, rfl, by go_num, R, by simp, hown3.drewN nq, below_drewN hbel3 nq⟩
              case measure => simp [intOf]; omega
          · have H1 := Lib.hid (show one? (isect (f, u) (f', u')) = [] from if_neg hm)
            go_wp2_with fail
            by_cases hc : u < u'
            · have R := Lib.hid (show o ++ meetL (x.drop (k1 + 1)) (y.drop k2) = meetL x y by rw [← HST.out, if_pos hc, H1.out]; rfl)
              go_quiet (fail)
              go_wp2
              go_roundw
              case rel => exact ⟨k1 + 1, k2, A', c', _, by omega, by omega, by go_num, rfl, R, rfl, q2.drewN nq, below_drewN q1 nq⟩
              case measure => simp [intOf]; omega
            · have R := Lib.hid (show o ++ meetL (x.drop k1) (y.drop (k2 + 1)) = meetL x y by rw [← HST.out, if_neg hc, H1.out]; rfl)
              go_quiet (fail)
              go_wp2
              go_roundw
              case rel => exact ⟨k1, k2 + 1, A', c', _, by omega, by omega, rfl, by go_num, R, rfl, q2.drewN nq, below_drewN q1 nq⟩
              case measure => simp [intOf]; omega
      · obtain rfl : k2 = y.length := by omega
        have R := Lib.hid (show o = meetL x y by have := HO.out; rw [List.drop_length, meetL_nil_right, List.append_nil] at this; exact this)
        clear HO
        go_wp2
        go_ret
        exact ⟨A', c', o, rfl, by rw [R.out]; exact R1.out, by rw [R.out]; exact R2.out, hown.mono hbel.size, hbel.trans (hbr.mono hbel.size)⟩
    · obtain rfl : k1 = x.length := by omega
      have R := Lib.hid (show o = meetL x y by have := HO.out; rw [List.drop_length, meetL_nil_left, List.append_nil] at this; exact this)
      clear HO
      go_wp2
      go_ret
      exact ⟨A', c', o, rfl, by rw [R.out]; exact R1.out, by rw [R.out]; exact R2.out, hown.mono hbel.size, hbel.trans (hbr.mono hbel.size)⟩
end Go.Proofs.Ytbeoopofckbijaa
