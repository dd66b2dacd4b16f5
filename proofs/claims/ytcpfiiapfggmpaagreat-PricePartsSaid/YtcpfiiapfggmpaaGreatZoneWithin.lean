/- The reference's Within, walked. -/
import Derived.Test.YtcpfiiapfggmpaaGreatJParkRefund
import Derived.Test.YtcpfiiapfggmpaaGreatJFirst
import Derived.Test.YtcpfiiapfggmpaaGreatJRelMath
namespace Go.Proofs.YtcpfiiapfggmpaaGreat
open Go.RowKit Go.Lib

def WithR (hs : List Wn) (f u : Int) (w w' : World) (e : Ending) : Prop :=
  ∃ A c n, e = .returned (.slice A n.length c) ∧ NF n ∧ (∀ t, Mem n t ↔ Sh hs (f, u) t) ∧ Rd encIv 2 w' w'.heap.size A n ∧ Below w.heap.size w w'
theorem isCut_snoc (l : List Wn) (x : Wn) (m : Int) : isCut (l ++ [x]) m = (isCut l m || (decide (x.2.1 = m) || decide (x.2.2 = m))) := by
  simp [isCut, List.any_append, Bool.or_assoc]
theorem one_nf' {f u : Int} (h0 : 0 ≤ f) (h1 : f < u) (h2 : u ≤ 68719476736) : NF [((f, u) : Iv)] ∧ ∀ t, Mem [((f, u) : Iv)] t ↔ Sh [] (f, u) t := by
  refine ⟨⟨?_, ?_⟩, fun t => ?_⟩
  · simp [vld]; omega
  · simp
  · rw [Mem.cons]
    unfold vld Sh hoursP
    simp only [Mem.nil, or_false, true_or, and_true]
    omega

set_option maxRecDepth 100000 in
set_option maxHeartbeats 8000000 in
theorem rwithin_any {H : Option Addr} (hc : Nat) {hs : List Wn} {f u : Int} {w : World} (h : Rd encW 3 w w.heap.size H hs) (hl : hs.length ≤ 100) (h0 : 0 ≤ f) (h1 : f < u) (h2 : u ≤ 68719476736) (h3 : (u - 1) / 86400 - f / 86400 ≤ 400) :
    Calls Tryz.prog 123 #[.slice H hs.length hc, .agg #[.int .i64 f, .int .i64 u]] w fun e w' => WithR hs f u w w' e := by
  have hb0 : Below w.heap.size w (w.alloc (.cells #[.int .i64 f, .int .i64 u] 59)) := (Below.refl _ w).al _
  by_cases hl0 : hs.length = 0
  · obtain rfl := List.eq_nil_of_length_eq_zero hl0
    have HN := Lib.hid (one_nf' h0 h1 h2)
    go_enter Tryz.func123, Tryz.ntmps123
    go_wp2
    go_ret
    exact ⟨_, 1, [((f, u) : Iv)], rfl, HN.out.1, HN.out.2, (Own.lit _ 0 [((f, u) : Iv)] encIv_ok rfl (by simp) (by omega) (by simp)).rd encIv_ok, hb0.al _⟩
  · have hl1 : ((hs.length : Int) == 0) = false := beq_eq_false_iff_ne.2 (by omega)
    have hz0 : w.heap.size < (w.alloc (.cells #[.int .i64 f, .int .i64 u] 59)).heap.size := by simp
    have b0 : (w.alloc (.cells #[.int .i64 f, .int .i64 u] 59)).cell? ⟨w.heap.size, 0, none⟩ = some (.int .i64 f) := by simp
    have b1 : (w.alloc (.cells #[.int .i64 f, .int .i64 u] 59)).cell? ⟨w.heap.size, 1, none⟩ = some (.int .i64 u) := by simp
    go_enter Tryz.func123, Tryz.ntmps123
    go_wp2
    have h' := h.keep hb0
    clear h
    generalize w.alloc (.cells #[.int .i64 f, .int .i64 u] 59) = w1 at *
    go_loopw [5, 6] (fun v i wr => ∃ (d : Int) (A : Option Addr) (c : Nat) (o : List Iv), f / 86400 ≤ d ∧ d ≤ (u - 1) / 86400 + 1 ∧ i = .int .i64 d ∧ v = .slice A o.length c ∧ Hid (SInv (Sh hs (f, u)) o (86400 * d)) ∧ (o.length : Int) ≤ 1441 * (d - f / 86400) ∧ Own 59 encIv 2 wr w1.heap.size A c o ∧ Below w1.heap.size w1 wr) (fun _ i _ => ((u - 1) / 86400 + 1 - RowKit.intOf i).toNat)
    case atStart => exact ⟨f / 86400, none, 0, [], Int.le_refl _, by omega, rfl, rfl, Sh.start _ _, by simp, Own.nil _ _, Below.refl _ _⟩
    case round =>
      obtain ⟨d, A, c, o, hd1, hd2, rfl, rfl, HI, hol, hown, hbr⟩ := hrel
      have bel := hb0.st hbr
      have c0 := (hbr.cell (p := ⟨w.heap.size, 0, none⟩) (show w.heap.size < w1.heap.size by omega)).trans b0
      have c1 := (hbr.cell (p := ⟨w.heap.size, 1, none⟩) (show w.heap.size < w1.heap.size by omega)).trans b1
      by_cases hlt : d ≤ (u - 1) / 86400
      · have hd0 : 0 ≤ d := by omega
        have hE := Own.lit (e := 3) wr wr.heap.size ([] : List Int) (cs := #[]) encI_ok rfl rfl (Nat.le_refl _) (by simp)
        have hbE : Below wr.heap.size wr (wr.alloc (.cells #[] 3)) := (Below.refl _ wr).al _
        have hzr : w.heap.size < wr.heap.size := Nat.lt_of_lt_of_le hz0 hbr.size
        obtain ⟨wo, rfl⟩ : ∃ wo : World, wo = wr := ⟨_, rfl⟩
        go_wp2
        go_loopw [7, 8] (fun v i wr => ∃ (m : Nat) (A2 : Option Addr) (c2 : Nat) (p : List Int), m ≤ 1440 ∧ i = .int .i64 m ∧ v = .slice A2 p.length c2 ∧ Hid (cutsL hs m = p) ∧ Own 3 encI 1 wr wo.heap.size A2 c2 p ∧ Below wo.heap.size wo wr) (fun _ i _ => 1440 - (RowKit.intOf i).toNat)
        case atStart => exact ⟨0, _, _, [], by omega, rfl, rfl, rfl, hE, hbE⟩
        case round =>
          clear hE hbE
          obtain ⟨m, A2, c2, p, hm, rfl, rfl, HC, hown2, hbr2⟩ := hrel
          have hpl : p.length ≤ 1440 := by rw [← HC.out]; exact Nat.le_trans (cutsL_length hs m) hm
          by_cases hmlt : m < 1440
          · obtain ⟨wm, rfl⟩ : ∃ wm : World, wm = wr := ⟨_, rfl⟩
            go_wp2
            go_loopw [9, 10] (fun v i wr => ∃ k : Nat, k ≤ hs.length ∧ i = .int .i64 k ∧ v = .bool (isCut (hs.take k) m) ∧ wr = wm) (fun _ i _ => hs.length - (RowKit.intOf i).toNat)
            case atStart => exact ⟨0, Nat.zero_le _, rfl, congrArg Value.bool (by simp only [List.take_zero, isCut, List.any_nil, Bool.or_false]; rw [Bool.eq_iff_iff]; simp), rfl⟩
            case round =>
              obtain ⟨k, hk, rfl, rfl, rfl⟩ := hrel
              by_cases hi : k < hs.length
              · obtain ⟨b, off, x, y, z, rfl, hb, hx, e0, e1, e2⟩ := ((h'.keep (hbr.mono hb0.size)).keep (hbr2.mono (Nat.le_trans hb0.size hbr.size))).w3 hi
                have hi2 : (k : Int) < (hs.length : Int) := by omega
                have hst : isCut (hs.take (k + 1)) m = (isCut (hs.take k) m || (decide (y = m) || decide (z = m))) := by rw [take_snoc hx, isCut_snoc]
                have HS := Lib.hid hst
                generalize isCut (hs.take k) m = q at *
                clear hst hx h'
                cases q
                · by_cases hy : y = (m : Int)
                  · have hy2 : (y == (m : Int)) = true := by simp [hy]
                    have R := Lib.hid (show isCut (hs.take (k + 1)) m = true by rw [HS.out]; simp [hy])
                    clear hy
                    go_wp2
                    go_roundw
                    case rel => exact ⟨k + 1, by omega, by go_num, by rw [R.out], by first | rfl | trivial⟩
                    case measure => simp [RowKit.intOf]; omega
                  · have hy2 : (y == (m : Int)) = false := by simp [hy]
                    by_cases hz : z = (m : Int)
                    · have hz2 : (z == (m : Int)) = true := by simp [hz]
                      have R := Lib.hid (show isCut (hs.take (k + 1)) m = true by rw [HS.out]; simp [hz])
                      clear hy hz
                      go_wp2
                      go_roundw
                      case rel => exact ⟨k + 1, by omega, by go_num, by rw [R.out], by first | rfl | trivial⟩
                      case measure => simp [RowKit.intOf]; omega
                    · have hz2 : (z == (m : Int)) = false := by simp [hz]
                      have R := Lib.hid (show isCut (hs.take (k + 1)) m = false by rw [HS.out]; simp [hy, hz])
                      clear hy hz
                      go_wp2
                      go_roundw
                      case rel => exact ⟨k + 1, by omega, by go_num, by rw [R.out], by first | rfl | trivial⟩
                      case measure => simp [RowKit.intOf]; omega
                · have R := Lib.hid (show isCut (hs.take (k + 1)) m = true by rw [HS.out]; rfl)
                  go_wp2
                  go_roundw
                  case rel => exact ⟨k + 1, by omega, by go_num, by rw [R.out], by first | rfl | trivial⟩
                  case measure => simp [RowKit.intOf]; omega
              · obtain rfl : k = hs.length := by omega
                rw [List.take_length]
                have hst := cutsL_succ hs m
                rw [HC.out] at hst
                cases hq : isCut hs m
                · rw [hq] at hst
                  have R := Lib.hid (show cutsL hs (m + 1) = p from hst)
                  clear hst hq
                  go_wp2
                  go_roundw
                  case rel => exact ⟨m + 1, A2, c2, p, by omega, by go_num, rfl, R, hown2, hbr2⟩
                  case measure => simp [RowKit.intOf]; omega
                · rw [hq] at hst
                  have R := Lib.hid (show cutsL hs (m + 1) = p ++ [(m : Int)] from hst)
                  clear hst hq
                  go_wp2_with (at_builtin; refine wpList_app1 rfl (.tmp 63) (.tmp 65) tyI encI_ok rfl ((m : Nat) : Int) rfl _ rfl (by simp) hown2 rfl (by first | rfl | simp) (by first | omega | (simp; omega)) (by first | omega | (simp; omega)) hbr2.size ?_; intro A3 c3 w3 hown3 hb3 hs3 hf3; have hbel3 := hbr2.trans hb3)
                  go_roundw
                  case rel => exact ⟨m + 1, A3, c3, _, by omega, by go_num, by simp, R, hown3, hbel3⟩
                  case measure => simp [RowKit.intOf]; omega
          · obtain rfl : m = 1440 := by omega
            go_wp2_with (at_builtin; refine wpList_app1 rfl (.tmp 67) (.tmp 68) tyI encI_ok rfl (1440 : Int) rfl _ rfl (by simp) hown2 rfl (by first | rfl | simp) (by first | omega | (simp; omega)) (by first | omega | (simp; omega)) hbr2.size ?_; intro A3 c3 w3 hown3 hb3 hs3 hf3; have hbel3 := hbr2.trans hb3)
            have HA := Lib.hid (show cutsA hs = p ++ [1440] by rw [← HC.out]; rfl)
            have hbw3 := hbr.trans (hbel3.mono hbr.size)
            have hown5 := hown.keep hbel3 (Nat.le_refl _)
            have rdC := hown3
            have h'' := (h'.keep (hbr.mono hb0.size)).keep (hbel3.mono (Nat.le_trans hb0.size hbr.size))
            generalize hPP : p ++ [(1440 : Int)] = P at *
            have hPl : p.length + 1 = P.length := by rw [← hPP]; simp
            rw [hPl]
            have hP2 : 2 ≤ P.length := by
              rcases p with _ | ⟨p0, pr⟩
              · have := cutsA_zero hs
                rw [HA.out, ← hPP] at this
                simp at this
              · simp at hPl; omega
            have hP3 : P.length ≤ 1441 := by omega
            clear hown hown2 hown3 hbr2 hbel3 HC hPP hPl hpl h' hs3 hf3
            go_wp2
            go_loopw [5, 11] (fun v i wr => ∃ (k : Nat) (A : Option Addr) (c : Nat) (o : List Iv) (Q : Int), k + 1 ≤ P.length ∧ i = .int .i64 k ∧ v = .slice A o.length c ∧ Hid (P[k]? = some Q) ∧ Hid (SInv (Sh hs (f, u)) o (86400 * d + 60 * Q)) ∧ (o.length : Int) ≤ 1441 * (d - f / 86400) + k ∧ Own 59 encIv 2 wr w1.heap.size A c o ∧ Below w1.heap.size w1 wr ∧ Own 3 encI 1 wr wo.heap.size A3 c3 P ∧ Rd encW 3 wr w.heap.size H hs) (fun _ i _ => P.length - (RowKit.intOf i).toNat)
            case atStart => exact ⟨0, A, c, o, 0, by omega, rfl, rfl, (by have := cutsA_zero hs; rw [HA.out] at this; exact this), (by unfold Hid; have := HI.out; simpa using this), by omega, hown5, hbw3, rdC, h''⟩
            case round =>
              obtain ⟨k, A, c, o, Q, hk, rfl, rfl, HQ, HI4, hol4, hown4, hbr4, rdC4, h4⟩ := hrel
              have hwz : w.heap.size ≤ wr.heap.size := Nat.le_trans hb0.size hbr4.size
              have c0 := (hbr4.cell (p := ⟨w.heap.size, 0, none⟩) (show w.heap.size < w1.heap.size by omega)).trans b0
              have c1 := (hbr4.cell (p := ⟨w.heap.size, 1, none⟩) (show w.heap.size < w1.heap.size by omega)).trans b1
              have hzw : w.heap.size < wr.heap.size := Nat.lt_of_lt_of_le hz0 hbr4.size
              by_cases hk1 : k + 1 < P.length
              · obtain ⟨Q2, hQ2⟩ : ∃ Q2, P[k + 1]? = some Q2 := ⟨_, List.getElem?_eq_getElem hk1⟩
                have hm1 : (cutsA hs)[k]? = some Q := by rw [HA.out]; exact HQ.out
                have hm2 : (cutsA hs)[k + 1]? = some Q2 := by rw [HA.out]; exact hQ2
                have r1 := cutsA_range (List.mem_of_getElem? hm1)
                have r2 := cutsA_range (List.mem_of_getElem? hm2)
                have hpq := (asc_between (cutsA_asc hs) hm1 hm2).1
                have HNo := Lib.hid (show hoursB hs (86400 * d + 60 * Q) = false ∨ 86400 * d + 60 * Q2 ≤ f ∨ u ≤ 86400 * d + 60 * Q → SInv (Sh hs (f, u)) o (86400 * d + 60 * Q2) from fun q => Sh.no hm1 hm2 HI4.out q)
                have HAdd := Lib.hid (show ∀ F U : Int, hoursB hs (86400 * d + 60 * Q) = true → f < 86400 * d + 60 * Q2 → 86400 * d + 60 * Q < u → F = (if 86400 * d + 60 * Q < f then f else 86400 * d + 60 * Q) → U = (if u < 86400 * d + 60 * Q2 then u else 86400 * d + 60 * Q2) → SInv (Sh hs (f, u)) (jn o (F, U)) (86400 * d + 60 * Q2) from fun F U a b c e g => Sh.add hm1 hm2 HI4.out a h1 hd0 h2 b c e g)
                obtain ⟨gc, off, x, hA3, hgc, hx, e0⟩ := (rdC4.rd encI_ok).i (i := k) (by omega)
                obtain ⟨gc', off', x', hA3', hgc', hx', e1⟩ := (rdC4.rd encI_ok).i (i := k + 1) hk1
                rw [HQ.out] at hx
                rw [hQ2] at hx'
                injection hx with hx
                injection hx' with hx'
                subst hx hx'
                rw [hA3] at hA3'
                injection hA3' with hA3'
                injection hA3' with hg1 hg2
                subst hg1 hg2
                have HQ2 := Lib.hid hQ2
                have i1 : (0 : Int) ≤ (k : Int) := by omega
                have i2 : (k : Int) < (P.length : Int) := by omega
                have i3 : (0 : Int) ≤ (k : Int) + 1 := by omega
                have i4 : (k : Int) + 1 < (P.length : Int) := by omega
                have i5 : IntKind.i64.wrap ((k : Int) + 1) = (k : Int) + 1 := IntWalk.i64_in _ (by omega)
                have i6 : ((k : Int) + 1).toNat = k + 1 := by omega
                have w1' : IntKind.i64.wrap (86400 * d) = 86400 * d := IntWalk.i64_in _ (by omega)
                have w2' : IntKind.i64.wrap (60 * Q) = 60 * Q := IntWalk.i64_in _ (by omega)
                have w3' : IntKind.i64.wrap (60 * Q2) = 60 * Q2 := IntWalk.i64_in _ (by omega)
                have w4' : IntKind.i64.wrap (86400 * d + 60 * Q) = 86400 * d + 60 * Q := IntWalk.i64_in _ (by omega)
                have w5' : IntKind.i64.wrap (86400 * d + 60 * Q2) = 86400 * d + 60 * Q2 := IntWalk.i64_in _ (by omega)
                subst hA3
                clear hm1 hm2 hQ2 b0 b1
                go_wp2_with fail
                go_quiet (fail)
                clear i3 i4 i5 i6 w1' w2' w3' w4' w5' e0 e1
                obtain ⟨F0, hF0⟩ : ∃ F0, 86400 * d + 60 * Q = F0 := ⟨_, rfl⟩
                obtain ⟨U0, hU0⟩ : ∃ U0, 86400 * d + 60 * Q2 = U0 := ⟨_, rfl⟩
                rw [hF0] at HNo HAdd ⊢
                rw [hU0] at HNo HAdd ⊢
                have HU0 := Lib.hid hU0
                have f1 : 0 ≤ F0 := by omega
                have f2 : F0 < U0 := by omega
                have f3 : U0 ≤ 100000000000 := by omega
                have C := Lib.hid (rInHours_any (t := F0) hc ((h4.keep (below_drewN (Below.refl _ _) nq)).more hwz) f1 (by omega) (by omega))
                clear hF0 hU0 HI4 HQ r1 r2 hpq
                cases hh : hoursB hs F0
                · have R := Lib.hid (show SInv (Sh hs (f, u)) o (86400 * d + 60 * Q2) by rw [HU0.out]; exact HNo.out (.inl hh))
                  have HB := Lib.hid hh
                  clear hh HNo HAdd
                  go_wp2_with (go_at_call 160; (refine C.out.mono ?_); rw [HB.out]; rintro e w5 ⟨rfl, hb5'⟩; have g0 := (hb5'.cell (p := ⟨w.heap.size, 0, none⟩) (show w.heap.size < wr.heap.size by omega)).trans c0; have g1 := (hb5'.cell (p := ⟨w.heap.size, 1, none⟩) (show w.heap.size < wr.heap.size by omega)).trans c1; have ho5 := (hown4.drewN nq).st hb5'; have hb5 := (below_drewN hbr4 nq).st hb5'; have HQ5 := Lib.hid ((rdC4.drewN nq).st hb5'); have H5 := Lib.hid ((h4.keep (below_drewN (Below.refl _ _) nq)).keep (hb5'.mono hwz)); clear hb5')
                  go_roundw
                  case rel => exact ⟨k + 1, A, c, o, Q2, by omega, by go_num, rfl, HQ2, R, by omega, ho5, hb5, HQ5.out, H5.out⟩
                  case measure => simp [RowKit.intOf]; omega
                · have HB := Lib.hid hh
                  by_cases hu0 : U0 ≤ f
                  · have R := Lib.hid (show SInv (Sh hs (f, u)) o (86400 * d + 60 * Q2) by rw [HU0.out]; exact HNo.out (.inr (.inl hu0)))
                    clear hh HNo HAdd
                    go_wp2_with (go_at_call 160; (refine C.out.mono ?_); rw [HB.out]; rintro e w5 ⟨rfl, hb5'⟩; have g0 := (hb5'.cell (p := ⟨w.heap.size, 0, none⟩) (show w.heap.size < wr.heap.size by omega)).trans c0; have g1 := (hb5'.cell (p := ⟨w.heap.size, 1, none⟩) (show w.heap.size < wr.heap.size by omega)).trans c1; have ho5 := (hown4.drewN nq).st hb5'; have hb5 := (below_drewN hbr4 nq).st hb5'; have HQ5 := Lib.hid ((rdC4.drewN nq).st hb5'); have H5 := Lib.hid ((h4.keep (below_drewN (Below.refl _ _) nq)).keep (hb5'.mono hwz)); clear hb5')
                    go_roundw
                    case rel => exact ⟨k + 1, A, c, o, Q2, by omega, by go_num, rfl, HQ2, R, by omega, ho5, hb5, HQ5.out, H5.out⟩
                    case measure => simp [RowKit.intOf]; omega
                  · by_cases hf0 : u ≤ F0
                    · have R := Lib.hid (show SInv (Sh hs (f, u)) o (86400 * d + 60 * Q2) by rw [HU0.out]; exact HNo.out (.inr (.inr hf0)))
                      clear hh HNo HAdd
                      go_wp2_with (go_at_call 160; (refine C.out.mono ?_); rw [HB.out]; rintro e w5 ⟨rfl, hb5'⟩; have g0 := (hb5'.cell (p := ⟨w.heap.size, 0, none⟩) (show w.heap.size < wr.heap.size by omega)).trans c0; have g1 := (hb5'.cell (p := ⟨w.heap.size, 1, none⟩) (show w.heap.size < wr.heap.size by omega)).trans c1; have ho5 := (hown4.drewN nq).st hb5'; have hb5 := (below_drewN hbr4 nq).st hb5'; have HQ5 := Lib.hid ((rdC4.drewN nq).st hb5'); have H5 := Lib.hid ((h4.keep (below_drewN (Below.refl _ _) nq)).keep (hb5'.mono hwz)); clear hb5')
                      go_roundw
                      case rel => exact ⟨k + 1, A, c, o, Q2, by omega, by go_num, rfl, HQ2, R, by omega, ho5, hb5, HQ5.out, H5.out⟩
                      case measure => simp [RowKit.intOf]; omega
                    · obtain ⟨F, hF⟩ : ∃ F, F = (if F0 < f then f else F0) := ⟨_, rfl⟩
                      obtain ⟨U, hU⟩ : ∃ U, U = (if u < U0 then u else U0) := ⟨_, rfl⟩
                      have R0 := HAdd.out F U hh (by omega) (by omega) hF hU
                      rw [← HU0.out] at R0
                      go_wp2_with fail
                      refine C.out.mono ?_
                      rw [HB.out]
                      rintro e w5 ⟨rfl, hb5'⟩
                      have g0 := (hb5'.cell (p := ⟨w.heap.size, 0, none⟩) (show w.heap.size < wr.heap.size by omega)).trans c0
                      have g1 := (hb5'.cell (p := ⟨w.heap.size, 1, none⟩) (show w.heap.size < wr.heap.size by omega)).trans c1
                      have ho5 := (hown4.drewN nq).st hb5'
                      have hb5 := (below_drewN hbr4 nq).st hb5'
                      have HQ5 := Lib.hid ((rdC4.drewN nq).st hb5')
                      have H5 := Lib.hid ((h4.keep (below_drewN (Below.refl _ _) nq)).keep (hb5'.mono hwz))
                      clear hb5' hown4 hbr4 rdC4 h4 hh HNo HAdd
                      by_cases hff : F0 < f
                      · rw [if_pos hff] at hF
                        by_cases huu : u < U0
                        · rw [if_pos huu] at hU
                          rw [hF, hU] at R0
                          clear hF hU
                          rcases snoc_cases o with rfl | ⟨q, s, rfl⟩
                          · rw [jn_nil] at R0
                            have R := Lib.hid R0
                            clear R0
                            go_wp2_with (at_builtin; refine wpList_app1b rfl (.tmp 143) (.tmp 147) tyIv encIv_ok rfl ((f, u) : Iv) rfl _ rfl (by simp) ho5 rfl (by first | rfl | simp) (by first | omega | (simp; omega)) (by first | omega | (simp; omega)) (by first | exact hb5.size | (have := hb5.size; omega)) ?_; intro A9 c9 w9 hown9 hb9 hs9 hf9; have hbel9 := hb5.trans hb9)
                            have HQ6 := Lib.hid (HQ5.out.keepB (w' := w9) fun gq hgq hlq => hf9 gq hlq fun gg hgg => HQ5.out.apart ho5 (by decide) hgq hgg)
                            have H6 := Lib.hid (H5.out.keep (hb9.mono hb0.size))
                            go_roundw
                            case rel => exact ⟨k + 1, A9, c9, _, Q2, by omega, by go_num, by simp, HQ2, R, by simp; omega, hown9, hbel9, HQ6.out, H6.out⟩
                            case measure => simp [RowKit.intOf]; omega
                          · have hql : (q.length : Int) ≤ 600000 := by simp at hol4; omega
                            have hol5 : (q.length : Int) + 1 ≤ 1441 * (d - f / 86400) + k := by simp at hol4; omega
                            rw [jn_snoc] at R0
                            obtain ⟨hA, h00, _⟩ | ⟨g, hA, hg1, hg2⟩ := ho5.form
                            · simp at h00
                            · subst hA
                              obtain ⟨s0, s1⟩ := s
                              have k1 := ho5.cells encIv_ok rfl (i := q.length) (x := (s0, s1)) (by simp) (j := 1) (u := .int .i64 s1) rfl
                              have k2 := ho5.frozen rfl (q.length * 2 + 1)
                              by_cases he : s1 = f
                              · rw [if_pos he] at R0
                                have R := Lib.hid R0
                                have he2 : (s1 == f) = true := by simp [he]
                                have hown6 := ho5.stored encIv_ok (g := g) (i := q.length) (j := 1) (x := (s0, s1)) (y := (s0, u)) (u := .int .i64 (u)) rfl (by simp) (by omega) rfl
                                have hset : (q ++ [(s0, s1)]).set q.length (s0, u) = q ++ [(s0, u)] := by simp
                                rw [hset] at hown6
                                have hb6 := hb5.setCell (p := ⟨g, q.length * 2 + 1, none⟩) hg1 (.int .i64 (u))
                                have HQ6 := Lib.hid (HQ5.out.keepB (w' := w5.setCell ⟨g, q.length * 2 + 1, none⟩ (.int .i64 (u))) fun gq hgq _ => Below.heap_setCell _ _ _ gq (HQ5.out.apart ho5 (by decide) hgq rfl))
                                have H6 := Lib.hid (H5.out.keep ((Below.refl w.heap.size w5).setCell (p := ⟨g, q.length * 2 + 1, none⟩) (Nat.le_trans hb0.size hg1) (.int .i64 (u))))
                                clear hset R0 he ho5 hb5
                                go_wp2_with fail
                                go_roundw
                                case rel => exact ⟨k + 1, _, c, _, Q2, by omega, by go_num, by simp, HQ2, R, by simp; omega, hown6, hb6, HQ6.out, H6.out⟩
                                case measure => simp [RowKit.intOf]; omega
                              · rw [if_neg he] at R0
                                have R := Lib.hid R0
                                have he2 : (s1 == f) = false := by simp [he]
                                clear R0 he
                                go_wp2_with (at_builtin; refine wpList_app1b rfl (.tmp 143) (.tmp 147) tyIv encIv_ok rfl ((f, u) : Iv) rfl _ rfl (by simp) ho5 rfl (by first | rfl | simp) (by first | omega | (simp; omega)) (by first | omega | (simp; omega)) (by first | exact hb5.size | (have := hb5.size; omega)) ?_; intro A9 c9 w9 hown9 hb9 hs9 hf9; have hbel9 := hb5.trans hb9)
                                have HQ6 := Lib.hid (HQ5.out.keepB (w' := w9) fun gq hgq hlq => hf9 gq hlq fun gg hgg => HQ5.out.apart ho5 (by decide) hgq hgg)
                                have H6 := Lib.hid (H5.out.keep (hb9.mono hb0.size))
                                go_roundw
                                case rel => exact ⟨k + 1, A9, c9, _, Q2, by omega, by go_num, by simp, HQ2, R, by simp; omega, hown9, hbel9, HQ6.out, H6.out⟩
                                case measure => simp [RowKit.intOf]; omega
                        · rw [if_neg huu] at hU
                          rw [hF, hU] at R0
                          clear hF hU
                          rcases snoc_cases o with rfl | ⟨q, s, rfl⟩
                          · rw [jn_nil] at R0
                            have R := Lib.hid R0
                            clear R0
                            go_wp2_with (at_builtin; refine wpList_app1b rfl (.tmp 143) (.tmp 147) tyIv encIv_ok rfl ((f, U0) : Iv) rfl _ rfl (by simp) ho5 rfl (by first | rfl | simp) (by first | omega | (simp; omega)) (by first | omega | (simp; omega)) (by first | exact hb5.size | (have := hb5.size; omega)) ?_; intro A9 c9 w9 hown9 hb9 hs9 hf9; have hbel9 := hb5.trans hb9)
                            have HQ6 := Lib.hid (HQ5.out.keepB (w' := w9) fun gq hgq hlq => hf9 gq hlq fun gg hgg => HQ5.out.apart ho5 (by decide) hgq hgg)
                            have H6 := Lib.hid (H5.out.keep (hb9.mono hb0.size))
                            go_roundw
                            case rel => exact ⟨k + 1, A9, c9, _, Q2, by omega, by go_num, by simp, HQ2, R, by simp; omega, hown9, hbel9, HQ6.out, H6.out⟩
                            case measure => simp [RowKit.intOf]; omega
                          · have hql : (q.length : Int) ≤ 600000 := by simp at hol4; omega
                            have hol5 : (q.length : Int) + 1 ≤ 1441 * (d - f / 86400) + k := by simp at hol4; omega
                            rw [jn_snoc] at R0
                            obtain ⟨hA, h00, _⟩ | ⟨g, hA, hg1, hg2⟩ := ho5.form
                            · simp at h00
                            · subst hA
                              obtain ⟨s0, s1⟩ := s
                              have k1 := ho5.cells encIv_ok rfl (i := q.length) (x := (s0, s1)) (by simp) (j := 1) (u := .int .i64 s1) rfl
                              have k2 := ho5.frozen rfl (q.length * 2 + 1)
                              by_cases he : s1 = f
                              · rw [if_pos he] at R0
                                have R := Lib.hid R0
                                have he2 : (s1 == f) = true := by simp [he]
                                have hown6 := ho5.stored encIv_ok (g := g) (i := q.length) (j := 1) (x := (s0, s1)) (y := (s0, U0)) (u := .int .i64 (U0)) rfl (by simp) (by omega) rfl
                                have hset : (q ++ [(s0, s1)]).set q.length (s0, U0) = q ++ [(s0, U0)] := by simp
                                rw [hset] at hown6
                                have hb6 := hb5.setCell (p := ⟨g, q.length * 2 + 1, none⟩) hg1 (.int .i64 (U0))
                                have HQ6 := Lib.hid (HQ5.out.keepB (w' := w5.setCell ⟨g, q.length * 2 + 1, none⟩ (.int .i64 (U0))) fun gq hgq _ => Below.heap_setCell _ _ _ gq (HQ5.out.apart ho5 (by decide) hgq rfl))
                                have H6 := Lib.hid (H5.out.keep ((Below.refl w.heap.size w5).setCell (p := ⟨g, q.length * 2 + 1, none⟩) (Nat.le_trans hb0.size hg1) (.int .i64 (U0))))
                                clear hset R0 he ho5 hb5
                                go_wp2_with fail
                                go_roundw
                                case rel => exact ⟨k + 1, _, c, _, Q2, by omega, by go_num, by simp, HQ2, R, by simp; omega, hown6, hb6, HQ6.out, H6.out⟩
                                case measure => simp [RowKit.intOf]; omega
                              · rw [if_neg he] at R0
                                have R := Lib.hid R0
                                have he2 : (s1 == f) = false := by simp [he]
                                clear R0 he
                                go_wp2_with (at_builtin; refine wpList_app1b rfl (.tmp 143) (.tmp 147) tyIv encIv_ok rfl ((f, U0) : Iv) rfl _ rfl (by simp) ho5 rfl (by first | rfl | simp) (by first | omega | (simp; omega)) (by first | omega | (simp; omega)) (by first | exact hb5.size | (have := hb5.size; omega)) ?_; intro A9 c9 w9 hown9 hb9 hs9 hf9; have hbel9 := hb5.trans hb9)
                                have HQ6 := Lib.hid (HQ5.out.keepB (w' := w9) fun gq hgq hlq => hf9 gq hlq fun gg hgg => HQ5.out.apart ho5 (by decide) hgq hgg)
                                have H6 := Lib.hid (H5.out.keep (hb9.mono hb0.size))
                                go_roundw
                                case rel => exact ⟨k + 1, A9, c9, _, Q2, by omega, by go_num, by simp, HQ2, R, by simp; omega, hown9, hbel9, HQ6.out, H6.out⟩
                                case measure => simp [RowKit.intOf]; omega
                      · rw [if_neg hff] at hF
                        by_cases huu : u < U0
                        · rw [if_pos huu] at hU
                          rw [hF, hU] at R0
                          clear hF hU
                          rcases snoc_cases o with rfl | ⟨q, s, rfl⟩
                          · rw [jn_nil] at R0
                            have R := Lib.hid R0
                            clear R0
                            go_wp2_with (at_builtin; refine wpList_app1b rfl (.tmp 143) (.tmp 147) tyIv encIv_ok rfl ((F0, u) : Iv) rfl _ rfl (by simp) ho5 rfl (by first | rfl | simp) (by first | omega | (simp; omega)) (by first | omega | (simp; omega)) (by first | exact hb5.size | (have := hb5.size; omega)) ?_; intro A9 c9 w9 hown9 hb9 hs9 hf9; have hbel9 := hb5.trans hb9)
                            have HQ6 := Lib.hid (HQ5.out.keepB (w' := w9) fun gq hgq hlq => hf9 gq hlq fun gg hgg => HQ5.out.apart ho5 (by decide) hgq hgg)
                            have H6 := Lib.hid (H5.out.keep (hb9.mono hb0.size))
                            go_roundw
                            case rel => exact ⟨k + 1, A9, c9, _, Q2, by omega, by go_num, by simp, HQ2, R, by simp; omega, hown9, hbel9, HQ6.out, H6.out⟩
                            case measure => simp [RowKit.intOf]; omega
                          · have hql : (q.length : Int) ≤ 600000 := by simp at hol4; omega
                            have hol5 : (q.length : Int) + 1 ≤ 1441 * (d - f / 86400) + k := by simp at hol4; omega
                            rw [jn_snoc] at R0
                            obtain ⟨hA, h00, _⟩ | ⟨g, hA, hg1, hg2⟩ := ho5.form
                            · simp at h00
                            · subst hA
                              obtain ⟨s0, s1⟩ := s
                              have k1 := ho5.cells encIv_ok rfl (i := q.length) (x := (s0, s1)) (by simp) (j := 1) (u := .int .i64 s1) rfl
                              have k2 := ho5.frozen rfl (q.length * 2 + 1)
                              by_cases he : s1 = F0
                              · rw [if_pos he] at R0
                                have R := Lib.hid R0
                                have he2 : (s1 == F0) = true := by simp [he]
                                have hown6 := ho5.stored encIv_ok (g := g) (i := q.length) (j := 1) (x := (s0, s1)) (y := (s0, u)) (u := .int .i64 (u)) rfl (by simp) (by omega) rfl
                                have hset : (q ++ [(s0, s1)]).set q.length (s0, u) = q ++ [(s0, u)] := by simp
                                rw [hset] at hown6
                                have hb6 := hb5.setCell (p := ⟨g, q.length * 2 + 1, none⟩) hg1 (.int .i64 (u))
                                have HQ6 := Lib.hid (HQ5.out.keepB (w' := w5.setCell ⟨g, q.length * 2 + 1, none⟩ (.int .i64 (u))) fun gq hgq _ => Below.heap_setCell _ _ _ gq (HQ5.out.apart ho5 (by decide) hgq rfl))
                                have H6 := Lib.hid (H5.out.keep ((Below.refl w.heap.size w5).setCell (p := ⟨g, q.length * 2 + 1, none⟩) (Nat.le_trans hb0.size hg1) (.int .i64 (u))))
                                clear hset R0 he ho5 hb5
                                go_wp2_with fail
                                go_roundw
                                case rel => exact ⟨k + 1, _, c, _, Q2, by omega, by go_num, by simp, HQ2, R, by simp; omega, hown6, hb6, HQ6.out, H6.out⟩
                                case measure => simp [RowKit.intOf]; omega
                              · rw [if_neg he] at R0
                                have R := Lib.hid R0
                                have he2 : (s1 == F0) = false := by simp [he]
                                clear R0 he
                                go_wp2_with (at_builtin; refine wpList_app1b rfl (.tmp 143) (.tmp 147) tyIv encIv_ok rfl ((F0, u) : Iv) rfl _ rfl (by simp) ho5 rfl (by first | rfl | simp) (by first | omega | (simp; omega)) (by first | omega | (simp; omega)) (by first | exact hb5.size | (have := hb5.size; omega)) ?_; intro A9 c9 w9 hown9 hb9 hs9 hf9; have hbel9 := hb5.trans hb9)
                                have HQ6 := Lib.hid (HQ5.out.keepB (w' := w9) fun gq hgq hlq => hf9 gq hlq fun gg hgg => HQ5.out.apart ho5 (by decide) hgq hgg)
                                have H6 := Lib.hid (H5.out.keep (hb9.mono hb0.size))
                                go_roundw
                                case rel => exact ⟨k + 1, A9, c9, _, Q2, by omega, by go_num, by simp, HQ2, R, by simp; omega, hown9, hbel9, HQ6.out, H6.out⟩
                                case measure => simp [RowKit.intOf]; omega
                        · rw [if_neg huu] at hU
                          rw [hF, hU] at R0
                          clear hF hU
                          rcases snoc_cases o with rfl | ⟨q, s, rfl⟩
                          · rw [jn_nil] at R0
                            have R := Lib.hid R0
                            clear R0
                            go_wp2_with (at_builtin; refine wpList_app1b rfl (.tmp 143) (.tmp 147) tyIv encIv_ok rfl ((F0, U0) : Iv) rfl _ rfl (by simp) ho5 rfl (by first | rfl | simp) (by first | omega | (simp; omega)) (by first | omega | (simp; omega)) (by first | exact hb5.size | (have := hb5.size; omega)) ?_; intro A9 c9 w9 hown9 hb9 hs9 hf9; have hbel9 := hb5.trans hb9)
                            have HQ6 := Lib.hid (HQ5.out.keepB (w' := w9) fun gq hgq hlq => hf9 gq hlq fun gg hgg => HQ5.out.apart ho5 (by decide) hgq hgg)
                            have H6 := Lib.hid (H5.out.keep (hb9.mono hb0.size))
                            go_roundw
                            case rel => exact ⟨k + 1, A9, c9, _, Q2, by omega, by go_num, by simp, HQ2, R, by simp; omega, hown9, hbel9, HQ6.out, H6.out⟩
                            case measure => simp [RowKit.intOf]; omega
                          · have hql : (q.length : Int) ≤ 600000 := by simp at hol4; omega
                            have hol5 : (q.length : Int) + 1 ≤ 1441 * (d - f / 86400) + k := by simp at hol4; omega
                            rw [jn_snoc] at R0
                            obtain ⟨hA, h00, _⟩ | ⟨g, hA, hg1, hg2⟩ := ho5.form
                            · simp at h00
                            · subst hA
                              obtain ⟨s0, s1⟩ := s
                              have k1 := ho5.cells encIv_ok rfl (i := q.length) (x := (s0, s1)) (by simp) (j := 1) (u := .int .i64 s1) rfl
                              have k2 := ho5.frozen rfl (q.length * 2 + 1)
                              by_cases he : s1 = F0
                              · rw [if_pos he] at R0
                                have R := Lib.hid R0
                                have he2 : (s1 == F0) = true := by simp [he]
                                have hown6 := ho5.stored encIv_ok (g := g) (i := q.length) (j := 1) (x := (s0, s1)) (y := (s0, U0)) (u := .int .i64 (U0)) rfl (by simp) (by omega) rfl
                                have hset : (q ++ [(s0, s1)]).set q.length (s0, U0) = q ++ [(s0, U0)] := by simp
                                rw [hset] at hown6
                                have hb6 := hb5.setCell (p := ⟨g, q.length * 2 + 1, none⟩) hg1 (.int .i64 (U0))
                                have HQ6 := Lib.hid (HQ5.out.keepB (w' := w5.setCell ⟨g, q.length * 2 + 1, none⟩ (.int .i64 (U0))) fun gq hgq _ => Below.heap_setCell _ _ _ gq (HQ5.out.apart ho5 (by decide) hgq rfl))
                                have H6 := Lib.hid (H5.out.keep ((Below.refl w.heap.size w5).setCell (p := ⟨g, q.length * 2 + 1, none⟩) (Nat.le_trans hb0.size hg1) (.int .i64 (U0))))
                                clear hset R0 he ho5 hb5
                                go_wp2_with fail
                                go_roundw
                                case rel => exact ⟨k + 1, _, c, _, Q2, by omega, by go_num, by simp, HQ2, R, by simp; omega, hown6, hb6, HQ6.out, H6.out⟩
                                case measure => simp [RowKit.intOf]; omega
                              · rw [if_neg he] at R0
                                have R := Lib.hid R0
                                have he2 : (s1 == F0) = false := by simp [he]
                                clear R0 he
                                go_wp2_with (at_builtin; refine wpList_app1b rfl (.tmp 143) (.tmp 147) tyIv encIv_ok rfl ((F0, U0) : Iv) rfl _ rfl (by simp) ho5 rfl (by first | rfl | simp) (by first | omega | (simp; omega)) (by first | omega | (simp; omega)) (by first | exact hb5.size | (have := hb5.size; omega)) ?_; intro A9 c9 w9 hown9 hb9 hs9 hf9; have hbel9 := hb5.trans hb9)
                                have HQ6 := Lib.hid (HQ5.out.keepB (w' := w9) fun gq hgq hlq => hf9 gq hlq fun gg hgg => HQ5.out.apart ho5 (by decide) hgq hgg)
                                have H6 := Lib.hid (H5.out.keep (hb9.mono hb0.size))
                                go_roundw
                                case rel => exact ⟨k + 1, A9, c9, _, Q2, by omega, by go_num, by simp, HQ2, R, by simp; omega, hown9, hbel9, HQ6.out, H6.out⟩
                                case measure => simp [RowKit.intOf]; omega
              · have hk2 : k = P.length - 1 := by omega
                have hQ : Q = 1440 := by
                  have e1 := cutsA_last hs
                  rw [HA.out, ← hk2, HQ.out] at e1
                  injection e1
                subst hQ
                have R := Lib.hid (show SInv (Sh hs (f, u)) o (86400 * (d + 1)) by have := HI4.out; rwa [show 86400 * d + 60 * 1440 = 86400 * (d + 1) by omega] at this)
                have hkk : ((k : Int) + 1 < (P.length : Int)) = False := by simp; omega
                clear hk2 HQ HI4 b0 b1
                go_wp2
                go_roundw
                case rel => exact ⟨d + 1, A, c, o, by omega, by omega, rfl, rfl, R, by omega, hown4, hbr4⟩
                case measure => simp [RowKit.intOf]; omega
      · obtain rfl : d = (u - 1) / 86400 + 1 := by omega
        have hS := Sh.finish HI.out (by simp only; omega)
        have H1 := Lib.hid hS.1
        have H2 := Lib.hid hS.2
        clear hS
        go_wp2
        go_ret
        exact ⟨A, c, o, rfl, H1.out, H2.out, hown.rd encIv_ok, bel⟩
end Go.Proofs.YtcpfiiapfggmpaaGreat
