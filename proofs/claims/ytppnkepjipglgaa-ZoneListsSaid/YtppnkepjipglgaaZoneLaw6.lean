/- The law ZoneLists, walked. -/
import Derived.Test.YtppnkepjipglgaaZoneAwake
namespace Go.Proofs.Ytppnkepjipglgaa
open Go.RowKit Go.Lib

theorem found_small {l : List Zn} (h : ∀ z ∈ l, small z) (nm : ByteArray) : small ((findZ l nm).getD zeroZ) := by
  cases hf : findZ l nm with
  | none => exact ⟨by simp [zeroZ], by simp [zeroZ]⟩
  | some z => exact h z (List.mem_of_find?_eq_some hf)
theorem zc_small {a b : Zn} (h : zc a = zc b) (hb : small b) : small a := by
  simp only [zc, Prod.mk.injEq] at h
  unfold small
  rw [h.2.1, h.2.2.1]
  exact hb

set_option maxRecDepth 100000 in
set_option maxHeartbeats 16000000 in
theorem zoneLists_walk {A : Option Addr} {c : Nat} {l : List Zn} {nm : ByteArray} {w : World} (h : Rd encZ 7 w w.heap.size A l) (hz : ZsOk w l) (hlen : l.length ≤ 9223372036854775807) (hcap : l.length ≤ c) (hcm : c ≤ 9223372036854775807) :
    Calls Try.prog 4 #[.slice A l.length c, .string nm] w fun e w' => e = .returned (.bool true) ∧ Below w.heap.size w w' := by
  by_cases hbig : 1100 < l.length
  · clear h hz
    go_enter Try.func4, Try.ntmps4
    go_wp2_with fail
    refine (awake_any w).mono ?_
    rintro e w3 ⟨rfl, hbn⟩
    go_wp2_with fail
    go_ret
    exact ⟨rfl, hbn⟩
  · go_enter Try.func4, Try.ntmps4
    go_wp2_with fail
    go_loopw [17] (fun i wr => ∃ k : Nat, k ≤ l.length ∧ i = .int .i64 k ∧ Hid (∀ y ∈ l.take k, greatB y = false) ∧ Below w.heap.size w wr) (fun i _ => l.length - (intOf i).toNat)
    case atStart => exact ⟨0, Nat.zero_le _, rfl, (by unfold Hid; simp), Below.refl _ _⟩
    case round =>
      obtain ⟨k, hk, rfl, HN, hbr⟩ := hrel
      by_cases hi : k < l.length
      · obtain ⟨b, off, z, rfl, hb, hx, d0, d1, d2, d3, d4, d5, d6⟩ := (h.keep hbr).z hi
        have hbr2 := hbr.al (.cells #[.string z.name, .slice z.hA z.hs.length z.hc, .slice z.sA z.ss.length z.sc, .int .i64 z.grace, .int .i64 z.free, .int .i64 z.dayMax, .int .i64 z.maxStay] 25)
        have CG := fun W => great_any z W
        clear h hz
        cases hg : greatB z
        · rw [hg] at CG
          have R := Lib.hid (all_succ' hx HN.out hg)
          clear hx hg
          go_wp2_with fail
          refine (CG _).mono ?_
          rintro e w2 ⟨rfl, hbn⟩
          have hb3 := hbr2.st hbn
          go_wp2_with fail
          go_roundw
          case rel => exact ⟨k + 1, by omega, by go_num, R, hb3⟩
          case measure => simp [intOf]; omega
        · rw [hg] at CG
          clear hx hg
          go_wp2_with fail
          refine (CG _).mono ?_
          rintro e w2 ⟨rfl, hbn⟩
          have hb3 := hbr2.st hbn
          go_wp2_with fail
          refine (awake_any w2).mono ?_
          rintro e w3 ⟨rfl, hbn⟩
          go_wp2_with fail
          go_ret
          exact ⟨rfl, hb3.st hbn⟩
      · obtain rfl : k = l.length := by omega
        have hsm : ∀ z ∈ l, small z := fun z hzl => greatB_no (HN.out z (by rw [List.take_length]; exact hzl))
        have HS := Lib.hid hsm
        have HF := Lib.hid (found_small hsm nm)
        have rd := h.st hbr
        have zs := hz.st hbr
        clear h hz hsm
        have CF := fun (W : World) (hW : Below wr.heap.size wr W) => zfind_any c (nm := nm) (rd.st hW) (zs.st hW) HS.out hlen
        have CR := fun (W : World) (hW : Below wr.heap.size wr W) => rfind_any c (nm := nm) (rd.st hW) (zs.st hW) hlen
        have CA := fun (W : World) (hW : Below wr.heap.size wr W) => zall_any (rd.st hW) (zs.st hW) HS.out hlen hcap hcm
        have CB := fun (W : World) (hW : Below wr.heap.size wr W) => rall_any c (rd.st hW) (zs.st hW) hlen
        clear rd zs
        unfold FindR at CF CR
        generalize (findZ l nm).isSome = q at *
        generalize (findZ l nm).getD zeroZ = zz at *
        generalize checkAllE l = r at *
        have bw := Below.refl wr.heap.size wr
        go_wp2_with fail
        refine (CF _ bw).mono ?_
        rintro e w2 ⟨⟨na, Aa, ca, ha, Sa, da, sa, ga, fa, ma, ya⟩, rfl, hza, hoa, hbn⟩
        have bw := bw.st hbn
        have HZA := Lib.hid hza
        have bA := Blk.new w2 #[.string na, .slice Aa ha.length ca, .slice Sa sa.length da, .int .i64 ga, .int .i64 fa, .int .i64 ma, .int .i64 ya] 25
        have hx2 := (Below.refl _ w2).al (.cells #[.string na, .slice Aa ha.length ca, .slice Sa sa.length da, .int .i64 ga, .int .i64 fa, .int .i64 ma, .int .i64 ya] 25)
        have hoa := hoa.st hx2
        have bw := bw.al (.cells #[.string na, .slice Aa ha.length ca, .slice Sa sa.length da, .int .i64 ga, .int .i64 fa, .int .i64 ma, .int .i64 ya] 25)
        clear hza hbn hx2
        go_wp2_with fail
        obtain ⟨Ba, hBa⟩ : ∃ Ba, w2.heap.size = Ba := ⟨_, rfl⟩
        rw [hBa] at bA
        try rw [hBa]
        obtain ⟨w3, hw3⟩ : ∃ w3, w2.alloc (.cells #[.string na, .slice Aa ha.length ca, .slice Sa sa.length da, .int .i64 ga, .int .i64 fa, .int .i64 ma, .int .i64 ya] 25) = w3 := ⟨_, rfl⟩
        rw [hw3] at bA hoa bw ⊢
        clear hw3 hBa
        refine (CR _ bw).mono ?_
        rintro e w4 ⟨⟨nb, Ab, cb, hb, Sb, db, sb, gb, fb, mb, yb⟩, rfl, hzb, hob, hbn⟩
        have bw := bw.st hbn
        have HZB := Lib.hid hzb
        have bA := bA.below hbn bA.lt
        have hoa := hoa.st hbn
        have bB := Blk.new w4 #[.string nb, .slice Ab hb.length cb, .slice Sb sb.length db, .int .i64 gb, .int .i64 fb, .int .i64 mb, .int .i64 yb] 25
        have hx2 := (Below.refl _ w4).al (.cells #[.string nb, .slice Ab hb.length cb, .slice Sb sb.length db, .int .i64 gb, .int .i64 fb, .int .i64 mb, .int .i64 yb] 25)
        have hoa := hoa.st hx2
        have hob := hob.st hx2
        have bA := bA.alloc (.cells #[.string nb, .slice Ab hb.length cb, .slice Sb sb.length db, .int .i64 gb, .int .i64 fb, .int .i64 mb, .int .i64 yb] 25)
        have bw := bw.al (.cells #[.string nb, .slice Ab hb.length cb, .slice Sb sb.length db, .int .i64 gb, .int .i64 fb, .int .i64 mb, .int .i64 yb] 25)
        clear hzb hbn hx2
        go_wp2_with fail
        obtain ⟨Bb, hBb⟩ : ∃ Bb, w4.heap.size = Bb := ⟨_, rfl⟩
        rw [hBb] at bB
        try rw [hBb]
        obtain ⟨w5, hw5⟩ : ∃ w5, w4.alloc (.cells #[.string nb, .slice Ab hb.length cb, .slice Sb sb.length db, .int .i64 gb, .int .i64 fb, .int .i64 mb, .int .i64 yb] 25) = w5 := ⟨_, rfl⟩
        rw [hw5] at bA bB hoa hob bw ⊢
        clear hw5 hBb
        refine (CA _ bw).mono ?_
        rintro e w6 ⟨rfl, hbn⟩
        have bw := bw.st hbn
        have bA := bA.below hbn bA.lt
        have bB := bB.below hbn bB.lt
        have hoa := hoa.st hbn
        have hob := hob.st hbn
        clear hbn
        go_wp2_with fail
        refine (CB _ bw).mono ?_
        rintro e w7 ⟨rfl, hbn⟩
        have bw := bw.st hbn
        have bA := bA.below hbn bA.lt
        have bB := bB.below hbn bB.lt
        have hoa := hoa.st hbn
        have hob := hob.st hbn
        have a0 : World.cell? w7 ⟨Ba, 0, none⟩ = some (.string na) := bA.cell 0 rfl; have a1 : World.cell? w7 ⟨Ba, 1, none⟩ = some (.slice Aa ha.length ca) := bA.cell 1 rfl; have a2 : World.cell? w7 ⟨Ba, 2, none⟩ = some (.slice Sa sa.length da) := bA.cell 2 rfl; have a3 : World.cell? w7 ⟨Ba, 3, none⟩ = some (.int .i64 ga) := bA.cell 3 rfl; have a4 : World.cell? w7 ⟨Ba, 4, none⟩ = some (.int .i64 fa) := bA.cell 4 rfl; have a5 : World.cell? w7 ⟨Ba, 5, none⟩ = some (.int .i64 ma) := bA.cell 5 rfl; have a6 : World.cell? w7 ⟨Ba, 6, none⟩ = some (.int .i64 ya) := bA.cell 6 rfl
        have b0 : World.cell? w7 ⟨Bb, 0, none⟩ = some (.string nb) := bB.cell 0 rfl; have b1 : World.cell? w7 ⟨Bb, 1, none⟩ = some (.slice Ab hb.length cb) := bB.cell 1 rfl; have b2 : World.cell? w7 ⟨Bb, 2, none⟩ = some (.slice Sb sb.length db) := bB.cell 2 rfl; have b3 : World.cell? w7 ⟨Bb, 3, none⟩ = some (.int .i64 gb) := bB.cell 3 rfl; have b4 : World.cell? w7 ⟨Bb, 4, none⟩ = some (.int .i64 fb) := bB.cell 4 rfl; have b5 : World.cell? w7 ⟨Bb, 5, none⟩ = some (.int .i64 mb) := bB.cell 5 rfl; have b6 : World.cell? w7 ⟨Bb, 6, none⟩ = some (.int .i64 yb) := bB.cell 6 rfl
        have hqq : (q == q) = true := by simp
        have hrr : (r == r) = true := by simp
        have hs1 := zc_small HZA.out HF.out
        have hs2 := hs1.2
        have hs1 := hs1.1
        simp only at hs1 hs2
        have C := Lib.hid (rsameZ_true _ _ hoa hob (HZA.out.trans HZB.out.symm) (by simp only; omega) (by simp only; omega))
        clear hbn hoa hob
        go_wp2_with fail
        refine C.out.mono ?_
        rintro e w8 ⟨rfl, hbn⟩
        have bw := bw.st hbn
        go_wp2_with fail
        refine (awake_any _).mono ?_
        rintro e w9 ⟨rfl, hbn⟩
        have bw := bw.st hbn
        go_wp2_with fail
        go_ret
        exact ⟨rfl, hbr.st bw⟩
end Go.Proofs.Ytppnkepjipglgaa
