/- The law PriceSorts, walked. -/
import Derived.Test.YtcpfiiapfggmpaaPrcAwake
import Derived.Test.YtcpfiiapfggmpaaPrcRSort
import Derived.Test.YtcpfiiapfggmpaaPrcSame
set_option linter.unusedSimpArgs false
namespace Go.Proofs.Ytcpfiiapfggmpaa
open Go.RowKit Go.Lib

set_option maxRecDepth 100000 in
set_option maxHeartbeats 8000000 in
theorem priceSorts_walk {A : Option Addr} (c : Nat) {l : List Cg} {w : World} (h : Rd encCg 7 w w.heap.size A l) (hr : ∀ x ∈ l, Rd encLn 2 w w.heap.size x.lA x.c.lns ∧ x.c.lns.length ≤ 9223372036854775807) (hl : l.length ≤ 9223372036854775807) :
    Calls Try.prog 4 #[.slice A l.length c] w fun e w' => e = .returned (.bool true) ∧ Below w.heap.size w w' := by
  have HR := Lib.hid h
  have HL := Lib.hid hr
  clear h hr
  by_cases hq : 40 < l.length
  · have hq2 : (40 : Int) < (l.length : Int) := by omega
    go_enter Try.func4, Try.ntmps4
    go_wp2_with fail
    refine (awake_any _).mono ?_
    rintro e w2 ⟨rfl, hbn⟩
    go_wp2_with fail
    go_ret
    exact ⟨rfl, hbn⟩
  · have hq2 : ¬ (40 : Int) < (l.length : Int) := by omega
    go_enter Try.func4, Try.ntmps4
    go_wp2_with fail
    go_loopw [3] (fun i wr => ∃ k : Nat, k ≤ l.length ∧ i = .int .i64 k ∧ Hid (∀ x ∈ l.take k, x.c.lns.length ≤ 20) ∧ wr = w) (fun i _ => l.length - (RowKit.intOf i).toNat)
    case atStart => exact ⟨0, Nat.zero_le _, rfl, (by unfold Hid; simp), rfl⟩
    case round =>
      obtain ⟨k, hk, rfl, HQ, hw⟩ := hrel
      have hw := hw.symm
      subst hw
      have k1 : (0 : Int) ≤ (k : Int) := by omega
      by_cases hi : k < l.length
      · have k2 : (k : Int) < (l.length : Int) := by omega
        obtain ⟨b, off, x, rfl, hb, hx, d0, d1, d2, d3, d4, d5, d6⟩ := HR.out.cg hi
        have HK := Lib.hid hi
        have HX := Lib.hid hx
        have hxl := (HL.out x (List.mem_of_getElem? hx)).2
        clear hx hi hb d0 d1 d2 d3 d4 d6
        by_cases h20 : 20 < x.c.lns.length
        · have h20i : (20 : Int) < (x.c.lns.length : Int) := by omega
          go_wp2_with fail
          refine (awake_any _).mono ?_
          rintro e w2 ⟨rfl, hbn⟩
          go_wp2_with fail
          go_ret
          exact ⟨rfl, hbn⟩
        · have h20i : ¬ (20 : Int) < (x.c.lns.length : Int) := by omega
          have R : Hid (∀ y ∈ l.take (k + 1), y.c.lns.length ≤ 20) := Lib.hid (by
            intro y hy
            rw [take_snoc HX.out] at hy
            rcases List.mem_append.1 hy with q | q
            · exact HQ.out y q
            · rw [List.mem_singleton] at q; subst q; omega)
          go_wp2_with fail
          go_roundw
          case rel => exact ⟨k + 1, HK.out, by go_num, R, by first | rfl | trivial⟩
          case measure => have := HK.out; simp [RowKit.intOf]; omega
      · obtain rfl : k = l.length := by omega
        have HM : Hid (∀ x ∈ l, x.c.lns.length ≤ 20) := Lib.hid (by have := HQ.out; rwa [List.take_length] at this)
        have HG : Hid (CgRs w l) := Lib.hid (fun x hx => ⟨(HL.out x hx).1, by have := HM.out x hx; omega⟩)
        have hl40 : l.length ≤ 40 := by omega
        have C1 := Lib.hid (ptot_any c HR.out (by omega))
        have C2 := Lib.hid (fun (X : World) (hX : Below w.heap.size w X) => rtotp_any c (HR.out.st hX) (by omega))
        have C3 := Lib.hid (fun (X : World) (hX : Below w.heap.size w X) => psort_any c (HR.out.st hX) (HG.out.st hX) (by omega))
        have C4 := Lib.hid (fun (X : World) (hX : Below w.heap.size w X) => rsort_any c (HR.out.st hX) (HG.out.st hX) (by omega))
        generalize sumV (ctL (cvs l)) = sv at *
        generalize sumE (ctL (cvs l)) = se at *
        clear HQ
        go_wp2_with fail
        refine C1.out.mono ?_
        rintro e W1 ⟨rfl, bW⟩
        go_wp2_with fail
        refine (C2.out _ bW).mono ?_
        rintro e W2 ⟨rfl, hbn⟩
        have bW := bW.st hbn
        clear hbn
        go_wp2_with fail
        refine (C3.out _ bW).mono ?_
        rintro e W3 ⟨A3, c3, r3, rfl, hl3, o3, t3, m3, hbn⟩
        have bW := bW.st hbn
        clear hbn
        go_wp2_with fail
        refine (C4.out _ bW).mono ?_
        rintro e W4 ⟨A4, c4, r4, rfl, hl4, o4, t4, m4, hbn⟩
        have bW := bW.st hbn
        have he : cvs r3 = cvs r4 := StabOf.unique t3 t4
        have hmm : ∀ (r : List Cg), SortC (cvs l) (cvs r) → ∀ x ∈ r, x.c.lns.length ≤ 1000 := by
          intro r t x hx
          have hp : x.c ∈ cvs l := (StabOf.perm t).subset (List.mem_map.2 ⟨x, hx, rfl⟩)
          obtain ⟨y, hy, e⟩ := List.mem_map.1 hp
          have := HM.out y hy
          rw [← e]; omega
        have CS := rsame_true (A := A3) (A2 := A4) c3 c4 (l := r3) (m := r4) ((o3.rd encCg_ok).st hbn) (o4.rd encCg_ok) ((m3.rs (hmm r3 t3)).st hbn) (m4.rs (hmm r4 t4)) he (by have := hl3.out; omega)
        rw [hl3.out, hl4.out] at CS
        have CS := Lib.hid CS
        clear hbn o3 o4 t3 t4 m3 m4 he hmm hl3 hl4 C1 C2 C3 C4
        go_wp2_with fail
        refine CS.out.mono ?_
        rintro e W5 ⟨rfl, hbn⟩
        have bW := bW.st hbn
        clear hbn
        go_wp2_with fail
        refine (awake_any _).mono ?_
        rintro e W6 ⟨rfl, hbn⟩
        have bW := bW.st hbn
        go_wp2_with fail
        go_ret
        exact ⟨rfl, bW⟩
end Go.Proofs.Ytcpfiiapfggmpaa
