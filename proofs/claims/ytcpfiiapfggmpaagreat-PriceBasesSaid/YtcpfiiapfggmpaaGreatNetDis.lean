/- The reference's checks of discounts, walked. -/
import Derived.Test.YtcpfiiapfggmpaaGreatNetTar
set_option linter.unusedSimpArgs false
namespace Go.Proofs.YtcpfiiapfggmpaaGreat
open Go.RowKit Go.Lib

set_option maxRecDepth 100000 in
set_option maxHeartbeats 4000000 in
theorem amounts_any (nm : ByteArray) (kd am : Int) (gr sy : ByteArray) (cl wd wf wt le : Int) (w : World) :
    Calls Tryz.prog 99 #[.agg #[.string nm, .int .i64 kd, .int .i64 am, .string gr, .string sy, .int .i64 cl, .int .i64 wd, .int .i64 wf, .int .i64 wt, .int .i64 le]] w fun e w' => BoolR e ∧ Below w.heap.size w w' := by
  obtain ⟨Y, hY⟩ : ∃ Y, w.alloc (.cells #[.string nm, .int .i64 kd, .int .i64 am, .string gr, .string sy, .int .i64 cl, .int .i64 wd, .int .i64 wf, .int .i64 wt, .int .i64 le] 93) = Y := ⟨_, rfl⟩
  have bW : Below w.heap.size w Y := by rw [← hY]; exact (Below.refl _ w).al _
  have B1 : Blk Y w.heap.size #[.string nm, .int .i64 kd, .int .i64 am, .string gr, .string sy, .int .i64 cl, .int .i64 wd, .int .i64 wf, .int .i64 wt, .int .i64 le] 93 := by rw [← hY]; exact Blk.new w _ _
  have z1 := B1.cell 1 (v := .int .i64 kd) rfl
  have z2 := B1.cell 2 (v := .int .i64 am) rfl
  clear B1
  by_cases q1 : kd = 1
  · have q2 : (kd == 1) = true := by simp [q1]
    clear q1
    by_cases a1 : 0 ≤ am
    · go_enter Tryz.func99, Tryz.ntmps99
      go_wp2_with fail; go_ret; exact ⟨⟨_, rfl⟩, bW⟩
    · go_enter Tryz.func99, Tryz.ntmps99
      go_wp2_with fail; go_ret; exact ⟨⟨_, rfl⟩, bW⟩
  · have q2 : (kd == 1) = false := by simp [q1]
    by_cases q3 : kd = 2
    · have q4 : (kd == 2) = true := by simp [q3]
      clear q1 q3
      by_cases a1 : 0 ≤ am
      · go_enter Tryz.func99, Tryz.ntmps99
        go_wp2_with fail; go_ret; exact ⟨⟨_, rfl⟩, bW⟩
      · go_enter Tryz.func99, Tryz.ntmps99
        go_wp2_with fail; go_ret; exact ⟨⟨_, rfl⟩, bW⟩
    · have q4 : (kd == 2) = false := by simp [q3]
      go_enter Tryz.func99, Tryz.ntmps99
      go_wp2_with fail; go_ret; exact ⟨⟨_, rfl⟩, bW⟩
set_option maxRecDepth 100000 in
set_option maxHeartbeats 4000000 in
theorem dnamed_any (s : ByteArray) (w : World) : Calls Tryz.prog 100 #[.string s] w fun e w' => BoolR e ∧ w' = w := by
  have CN := Lib.hid (fun (X : World) => r1name_any s X)
  cases he : emp s
  · obtain ⟨e1, e2, e3⟩ := toList_neE he
    clear he
    go_enter Tryz.func100, Tryz.ntmps100
    go_wp2_with fail
    refine (CN.out _).mono ?_
    rintro e w' ⟨rfl, hw'⟩
    rw [hw']
    clear hw' w'
    go_wp2_with fail
    go_ret
    exact ⟨⟨_, rfl⟩, rfl⟩
  · obtain ⟨e1, e2, e3⟩ := toList_eE he
    clear he
    go_enter Tryz.func100, Tryz.ntmps100
    go_wp2_with fail
    go_ret
    exact ⟨⟨_, rfl⟩, rfl⟩

set_option maxRecDepth 100000 in
set_option maxHeartbeats 16000000 in
theorem dcheck_any (nm : ByteArray) (kd am : Int) (gr sy : ByteArray) (cl wd wf wt le : Int) (w : World) :
    Calls Tryz.prog 57 #[.agg #[.string nm, .int .i64 kd, .int .i64 am, .string gr, .string sy, .int .i64 cl, .int .i64 wd, .int .i64 wf, .int .i64 wt, .int .i64 le]] w fun e w' => IntR e ∧ Below w.heap.size w w' := by
  obtain ⟨Y, hY⟩ : ∃ Y, w.alloc (.cells #[.string nm, .int .i64 kd, .int .i64 am, .string gr, .string sy, .int .i64 cl, .int .i64 wd, .int .i64 wf, .int .i64 wt, .int .i64 le] 93) = Y := ⟨_, rfl⟩
  have bW : Below w.heap.size w Y := by rw [← hY]; exact (Below.refl _ w).al _
  have B1 : Blk Y w.heap.size #[.string nm, .int .i64 kd, .int .i64 am, .string gr, .string sy, .int .i64 cl, .int .i64 wd, .int .i64 wf, .int .i64 wt, .int .i64 le] 93 := by rw [← hY]; exact Blk.new w _ _
  have CN := Lib.hid (fun (X : World) => r1name_any nm X)
  have CA := Lib.hid (fun (X : World) => amounts_any nm kd am gr sy cl wd wf wt le X)
  have C1 := Lib.hid (fun (s : ByteArray) (X : World) => dnamed_any s X)
  have CW := Lib.hid (fun (X : World) => vwin_any wd wf wt X)
  have z0 := B1.cell 0 (v := .string nm) rfl; have z1 := B1.cell 1 (v := .int .i64 kd) rfl; have z2 := B1.cell 2 (v := .int .i64 am) rfl; have z3 := B1.cell 3 (v := .string gr) rfl; have z4 := B1.cell 4 (v := .string sy) rfl; have z5 := B1.cell 5 (v := .int .i64 cl) rfl; have z6 := B1.cell 6 (v := .int .i64 wd) rfl; have z7 := B1.cell 7 (v := .int .i64 wf) rfl; have z8 := B1.cell 8 (v := .int .i64 wt) rfl; have z9 := B1.cell 9 (v := .int .i64 le) rfl
  go_enter Tryz.func57, Tryz.ntmps57
  go_wp2_with fail
  refine (CN.out _).mono ?_
  rintro e w' ⟨rfl, hw'⟩
  rw [hw']
  clear hw' w' CN hY
  cases hn : nameB nm
  · go_wp2_with fail; go_ret; exact ⟨⟨_, rfl⟩, bW⟩
  by_cases a1 : kd < 1
  · go_wp2_with fail; go_ret; exact ⟨⟨_, rfl⟩, bW⟩
  by_cases a2 : 3 < kd
  · go_wp2_with fail; go_ret; exact ⟨⟨_, rfl⟩, bW⟩
  have a1d : decide (kd < 1) = false := decide_eq_false a1
  have a2d : decide (3 < kd) = false := decide_eq_false a2
  go_wp2_with fail
  refine (CA.out _).mono ?_
  rintro e W2 ⟨⟨b, rfl⟩, hbn⟩
  have bW := bW.st hbn; have B1 := B1.below hbn B1.lt; clear hbn z0 z1 z2 z3 z4 z5 z6 z7 z8 z9
  cases b
  · go_wp2_with fail; go_ret; exact ⟨⟨_, rfl⟩, bW⟩
  have z0 := B1.cell 0 (v := .string nm) rfl; have z1 := B1.cell 1 (v := .int .i64 kd) rfl; have z2 := B1.cell 2 (v := .int .i64 am) rfl; have z3 := B1.cell 3 (v := .string gr) rfl; have z4 := B1.cell 4 (v := .string sy) rfl; have z5 := B1.cell 5 (v := .int .i64 cl) rfl; have z6 := B1.cell 6 (v := .int .i64 wd) rfl; have z7 := B1.cell 7 (v := .int .i64 wf) rfl; have z8 := B1.cell 8 (v := .int .i64 wt) rfl; have z9 := B1.cell 9 (v := .int .i64 le) rfl
  go_wp2_with fail
  refine (C1.out _ _).mono ?_
  rintro e w' ⟨⟨b, rfl⟩, hw'⟩
  rw [hw']
  clear hw' w'
  cases b
  · go_wp2_with fail; go_ret; exact ⟨⟨_, rfl⟩, bW⟩
  go_wp2_with fail
  refine (C1.out _ _).mono ?_
  rintro e w' ⟨⟨b, rfl⟩, hw'⟩
  rw [hw']
  clear hw' w'
  cases b
  · go_wp2_with fail; go_ret; exact ⟨⟨_, rfl⟩, bW⟩
  by_cases a3 : cl < 0
  · go_wp2_with fail; go_ret; exact ⟨⟨_, rfl⟩, bW⟩
  by_cases a4 : 9 < cl
  · go_wp2_with fail; go_ret; exact ⟨⟨_, rfl⟩, bW⟩
  by_cases a5 : wd = 0
  · subst a5
    by_cases a6 : wf = 0
    · subst a6
      by_cases a7 : wt = 0
      · subst a7
        by_cases a8 : le < 0
        · go_wp2_with fail; go_ret; exact ⟨⟨_, rfl⟩, bW⟩
        by_cases a9 : 2147483648 < le
        · go_wp2_with fail; go_ret; exact ⟨⟨_, rfl⟩, bW⟩
        go_wp2_with fail; go_ret; exact ⟨⟨_, rfl⟩, bW⟩
      · have a8 : (wt != 0) = true := by simp [a7]
        go_wp2_with fail; go_ret; exact ⟨⟨_, rfl⟩, bW⟩
    · have a8 : (wf != 0) = true := by simp [a6]
      go_wp2_with fail; go_ret; exact ⟨⟨_, rfl⟩, bW⟩
  · have a6 : (wd != 0) = true := by simp [a5]
    have a7 : (wd == 0) = false := by simp [a5]
    go_wp2_with fail
    refine (CW.out _).mono ?_
    rintro e W3 ⟨⟨b, rfl⟩, hbn⟩
    have bW := bW.st hbn; have B1 := B1.below hbn B1.lt; clear hbn z0 z1 z2 z3 z4 z5 z6 z7 z8 z9
    cases b
    · go_wp2_with fail; go_ret; exact ⟨⟨_, rfl⟩, bW⟩
    have z0 := B1.cell 0 (v := .string nm) rfl; have z1 := B1.cell 1 (v := .int .i64 kd) rfl; have z2 := B1.cell 2 (v := .int .i64 am) rfl; have z3 := B1.cell 3 (v := .string gr) rfl; have z4 := B1.cell 4 (v := .string sy) rfl; have z5 := B1.cell 5 (v := .int .i64 cl) rfl; have z6 := B1.cell 6 (v := .int .i64 wd) rfl; have z7 := B1.cell 7 (v := .int .i64 wf) rfl; have z8 := B1.cell 8 (v := .int .i64 wt) rfl; have z9 := B1.cell 9 (v := .int .i64 le) rfl
    by_cases a8 : le < 0
    · go_wp2_with fail; go_ret; exact ⟨⟨_, rfl⟩, bW⟩
    by_cases a9 : 2147483648 < le
    · go_wp2_with fail; go_ret; exact ⟨⟨_, rfl⟩, bW⟩
    go_wp2_with fail; go_ret; exact ⟨⟨_, rfl⟩, bW⟩

structure Dc where
  nm : ByteArray
  kd : Int
  am : Int
  gr : ByteArray
  sy : ByteArray
  cl : Int
  wd : Int
  wf : Int
  wt : Int
  le : Int
def encDc (x : Dc) : List Value := [.string x.nm, .int .i64 x.kd, .int .i64 x.am, .string x.gr, .string x.sy, .int .i64 x.cl, .int .i64 x.wd, .int .i64 x.wf, .int .i64 x.wt, .int .i64 x.le]
theorem encDc_ok : Enc encDc 10 := ⟨fun _ => rfl, fun x u hu => by simp [encDc] at hu; rcases hu with rfl | rfl | rfl | rfl | rfl | rfl | rfl | rfl | rfl | rfl <;> rfl⟩
set_option maxRecDepth 100000 in
set_option maxHeartbeats 16000000 in
theorem dall_any {A : Option Addr} (c : Nat) {l : List Dc} {w : World} (hr : Rd encDc 10 w w.heap.size A l) :
    Calls Tryz.prog 29 #[.slice A l.length c] w fun e w' => IntR e ∧ Below w.heap.size w w' := by
  have HR := Lib.hid hr
  clear hr
  by_cases q1 : 12 < l.length
  · have q2 : (12 : Int) < (l.length : Int) := by omega
    go_enter Tryz.func29, Tryz.ntmps29
    go_wp2_with fail
    go_ret
    exact ⟨⟨_, rfl⟩, Below.refl _ _⟩
  have q2 : ¬ (12 : Int) < (l.length : Int) := by omega
  go_enter Tryz.func29, Tryz.ntmps29
  go_wp2_with fail
  go_loopw [3] (fun j wr => ∃ k : Nat, k ≤ l.length ∧ j = .int .i64 k ∧ Below w.heap.size w wr) (fun j _ => l.length - (RowKit.intOf j).toNat)
  case atStart => exact ⟨0, Nat.zero_le _, rfl, Below.refl _ _⟩
  case round =>
    obtain ⟨k, hk, rfl, bW⟩ := hrel
    have k1 : (0 : Int) ≤ (k : Int) := by omega
    by_cases hi : k < l.length
    · have k2 : (k : Int) < (l.length : Int) := by omega
      obtain ⟨b, off, x, rfl, hb, hx, hc⟩ := (HR.out.st bW).at_ hi
      have d0 := hc 0 _ rfl
      have d1 := hc 1 _ rfl
      have d2 := hc 2 _ rfl
      have d3 := hc 3 _ rfl
      have d4 := hc 4 _ rfl
      have d5 := hc 5 _ rfl
      have d6 := hc 6 _ rfl
      have d7 := hc 7 _ rfl
      have d8 := hc 8 _ rfl
      have d9 := hc 9 _ rfl
      simp only [Nat.add_zero] at d0
      have CX := Lib.hid (fun (X : World) => dcheck_any x.nm x.kd x.am x.gr x.sy x.cl x.wd x.wf x.wt x.le X)
      have HI := Lib.hid hi
      have HB := Lib.hid hb
      have HD0 := Lib.hid d0
      clear hx hi hc hb
      go_wp2_with fail
      refine (CX.out _).mono ?_
      rintro e W3 ⟨⟨n, rfl⟩, hbn⟩
      have bW3 := bW.st hbn
      have e0 : W3.cell? ⟨b, off + k * 10, none⟩ = some (.string x.nm) := (World.cell?_of_block (hbn.block b HB.out)).trans HD0.out
      clear hbn d0 d1 d2 d3 d4 d5 d6 d7 d8 d9
      by_cases hn : n = 0
      case' neg =>
        have hn2 : (n != 0) = true := by simp [hn]
        go_wp2_with fail
        go_ret
        exact ⟨⟨_, rfl⟩, bW3⟩
      subst hn
      go_wp2_with fail
      go_loopw [5] (fun j wr => ∃ m : Nat, m ≤ k ∧ j = .int .i64 m ∧ ∃ n, wr = W3.drewN n) (fun j _ => k - (RowKit.intOf j).toNat)
      case atStart => exact ⟨0, Nat.zero_le _, rfl, 0, rfl⟩
      case round =>
        obtain ⟨m, hm, rfl, n, rfl⟩ := hrel
        have m1 : (0 : Int) ≤ (m : Int) := by omega
        by_cases hmk : m < k
        · have m2 : (m : Int) < (k : Int) := by omega
          have m3 : (m : Int) < (l.length : Int) := by have := HI.out; omega
          obtain ⟨b', off', y, hA, hb', hy, hc'⟩ := (HR.out.st bW3).at_ (i := m) (by have := HI.out; omega)
          have f0 := hc' 0 _ rfl
          simp only [Nat.add_zero] at f0
          injection hA with hA
          injection hA with u1 u2
          subst u1 u2
          have HM := Lib.hid hmk
          clear hb' hy hmk hc'
          have t0 : (y.nm.toList == x.nm.toList) = eqS y.nm x.nm := rfl
          cases u0 : eqS y.nm x.nm
          all_goals
            rw [u0] at t0
            clear u0
            go_wp2_with fail
            go_quiet (fail)
            go_wp2_with fail
            first
            | (go_ret; exact ⟨⟨_, rfl⟩, below_drewN (below_drewN bW3 _) _⟩)
            | (go_roundw; (case rel => exact ⟨m + 1, HM.out, by go_num, _, rfl⟩); (case measure => have := HM.out; simp [RowKit.intOf]; omega))
        · obtain rfl : m = k := by omega
          have bYn := below_drewN bW3 n
          go_wp2_with fail
          go_roundw
          case rel => exact ⟨m + 1, HI.out, by go_num, bYn⟩
          case measure => have := HI.out; simp [RowKit.intOf]; omega
    · obtain rfl : k = l.length := by omega
      go_wp2_with fail
      go_ret
      exact ⟨⟨_, rfl⟩, bW⟩
end Go.Proofs.YtcpfiiapfggmpaaGreat
