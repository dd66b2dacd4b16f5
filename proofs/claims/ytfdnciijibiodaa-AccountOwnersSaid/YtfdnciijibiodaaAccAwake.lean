/- The chapter's examples, walked. -/
import Derived.Test.YtfdnciijibiodaaAccUnlink
import Derived.Test.YtfdnciijibiodaaAccLink
import Derived.Test.YtfdnciijibiodaaAccOwner
import Derived.Test.YtfdnciijibiodaaBox
namespace Go.Proofs.Ytfdnciijibiodaa
open Go.RowKit Go.Lib

abbrev sAB : ByteArray := ⟨#[65, 66, 49, 50]⟩
abbrev sa : ByteArray := ⟨#[97]⟩
abbrev sb : ByteArray := ⟨#[98]⟩
abbrev s0 : ByteArray := ⟨#[]⟩
def ow (f t : Int) : Ow := ⟨s0, sAB, f, t⟩
def exV : List Av := [⟨sa, s0, false, [ow 0 100], 0, 0, 0, 0, false⟩, ⟨sb, s0, false, [], 0, 0, 0, 0, false⟩]
def exL (g : Nat) : List Ac := [⟨⟨sa, s0, false, [ow 0 100], 0, 0, 0, 0, false⟩, some ⟨g, 0, none⟩, 1⟩, ⟨⟨sb, s0, false, [], 0, 0, 0, 0, false⟩, none, 0⟩]
theorem exL_vals (g : Nat) : vals (exL g) = exV := rfl
def exU : List Av := [⟨sa, s0, false, [ow 0 50], 0, 0, 0, 0, false⟩, ⟨sb, s0, false, [], 0, 0, 0, 0, false⟩]
theorem ex1 : ownerN exV sAB 99 = sa ∧ ownerB exV sAB 99 = true := ⟨by kernel_rfl, by kernel_rfl⟩
theorem ex2 : ownerN exV sAB 100 = s0 ∧ ownerB exV sAB 100 = false := ⟨by kernel_rfl, by kernel_rfl⟩
theorem ex3 : linkE exV sb (ow 99 200) = 9 := by kernel_rfl
theorem ex4 : linkE exV sb (ow 100 200) = 0 ∧ (linkL exV sb (ow 100 200)).map (fun a => a.os.length) = [1, 1] := ⟨by kernel_rfl, by kernel_rfl⟩
theorem ex5 : unlinkE exV sa sAB 50 = 0 ∧ unlinkL exV sa sAB 50 = exU := ⟨by kernel_rfl, by kernel_rfl⟩
theorem ex6 : ownerN exU sAB 50 = s0 ∧ ownerB exU sAB 50 = false := ⟨by kernel_rfl, by kernel_rfl⟩
theorem ex7 : ownerN exU sAB 49 = sa ∧ ownerB exU sAB 49 = true := ⟨by kernel_rfl, by kernel_rfl⟩
theorem ex8 : unlinkE exV sa sAB 0 = 0 ∧ (unlinkL exV sa sAB 0).map (fun a => a.os.length) = [0, 0] := ⟨by kernel_rfl, by kernel_rfl⟩
theorem ex9 : checkL exV = 0 := by kernel_rfl
theorem smO_ow (f t : Int) : smO (ow f t) := ⟨by show 0 ≤ 1000; omega, by show 4 ≤ 1000; omega⟩
theorem smL_vals {l : List Ac} (h : (vals l).length ≤ 1000) (h2 : ∀ v ∈ vals l, v.os.length ≤ 1000 ∧ ∀ o ∈ v.os, smO o) : smL l := by
  refine ⟨by unfold vals at h; rwa [List.length_map] at h, fun a ha => ?_⟩
  exact h2 a.v (List.mem_map.2 ⟨a, ha, rfl⟩)
theorem exU_sm {l : List Ac} (h : vals l = exU) : smL l := by
  refine smL_vals (by rw [h]; simp [exU]) fun v hv => ?_
  rw [h] at hv
  simp only [exU, List.mem_cons, List.not_mem_nil, or_false] at hv
  rcases hv with rfl | rfl
  · exact ⟨by simp, fun o ho => by simp only [List.mem_singleton] at ho; subst ho; exact smO_ow _ _⟩
  · exact ⟨by simp, by simp⟩
theorem exSm (g : Nat) : smL (exL g) := by
  refine ⟨by simp [exL], fun a ha => ?_⟩
  simp only [exL, List.mem_cons, List.not_mem_nil, or_false] at ha
  rcases ha with rfl | rfl
  · exact ⟨by simp, fun o ho => by simp only [List.mem_singleton] at ho; subst ho; exact smO_ow _ _⟩
  · exact ⟨by simp, by simp⟩
/-- two accounts with so many vehicles -/
theorem two_read {V : List Av} {l' : List Ac} {w : World} {A : Option Addr} {c n0 n1 : Nat} (hv : vals l' = V) (hm : V.map (fun a => a.os.length) = [n0, n1]) (h : AL w A c l') :
    l'.length = 2 ∧ ∃ b off A0 c0 A1 c1, A = some ⟨b, off, none⟩ ∧ b < w.heap.size ∧ w.cell? ⟨b, off + 3, none⟩ = some (.slice A0 n0 c0) ∧ w.cell? ⟨b, off + 9 + 3, none⟩ = some (.slice A1 n1 c1) := by
  have hl : l'.length = 2 := by
    have : (V.map (fun a => a.os.length)).length = 2 := by rw [hm]; rfl
    rw [← hv, List.length_map] at this
    unfold vals at this
    rwa [List.length_map] at this
  refine ⟨hl, ?_⟩
  obtain ⟨b, off, x, hA, hb, hx, d0, d1, d2, d3, -⟩ := h.1.ac (i := 0) (by omega)
  obtain ⟨b', off', y, hA', hb', hy, e0, e1, e2, e3, -⟩ := h.1.ac (i := 1) (by omega)
  rw [hA] at hA'
  injection hA' with hA'; injection hA' with h1 h2
  subst h1 h2
  have g0 : (V.map (fun a => a.os.length))[0]? = some x.v.os.length := by rw [← hv, List.getElem?_map, vals_get hx]; rfl
  have g1 : (V.map (fun a => a.os.length))[1]? = some y.v.os.length := by rw [← hv, List.getElem?_map, vals_get hy]; rfl
  rw [hm] at g0 g1
  have j0 : n0 = x.v.os.length := by simpa using g0
  have j1 : n1 = y.v.os.length := by simpa using g1
  clear g0 g1 hm
  subst j0 j1
  rw [Nat.zero_mul, Nat.add_zero] at d3
  rw [Nat.one_mul] at e3
  exact ⟨b, off, _, _, _, _, hA, hb, d3, e3⟩

set_option maxRecDepth 100000 in
set_option maxHeartbeats 4000000 in
theorem own_any (f t : Int) (w : World) : Calls Try.prog 19 #[.int .i64 f, .int .i64 t] w fun e w' => e = .returned (OwV (ow f t)) ∧ Below w.heap.size w w' := by
  obtain ⟨Y1, hY1⟩ : ∃ Y, w.alloc (.cells #[.string ⟨#[]⟩, .string ⟨#[]⟩, .int .i64 0, .int .i64 0] 43) = Y := ⟨_, rfl⟩
  have bW : Below w.heap.size w Y1 := by rw [← hY1]; exact (Below.refl _ w).al _
  have BZ : Blk Y1 w.heap.size #[.string ⟨#[]⟩, .string ⟨#[]⟩, .int .i64 0, .int .i64 0] 43 := by rw [← hY1]; exact Blk.new w _ _
  go_enter Try.func19, Try.ntmps19
  go_wp2_with (first | (refine wpList_boxStore rfl (ty := 43) (x := .tmp 4) (y := .tmp 8) (cells := #[.string ⟨#[]⟩, .string ⟨#[65, 66, 49, 50]⟩, .int .i64 f, .int .i64 t]) rfl BZ rfl rfl (by kernel_rfl) rfl (by kernel_rfl) ?_; intro w6 BZ6 hoz6 hbz6))
  refine bodyPost_ret (v := .agg #[.string ⟨#[]⟩, .string ⟨#[65, 66, 49, 50]⟩, .int .i64 f, .int .i64 t]) (results_box Try.results19 _ rfl BZ6 ⟨_, Try.underlying43, by kernel_rfl⟩) rfl ?_
  exact ⟨rfl, hbz6 _ _ (Nat.le_refl _) bW⟩

set_option maxRecDepth 100000 in
set_option maxHeartbeats 16000000 in
theorem awake_any (w : World) : Calls Try.prog 8 #[] w fun e w' => e = .returned (.bool true) ∧ Below w.heap.size w w' := by
  have CN1 := Lib.hid (own_any 0 100 w)
  simp only [OwV, ow] at CN1
  go_enter Try.func8, Try.ntmps8
  go_wp2_with fail
  refine CN1.out.mono ?_
  rintro e w1 ⟨rfl, b1⟩
  obtain ⟨Y1, hY1⟩ : ∃ Y, w1.alloc (.cells #[.string ⟨#[]⟩, .string ⟨#[65, 66, 49, 50]⟩, .int .i64 0, .int .i64 100] 43) = Y := ⟨_, rfl⟩
  obtain ⟨Y2, hY2⟩ : ∃ Y, Y1.alloc (.cells #[.string ⟨#[97]⟩, .string ⟨#[]⟩, .bool false, .slice (some ⟨w1.heap.size, 0, none⟩) 1 1, .int .i64 0, .int .i64 0, .int .i64 0, .int .i64 0, .bool false, .string ⟨#[98]⟩, .string ⟨#[]⟩, .bool false, .slice none 0 0, .int .i64 0, .int .i64 0, .int .i64 0, .int .i64 0, .bool false] 39) = Y := ⟨_, rfl⟩
  have sY1 : Y1.heap.size = w1.heap.size + 1 := by rw [← hY1]; simp
  have c1 : Below w1.heap.size w1 Y1 := by rw [← hY1]; exact (Below.refl _ _).al _
  have c2 : Below Y1.heap.size Y1 Y2 := by rw [← hY2]; exact (Below.refl _ _).al _
  have ro : Rd encOw 4 Y1 Y1.heap.size (some ⟨w1.heap.size, 0, none⟩) [ow 0 100] := by rw [← hY1]; exact Rd.lit w1 _ encOw_ok rfl (by simp)
  have rl : Rd encAc 9 Y2 Y2.heap.size (some ⟨Y1.heap.size, 0, none⟩) (exL w1.heap.size) := by rw [← hY2]; exact Rd.lit Y1 _ encAc_ok rfl (by simp [exL])
  rw [sY1] at rl
  have hal : AL Y2 (some ⟨w1.heap.size + 1, 0, none⟩) 2 (exL w1.heap.size) := by
    refine ⟨rl, fun a ha => ?_, by simp [exL], by omega⟩
    simp only [exL, List.mem_cons, List.not_mem_nil, or_false] at ha
    rcases ha with rfl | rfl
    · exact ⟨ro.st c2, by simp, by show 1 ≤ _; omega⟩
    · exact ⟨Rd.nil, Nat.le_refl _, by show 0 ≤ _; omega⟩
  have bW := (b1.st c1).st c2
  have H := Lib.hid hal
  have C1 := Lib.hid (fun (t : Int) (X : World) (hX : Below Y2.heap.size Y2 X) => owner_any 2 sAB t (hal.st hX) (exSm _))
  have CL := Lib.hid (fun (o : Ow) (ho : smO o) (X : World) (hX : Below Y2.heap.size Y2 X) => link_any 2 sb o (hal.st hX) (exSm _) ho)
  have CU := Lib.hid (fun (t : Int) (X : World) (hX : Below Y2.heap.size Y2 X) => unlink_any 2 sa sAB t (hal.st hX) (exSm _))
  have CK := Lib.hid (fun (X : World) (hX : Below Y2.heap.size Y2 X) => checkall_any 2 (hal.st hX) (exSm _))
  rw [exL_vals] at C1 CL CU CK
  rw [ex9] at CK
  have CA := Lib.hid (C1.out 99)
  have CB := Lib.hid (C1.out 100)
  rw [ex1.1, ex1.2] at CA
  rw [ex2.1, ex2.2] at CB
  have CP := Lib.hid (CL.out (ow 99 200) (smO_ow _ _))
  have CQ := Lib.hid (CL.out (ow 100 200) (smO_ow _ _))
  have CR := Lib.hid (CU.out 50)
  have CS := Lib.hid (CU.out 0)
  rw [ex3] at CP
  rw [ex4.1] at CQ
  rw [ex5.1, ex5.2] at CR
  rw [ex8.1] at CS
  have CX := Lib.hid (own_any 99 200)
  have CY := Lib.hid (own_any 100 200)
  have h2 : (exL w1.heap.size).length = 2 := rfl
  rw [h2] at CA CB CP CQ CR CS CK
  simp only [OwV, ow] at CP CQ CX CY
  clear C1 CL CU c1 c2 ro rl hal h2 b1
  have bR := Below.refl Y2.heap.size Y2
  go_wp2_with fail
  refine (CA.out _ bR).mono ?_
  rintro e w3 ⟨rfl, hbn⟩
  have bR := bR.st hbn
  clear hbn CA
  go_wp2_with fail
  refine (CB.out _ bR).mono ?_
  rintro e w4 ⟨rfl, hbn⟩
  have bR := bR.st hbn
  clear hbn CB
  go_wp2_with fail
  refine (CX.out _).mono ?_
  rintro e w5 ⟨rfl, hbn⟩
  have bR := bR.st hbn
  clear hbn CX
  go_wp2_with fail
  refine (CP.out _ bR).mono ?_
  rintro e w6 ⟨A6, c6, l6, rfl, -, -, hbn⟩
  have bR := bR.st hbn
  clear hbn CP
  go_wp2_with fail
  refine (CY.out _).mono ?_
  rintro e w7 ⟨rfl, hbn⟩
  have bR := bR.st hbn
  clear hbn CY
  go_wp2_with fail
  refine (CQ.out _ bR).mono ?_
  rintro e w8 ⟨A8, c8, l8, rfl, hv8, ha8, hbn⟩
  have bR := bR.st hbn
  clear hbn CQ
  have H8 := Lib.hid ha8
  have K8 := Lib.hid (fun (X : World) (hX : Below w8.heap.size w8 X) => two_read hv8 ex4.2 (ha8.st hX))
  have bM := Below.refl w8.heap.size w8
  have hl8 : l8.length = 2 := (K8.out w8 bM).1
  clear ha8 hv8
  go_wp2_with fail
  refine (CR.out _ bR).mono ?_
  rintro e w9 ⟨A9, c9, l9, rfl, hv9, ha9, hbn⟩
  have bR := bR.st hbn
  have bM := bM.st hbn
  clear hbn CR
  have CO := Lib.hid (fun (t : Int) (X : World) (hX : Below w9.heap.size w9 X) => owner_any c9 sAB t (ha9.st hX) (exU_sm hv9))
  rw [hv9] at CO
  have CO1 := Lib.hid (CO.out 50)
  have CO2 := Lib.hid (CO.out 49)
  rw [ex6.1, ex6.2] at CO1
  rw [ex7.1, ex7.2] at CO2
  have bN := Below.refl w9.heap.size w9
  clear CO hv9 ha9
  go_wp2_with fail
  refine (CO1.out _ bN).mono ?_
  rintro e w10 ⟨rfl, hbn⟩
  have bR := bR.st hbn
  have bM := bM.st hbn
  have bN := bN.st hbn
  clear hbn CO1
  go_wp2_with fail
  refine (CO2.out _ bN).mono ?_
  rintro e w11 ⟨rfl, hbn⟩
  have bR := bR.st hbn
  have bM := bM.st hbn
  clear hbn CO2 bN
  go_wp2_with fail
  refine (CS.out _ bR).mono ?_
  rintro e w12 ⟨A12, c12, l12, rfl, hv12, ha12, hbn⟩
  have bR := bR.st hbn
  have bM := bM.st hbn
  have K12 := Lib.hid (fun (X : World) (hX : Below w12.heap.size w12 X) => two_read hv12 ex8.2 (ha12.st hX))
  have bN := Below.refl w12.heap.size w12
  have hl12 : l12.length = 2 := (K12.out w12 bN).1
  clear hbn CS hv12 ha12
  go_wp2_with fail
  refine (CK.out _ bR).mono ?_
  rintro e w13 ⟨rfl, hbn⟩
  have bR := bR.st hbn
  have bM := bM.st hbn
  have bN := bN.st hbn
  clear hbn CK
  obtain ⟨-, b8, off8, A80, c80, A81, c81, rfl, hb8, p0, p1⟩ := K8.out w13 bM
  obtain ⟨-, b2, off2, A20, c20, A21, c21, rfl, hb2, q0, q1⟩ := K12.out w13 bN
  go_wp2_with fail
  go_ret
  exact ⟨rfl, bW.st bR⟩
end Go.Proofs.Ytfdnciijibiodaa
