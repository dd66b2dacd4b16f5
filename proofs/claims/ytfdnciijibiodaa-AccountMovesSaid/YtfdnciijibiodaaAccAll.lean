/- account.CheckAll, walked. -/
import Derived.Test.YtfdnciijibiodaaAccCheck
namespace Go.Proofs.Ytfdnciijibiodaa
open Go.RowKit Go.Lib

theorem vals_get {l : List Ac} {k : Nat} {a : Ac} (h : l[k]? = some a) : (vals l)[k]? = some a.v := by unfold vals; rw [List.getElem?_map, h]; rfl
theorem oneL_bad {l : List Ac} {k : Nat} {a : Ac} (h : l[k]? = some a) (hc : checkA a.v ≠ 0) : oneL (vals l) k = checkA a.v := by
  unfold oneL; rw [vals_get h]; simp [hc]
theorem oneL_two {l : List Ac} {k j : Nat} {a y : Ac} (h : l[k]? = some a) (hc : checkA a.v = 0) (hy : l[j]? = some y) (hj : j < k) (hcl : clash y.v a.v = true) : oneL (vals l) k = 9 := by
  unfold oneL
  rw [vals_get h]
  have : (((vals l).take k).any fun b => clash b a.v) = true := List.any_eq_true.2 ⟨y.v, List.mem_of_getElem? (take_get (vals_get hy) hj), hcl⟩
  simp [hc, this]
theorem oneL_ok {l : List Ac} {k : Nat} {a : Ac} (h : l[k]? = some a) (hc : checkA a.v = 0) (hn : ∀ y ∈ (l.take k).take k, clash y.v a.v = false) : oneL (vals l) k = 0 := by
  unfold oneL
  rw [vals_get h]
  have : (((vals l).take k).any fun b => clash b a.v) = false := by
    rw [List.any_eq_false]
    intro b hb
    unfold vals at hb
    rw [← List.map_take, List.mem_map] at hb
    obtain ⟨y, hy, rfl⟩ := hb
    rw [hn y (by rw [List.take_take, Nat.min_self]; exact hy)]; simp
  simp [hc, this]
theorem clash_name {b a : Av} (h : eqS b.name a.name = true) : clash b a = true := by unfold clash; rw [h]; rfl
theorem clash_con {b a : Av} {m : Nat} {o : Ow} (h : a.os[m]? = some o) (hc : conL b.os o = true) : clash b a = true := by
  unfold clash
  rw [Bool.or_eq_true]
  exact Or.inr (List.any_eq_true.2 ⟨o, List.mem_of_getElem? h, hc⟩)
theorem clash_off {b a : Av} (h : eqS b.name a.name = false) (hn : ∀ o ∈ a.os.take a.os.length, conL b.os o = false) : clash b a = false := by
  rw [List.take_length] at hn
  unfold clash
  rw [h, Bool.false_or, List.any_eq_false]
  intro o ho
  rw [hn o ho]; simp

set_option maxRecDepth 100000 in
set_option maxHeartbeats 16000000 in
theorem checkall_any {A : Option Addr} (c : Nat) {l : List Ac} {w : World} (h : AL w A c l) (hsm : smL l) :
    Calls Try.prog 12 #[.slice A l.length c] w fun e w' => e = .returned (.int .i64 (checkL (vals l))) ∧ Below w.heap.size w w' := by
  have H := Lib.hid h
  have hl1 : l.length ≤ 1000 := hsm.1
  have hc1 := h.2.2.1
  have hc2 := h.2.2.2
  have CK := Lib.hid (fun (a : Ac) (ha : a ∈ l) (X : World) (hX : Below w.heap.size w X) => check_any a (h.2.1.st hX a ha) (hsm.2 a ha))
  have CF := Lib.hid (fun (y : Ac) (hy : y ∈ l) (o : Ow) (X : World) (hX : Below w.heap.size w X) => conflicts_any y.oc o (h.2.1.st hX y hy).1 (by have := (hsm.2 y hy).1; omega))
  have HR := Lib.hid (show checkL (vals l) = firstE (oneL (vals l)) l.length by unfold checkL; rw [if_neg (by unfold vals; rw [List.length_map]; omega)]; unfold vals; rw [List.length_map])
  have HSO := Lib.hid (fun (a : Ac) (ha : a ∈ l) => (hsm.2 a ha).1)
  generalize checkL (vals l) = r at *
  clear h hsm
  have nbig : ¬ 1024 < (l.length : Int) := by omega
  go_enter Try.func12, Try.ntmps12
  go_wp2
  go_loopw [15] (fun i wr => ∃ k : Nat, k ≤ l.length ∧ i = .int .i64 k ∧ Hid (∀ j, j < k → oneL (vals l) j = 0) ∧ Below w.heap.size w wr) (fun i _ => l.length - (RowKit.intOf i).toNat)
  case atStart => exact ⟨0, Nat.zero_le _, rfl, fun j hj => absurd hj (Nat.not_lt_zero _), Below.refl _ _⟩
  case round =>
    obtain ⟨k, hk, rfl, HE, bW⟩ := hrel
    by_cases hi : k < l.length
    · obtain ⟨b, off, a, rfl, hb, hx, d0, d1, d2, d3, d4, d5, d6, d7, d8⟩ := (H.out.1.st bW).ac hi
      have HK := Lib.hid hi
      have k1 : (0 : Int) ≤ (k : Int) := by omega
      have k2 : (k : Int) ≤ (c : Int) := by omega
      have k3 : k ≤ c := by omega
      obtain ⟨Y2, hY2⟩ : ∃ Y, wr.alloc (.cells #[.string a.v.name, .string a.v.ag, .bool a.v.pre, .slice a.oA a.v.os.length a.oc, .int .i64 a.v.r0, .int .i64 a.v.r1, .int .i64 a.v.r2, .int .i64 a.v.r3, .bool a.v.ex] 39) = Y := ⟨_, rfl⟩
      have BX : Blk Y2 wr.heap.size #[.string a.v.name, .string a.v.ag, .bool a.v.pre, .slice a.oA a.v.os.length a.oc, .int .i64 a.v.r0, .int .i64 a.v.r1, .int .i64 a.v.r2, .int .i64 a.v.r3, .bool a.v.ex] 39 := by rw [← hY2]; exact Blk.new wr _ _
      have bW2 : Below w.heap.size w Y2 := by rw [← hY2]; exact bW.al _
      have hcells := fun (j : Nat) (v : Value) (q : (#[.string a.v.name, .string a.v.ag, .bool a.v.pre, .slice a.oA a.v.os.length a.oc, .int .i64 a.v.r0, .int .i64 a.v.r1, .int .i64 a.v.r2, .int .i64 a.v.r3, .bool a.v.ex])[j]? = some v) => BX.cell j q
      have x0 := hcells 0 _ rfl
      have x1 := hcells 1 _ rfl
      have x2 := hcells 2 _ rfl
      have x3 := hcells 3 _ rfl
      have x4 := hcells 4 _ rfl
      have x5 := hcells 5 _ rfl
      have x6 := hcells 6 _ rfl
      have x7 := hcells 7 _ rfl
      have x8 := hcells 8 _ rfl
      have HX := Lib.hid hx
      have CKa := Lib.hid (CK.out a (List.mem_of_getElem? hx) Y2 bW2)
      have HOS := Lib.hid (HSO.out a (List.mem_of_getElem? hx))
      clear hcells
      by_cases hc : checkA a.v = 0
      · rw [hc] at CKa
        have HC := Lib.hid hc
        clear hx hi hc bW
        go_wp2_with fail
        refine CKa.out.mono ?_
        rintro e w3 ⟨rfl, hbn⟩
        have bW := bW2.st hbn
        have BX := BX.below hbn BX.lt
        clear x0 x1 x2 x3 x4 x5 x6 x7 x8 hY2 bW2
        go_wp2_with fail
        have ltX : wr.heap.size < w3.heap.size := BX.lt
        clear hbn CKa d0 d1 d2 d3 d4 d5 d6 d7 d8
        obtain ⟨wo, rfl⟩ : ∃ wo, wo = wr := ⟨_, rfl⟩
        go_loopw [29] (fun i wr => ∃ j : Nat, j ≤ k ∧ i = .int .i64 j ∧ Hid (∀ y ∈ (l.take k).take j, clash y.v a.v = false) ∧ Blk wr wo.heap.size #[.string a.v.name, .string a.v.ag, .bool a.v.pre, .slice a.oA a.v.os.length a.oc, .int .i64 a.v.r0, .int .i64 a.v.r1, .int .i64 a.v.r2, .int .i64 a.v.r3, .bool a.v.ex] 39 ∧ Below w.heap.size w wr) (fun i _ => k - (RowKit.intOf i).toNat)
        case atStart => exact ⟨0, Nat.zero_le _, rfl, (by unfold Hid; simp), BX, bW⟩
        case round =>
          clear BX bW ltX
          obtain ⟨j, hj, rfl, HQ, BX, bW⟩ := hrel
          by_cases hjk : j < k
          · obtain ⟨b2, off2, y, hA, hb2, hy, d0, d1, d2, d3, d4, d5, d6, d7, d8⟩ := (H.out.1.st bW).ac (show j < l.length by omega)
            injection hA with hA
            injection hA with hA1 hA2
            subst hA1 hA2
            have HJ := Lib.hid hjk
            have j1 : (0 : Int) ≤ (j : Int) := by omega
            have j2 : (j : Int) < (k : Int) := by omega
            obtain ⟨Y4, hY4⟩ : ∃ Y, wr.alloc (.cells #[.string y.v.name, .string y.v.ag, .bool y.v.pre, .slice y.oA y.v.os.length y.oc, .int .i64 y.v.r0, .int .i64 y.v.r1, .int .i64 y.v.r2, .int .i64 y.v.r3, .bool y.v.ex] 39) = Y := ⟨_, rfl⟩
            have BY : Blk Y4 wr.heap.size #[.string y.v.name, .string y.v.ag, .bool y.v.pre, .slice y.oA y.v.os.length y.oc, .int .i64 y.v.r0, .int .i64 y.v.r1, .int .i64 y.v.r2, .int .i64 y.v.r3, .bool y.v.ex] 39 := by rw [← hY4]; exact Blk.new wr _ _
            have bW4 : Below w.heap.size w Y4 := by rw [← hY4]; exact bW.al _
            have BX4 := BX.alloc (.cells #[.string y.v.name, .string y.v.ag, .bool y.v.pre, .slice y.oA y.v.os.length y.oc, .int .i64 y.v.r0, .int .i64 y.v.r1, .int .i64 y.v.r2, .int .i64 y.v.r3, .bool y.v.ex] 39)
            rw [hY4] at BX4
            have q0 := BY.cell 0 (v := .string y.v.name) rfl
            have q3 := BY.cell 3 (v := .slice y.oA y.v.os.length y.oc) rfl
            have p0 := BX4.cell 0 (v := .string a.v.name) rfl
            have p3 := BX4.cell 3 (v := .slice a.oA a.v.os.length a.oc) rfl
            have HY := Lib.hid hy
            have CFy := Lib.hid (CF.out y (List.mem_of_getElem? hy))
            have HOA := Lib.hid (fun (X : World) (hX : Below w.heap.size w X) => (H.out.2.1.st hX a (List.mem_of_getElem? HX.out)).1)
            cases he : eqS y.v.name a.v.name
            · have HOFF := Lib.hid (clash_off (b := y.v) (a := a.v) he)
              have HCON := Lib.hid (fun (m : Nat) (o : Ow) (q : a.v.os[m]? = some o) q2 => clash_con (b := y.v) q q2)
              have he2 : (y.v.name.toList == a.v.name.toList) = false := he
              have ltY : wr.heap.size < Y4.heap.size := BY.lt
              clear hy he hjk BX bW
              go_wp2_with fail
              clear d0 d1 d2 d3 d4 d5 d6 d7 d8 q0 q3 p0 p3 hY4
              obtain ⟨wi, rfl⟩ : ∃ wi, wi = wr := ⟨_, rfl⟩
              go_loopw [41] (fun i wr => ∃ m : Nat, m ≤ a.v.os.length ∧ i = .int .i64 m ∧ Hid (∀ o ∈ a.v.os.take m, conL y.v.os o = false) ∧ Blk wr wo.heap.size #[.string a.v.name, .string a.v.ag, .bool a.v.pre, .slice a.oA a.v.os.length a.oc, .int .i64 a.v.r0, .int .i64 a.v.r1, .int .i64 a.v.r2, .int .i64 a.v.r3, .bool a.v.ex] 39 ∧ Blk wr wi.heap.size #[.string y.v.name, .string y.v.ag, .bool y.v.pre, .slice y.oA y.v.os.length y.oc, .int .i64 y.v.r0, .int .i64 y.v.r1, .int .i64 y.v.r2, .int .i64 y.v.r3, .bool y.v.ex] 39 ∧ Below w.heap.size w wr) (fun i _ => a.v.os.length - (RowKit.intOf i).toNat)
              case atStart => exact ⟨0, Nat.zero_le _, rfl, (by unfold Hid; simp), BX4, BY, bW4⟩
              case round =>
                clear BX4 BY bW4 ltY
                obtain ⟨m, hm, rfl, HM, BX, BY, bW⟩ := hrel
                by_cases hmi : m < a.v.os.length
                · obtain ⟨b3, off3, o, hA3, hb3, ho, e0, e1, e2, e3⟩ := (HOA.out wr bW).ow hmi
                  have HMI := Lib.hid hmi
                  have HO := Lib.hid ho
                  have m1 : (0 : Int) ≤ (m : Int) := by omega
                  have hos := HOS.out
                  have m2 : (m : Int) < (a.v.os.length : Int) := by omega
                  obtain ⟨Y5, hY5⟩ : ∃ Y, wr.alloc (.cells #[.string o.tag, .string o.pl, .int .i64 o.f, .int .i64 o.t] 43) = Y := ⟨_, rfl⟩
                  have BO : Blk Y5 wr.heap.size #[.string o.tag, .string o.pl, .int .i64 o.f, .int .i64 o.t] 43 := by rw [← hY5]; exact Blk.new wr _ _
                  have bW5 : Below w.heap.size w Y5 := by rw [← hY5]; exact bW.al _
                  have BX5 := BX.alloc (.cells #[.string o.tag, .string o.pl, .int .i64 o.f, .int .i64 o.t] 43)
                  have BY5 := BY.alloc (.cells #[.string o.tag, .string o.pl, .int .i64 o.f, .int .i64 o.t] 43)
                  rw [hY5] at BX5 BY5
                  have y3 := BY5.cell 3 (v := .slice y.oA y.v.os.length y.oc) rfl
                  have o0 := BO.cell 0 (v := .string o.tag) rfl
                  have o1 := BO.cell 1 (v := .string o.pl) rfl
                  have o2 := BO.cell 2 (v := .int .i64 o.f) rfl
                  have o3 := BO.cell 3 (v := .int .i64 o.t) rfl
                  have CFo := Lib.hid (CFy.out o Y5 bW5)
                  clear ho hmi BX BY bW
                  rw [hA3] at *
                  go_wp2_with fail
                  refine CFo.out.mono ?_
                  rintro e w6 ⟨rfl, hbn⟩
                  have bW := bW5.st hbn
                  have BX := BX5.below hbn BX5.lt
                  have BY := BY5.below hbn BY5.lt
                  cases hf : conL y.v.os o
                  · have RM := Lib.hid (all_succ' (p := fun o => conL y.v.os o) HO.out HM.out hf)
                    clear hf
                    go_wp2_with fail
                    go_roundw
                    case rel => exact ⟨m + 1, HMI.out, by go_num, RM, BX, BY, bW⟩
                    case measure => have := HMI.out; simp [RowKit.intOf]; omega
                  · have R := Lib.hid (show r = 9 by rw [HR.out, firstE_some HE.out HK.out (by rw [oneL_two HX.out HC.out HY.out HJ.out (HCON.out m o HO.out hf)]; decide), oneL_two HX.out HC.out HY.out HJ.out (HCON.out m o HO.out hf)])
                    clear hf
                    go_wp2_with fail; go_ret; obtain rfl := R.out; exact ⟨rfl, bW⟩
                · obtain rfl : m = a.v.os.length := by omega
                  have RQ := Lib.hid (all_succ' (p := fun y : Ac => clash y.v a.v) (take_get HY.out HJ.out) HQ.out (HOFF.out HM.out))
                  go_wp2_with fail
                  go_roundw
                  case rel => exact ⟨j + 1, HJ.out, by go_num, RQ, BX, bW⟩
                  case measure => have := HJ.out; simp [RowKit.intOf]; omega
            · have R := Lib.hid (show r = 9 by rw [HR.out, firstE_some HE.out HK.out (by rw [oneL_two HX.out HC.out hy hjk (clash_name he)]; decide), oneL_two HX.out HC.out hy hjk (clash_name he)])
              have he2 : (y.v.name.toList == a.v.name.toList) = true := he
              clear hy he hjk BX bW
              go_wp2_with fail; go_ret; obtain rfl := R.out; exact ⟨rfl, bW4⟩
          · obtain rfl : j = k := by omega
            have RE := Lib.hid (firstE_up HE.out (oneL_ok HX.out HC.out HQ.out))
            go_wp2_with fail
            go_roundw
            case rel => exact ⟨j + 1, HK.out, by go_num, RE, bW⟩
            case measure => have := HK.out; simp [RowKit.intOf]; omega
      · have R := Lib.hid (show r = checkA a.v by rw [HR.out, firstE_some HE.out hi (by rw [oneL_bad hx hc]; exact hc), oneL_bad hx hc])
        generalize checkA a.v = v at *
        have hv : (v != 0) = true := by simp [hc]
        clear hx hi hc
        go_wp2_with fail
        refine CKa.out.mono ?_
        rintro e wn ⟨rfl, hbn⟩
        have bW := bW2.st hbn
        go_wp2_with fail; go_ret; obtain rfl := R.out; exact ⟨rfl, bW⟩
    · obtain rfl : k = l.length := by omega
      have R := Lib.hid (show r = 0 by rw [HR.out, firstE_none HE.out])
      go_wp2
      go_ret
      obtain rfl := R.out; exact ⟨rfl, bW⟩
end Go.Proofs.Ytfdnciijibiodaa
