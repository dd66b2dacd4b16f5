/- The law AccountOne, walked. -/
import Derived.Test.YtfdnciijibiodaaAccLawFns
import Derived.Test.YtfdnciijibiodaaAccAwake
import Derived.Test.YtfdnciijibiodaaAccMoves
namespace Go.Proofs.Ytfdnciijibiodaa
open Go.RowKit Go.Lib

def hq (v : ByteArray) (t : Int) (l : List Ac) (k : Nat) : List ByteArray := hits v t (vals (l.take k))
def hr (v : ByteArray) (t : Int) (l : List Ac) (k : Nat) (a : Ac) (m : Nat) : List ByteArray := hq v t l k ++ ((a.v.os.take m).filter (ownsB v t)).map fun _ => a.v.name
section
variable {v : ByteArray} {t : Int} {l : List Ac} {k m : Nat} {a : Ac} {o : Ow}
theorem hq_0 : hq v t l 0 = [] := rfl
theorem hr_0 : hr v t l k a 0 = hq v t l k := by unfold hr; simp
theorem hr_yes (h : a.v.os[m]? = some o) (ho : ownsB v t o = true) : hr v t l k a (m + 1) = hr v t l k a m ++ [a.v.name] := by
  unfold hr; rw [take_snoc h, List.filter_append]; simp [ho]
theorem hr_no (h : a.v.os[m]? = some o) (ho : ownsB v t o = false) : hr v t l k a (m + 1) = hr v t l k a m := by
  unfold hr; rw [take_snoc h, List.filter_append]; simp [ho]
theorem hits_app (x y : List Av) : hits v t (x ++ y) = hits v t x ++ hits v t y := by unfold hits; rw [List.flatMap_append]
theorem hr_end (h : l[k]? = some a) : hr v t l k a a.v.os.length = hq v t l (k + 1) := by
  unfold hr hq
  rw [take_snoc h, List.take_length]
  unfold vals
  rw [List.map_append, hits_app]
  simp [hits]
theorem hq_end : hq v t l l.length = hits v t (vals l) := by unfold hq; rw [List.take_length]
theorem hr_le (hl : VL (vals l)) (h : l[k]? = some a) : (hr v t l k a m).length ≤ 1 := by
  have h1 : (hr v t l k a m).length ≤ (hq v t l (k + 1)).length := by
    rw [← hr_end h]
    unfold hr
    rw [List.length_append, List.length_append, List.length_map, List.length_map]
    have := ((List.take_sublist m a.v.os).filter (ownsB v t)).length_le
    rw [List.take_length]; omega
  have h2 : (hq v t l (k + 1)).length ≤ (hits v t (vals l)).length := by
    have e : vals l = vals (l.take (k + 1)) ++ vals (l.drop (k + 1)) := by unfold vals; rw [← List.map_append, List.take_append_drop]
    unfold hq
    rw [e, hits_app, List.length_append]; omega
  have := (one_holds hl v t).1
  omega
theorem owns_plain (hc : corrE o = 0) (hv : emp v = false) : ownsB v t o = ((eqS o.tag v || eqS o.pl v) && (decide (o.f ≤ t) && decide (t < o.t))) := by
  unfold ownsB
  rw [hv, (corr_yes hc).2.2.2]
  simp
end

set_option maxRecDepth 100000 in
set_option maxHeartbeats 16000000 in
theorem accountOne_walk {A : Option Addr} (c : Nat) {l : List Ac} (v : ByteArray) (t : Int) {w : World} (h : AL w A c l) :
    Calls Try.prog 4 #[.slice A l.length c, .string v, .int .i64 t] w fun e w' => e = .returned (.bool true) ∧ Below w.heap.size w w' := by
  have H := Lib.hid h
  have CG := Lib.hid (fun (X : World) (hX : Below w.heap.size w X) => great_any c (h.st hX))
  have CK := Lib.hid (fun (q : GOk l) (X : World) (hX : Below w.heap.size w X) => checkall_any c (h.st hX) q.sm)
  have CO := Lib.hid (fun (q : GOk l) (X : World) (hX : Below w.heap.size w X) => owner_any c v t (h.st hX) q.sm)
  clear h
  have bW := Below.refl w.heap.size w
  go_enter Try.func4, Try.ntmps4
  go_wp2_with fail
  refine (CG.out _ bW).mono ?_
  rintro e w2 ⟨⟨bb, rfl, hbb⟩, hbn⟩
  have bW := bW.st hbn
  clear hbn CG
  cases bb
  · have G := hbb rfl
    have CK := Lib.hid (CK.out G)
    have CO := Lib.hid (CO.out G)
    have hl30 : l.length ≤ 30 := G.1
    clear hbb G
    by_cases hc : checkL (vals l) = 0
    · have hvl := (checkL_iff _).1 hc
      rw [hc] at CK
      have HR1 := Lib.hid (one_holds hvl v t)
      rw [(HR1.out).2.1, (HR1.out).2.2] at CO
      have HLE := Lib.hid (fun (k m : Nat) (a : Ac) (q : l[k]? = some a) => hr_le (v := v) (t := t) (m := m) hvl q)
      have HN0 := Lib.hid (fun (k : Nat) (a : Ac) (m : Nat) (o : Ow) q q1 => hr_no (v := v) (t := t) (l := l) (k := k) (a := a) (m := m) (o := o) q q1)
      have HN1 := Lib.hid (fun (k : Nat) (a : Ac) (m : Nat) (o : Ow) q q1 => hr_yes (v := v) (t := t) (l := l) (k := k) (a := a) (m := m) (o := o) q q1)
      have HE1 := Lib.hid (fun (k : Nat) (a : Ac) (q : l[k]? = some a) => hr_end (v := v) (t := t) q)
      have HZ1 := Lib.hid (fun (k : Nat) (a : Ac) => hr_0 (v := v) (t := t) (l := l) (k := k) (a := a))
      have HQ0 := Lib.hid (hq_0 (v := v) (t := t) (l := l))
      have HQE := Lib.hid (hq_end (v := v) (t := t) (l := l))
      have HOW := Lib.hid (fun (a : Ac) (ha : a ∈ l) (o : Ow) (ho : o ∈ a.v.os) => owns_plain (v := v) (t := t) ((hvl.2.1 a.v (List.mem_map.2 ⟨a, ha, rfl⟩)).2.2.2.1 o ho))
      have HOE := Lib.hid (fun (q : emp v = true) (o : Ow) => owns_emp q t o)
      generalize hits v t (vals l) = hh at *
      generalize hgq : hq v t l = f at *
      generalize hgr : hr v t l = g at *
      clear hgq hgr hvl hc
      go_wp2_with fail
      refine (CK.out _ bW).mono ?_
      rintro e w3 ⟨rfl, hbn⟩
      have bW := bW.st hbn
      clear hbn CK
      go_wp2_with fail
      go_loopw [7, 8, 25] (fun n nm i wr => ∃ k : Nat, k ≤ l.length ∧ i = .int .i64 k ∧ n = .int .i64 (f k).length ∧ nm = .string ((f k).getLastD ⟨#[]⟩) ∧ Below w.heap.size w wr) (fun _ _ i _ => l.length - (RowKit.intOf i).toNat)
      case atStart => exact ⟨0, Nat.zero_le _, rfl, by rw [HQ0.out]; rfl, by rw [HQ0.out]; rfl, bW⟩
      case round =>
        clear bW
        obtain ⟨k, hk, rfl, rfl, rfl, bW⟩ := hrel
        by_cases hi : k < l.length
        · obtain ⟨b, off, a, hA1, hb, hx, d0, d1, d2, d3, d4, d5, d6, d7, d8⟩ := (H.out.1.st bW).ac hi
          have HK := Lib.hid hi
          have HX := Lib.hid hx
          have HA := Lib.hid (H.out.2.1 a (List.mem_of_getElem? hx))
          have HOWa := Lib.hid (HOW.out a (List.mem_of_getElem? hx))
          have HLEk := Lib.hid (fun (m : Nat) => HLE.out k m a hx)
          have HZ := Lib.hid (HZ1.out k a)
          have HEk := Lib.hid (HE1.out k a hx)
          subst hA1
          obtain ⟨Y2, hY2⟩ : ∃ Y, wr.alloc (.cells #[.string a.v.name, .string a.v.ag, .bool a.v.pre, .slice a.oA a.v.os.length a.oc, .int .i64 a.v.r0, .int .i64 a.v.r1, .int .i64 a.v.r2, .int .i64 a.v.r3, .bool a.v.ex] 39) = Y := ⟨_, rfl⟩
          have BX : Blk Y2 wr.heap.size #[.string a.v.name, .string a.v.ag, .bool a.v.pre, .slice a.oA a.v.os.length a.oc, .int .i64 a.v.r0, .int .i64 a.v.r1, .int .i64 a.v.r2, .int .i64 a.v.r3, .bool a.v.ex] 39 := by rw [← hY2]; exact Blk.new wr _ _
          have bW2 : Below w.heap.size w Y2 := by rw [← hY2]; exact bW.al _
          have x3 := BX.cell 3 (v := .slice a.oA a.v.os.length a.oc) rfl
          clear hx hi
          go_wp2_with fail
          clear x3 hY2 bW
          obtain ⟨wo, rfl⟩ : ∃ wo, wo = wr := ⟨_, rfl⟩
          go_loopw [7, 8, 32] (fun n nm i wr => ∃ m : Nat, m ≤ a.v.os.length ∧ i = .int .i64 m ∧ n = .int .i64 (g k a m).length ∧ nm = .string ((g k a m).getLastD ⟨#[]⟩) ∧ Blk wr wo.heap.size #[.string a.v.name, .string a.v.ag, .bool a.v.pre, .slice a.oA a.v.os.length a.oc, .int .i64 a.v.r0, .int .i64 a.v.r1, .int .i64 a.v.r2, .int .i64 a.v.r3, .bool a.v.ex] 39 ∧ Below w.heap.size w wr) (fun _ _ i _ => a.v.os.length - (RowKit.intOf i).toNat)
          case atStart => exact ⟨0, Nat.zero_le _, rfl, by rw [HZ.out], by rw [HZ.out], BX, bW2⟩
          case round =>
            clear bW2 BX
            obtain ⟨m, hm, rfl, rfl, rfl, BX, bW⟩ := hrel
            by_cases hmi : m < a.v.os.length
            · obtain ⟨b3, off3, o, hA3, hb3, ho, e0, e1, e2, e3⟩ := (HA.out.1.st bW).ow hmi
              have HMI := Lib.hid hmi
              have HO := Lib.hid ho
              have hoc : a.v.os.length ≤ 9223372036854775807 := by have := HA.out.2; omega
              have m1 : (0 : Int) ≤ (m : Int) := by omega
              have m2 : (m : Int) < (a.v.os.length : Int) := by omega
              have hgl : (g k a m).length ≤ 1 := HLEk.out m
              obtain ⟨Y5, hY5⟩ : ∃ Y, wr.alloc (.cells #[.string o.tag, .string o.pl, .int .i64 o.f, .int .i64 o.t] 43) = Y := ⟨_, rfl⟩
              have BO : Blk Y5 wr.heap.size #[.string o.tag, .string o.pl, .int .i64 o.f, .int .i64 o.t] 43 := by rw [← hY5]; exact Blk.new wr _ _
              have bW5 : Below w.heap.size w Y5 := by rw [← hY5]; exact bW.al _
              have BX2 := BX.alloc (.cells #[.string o.tag, .string o.pl, .int .i64 o.f, .int .i64 o.t] 43)
              rw [hY5] at BX2
              have o0 := BO.cell 0 (v := .string o.tag) rfl
              have o1 := BO.cell 1 (v := .string o.pl) rfl
              have o2 := BO.cell 2 (v := .int .i64 o.f) rfl
              have o3 := BO.cell 3 (v := .int .i64 o.t) rfl
              have x0 := BX2.cell 0 (v := .string a.v.name) rfl
              have HPL := Lib.hid (HOWa.out o (List.mem_of_getElem? ho))
              rw [hA3] at *
              clear ho hmi bW BX
              cases hv : emp v
              · have hpl := HPL.out hv
                obtain ⟨n1, n2, n3⟩ := toList_neE hv
                have hit : ((eqS o.tag v = true ∨ (eqS o.tag v = false ∧ eqS o.pl v = true)) ∧ o.f ≤ t ∧ t < o.t) ∨ (eqS o.tag v = false ∧ eqS o.pl v = false) ∨ ((eqS o.tag v = true ∨ (eqS o.tag v = false ∧ eqS o.pl v = true)) ∧ ¬ o.f ≤ t) ∨ ((eqS o.tag v = true ∨ (eqS o.tag v = false ∧ eqS o.pl v = true)) ∧ o.f ≤ t ∧ ¬ t < o.t) := by
                  cases eqS o.tag v <;> cases eqS o.pl v <;> simp <;> omega
                rcases hit with ⟨he, h1, h2⟩ | ⟨he1, he2⟩ | ⟨he, h1⟩ | ⟨he, h1, h2⟩
                · have hyes : ownsB v t o = true := by
                    rw [hpl, decide_eq_true h1, decide_eq_true h2]
                    rcases he with he | ⟨-, he⟩ <;> rw [he] <;> simp
                  have RN := Lib.hid (HN1.out k a m o HO.out hyes)
                  clear hpl hyes hv
                  rcases he with he | ⟨he, he2⟩
                  · have e1b : (o.tag.toList == v.toList) = true := he
                    clear he
                    go_wp2_with fail
                    go_roundw
                    case rel => exact ⟨m + 1, HMI.out, by go_num, by rw [RN.out, List.length_append]; go_num, by rw [RN.out, List.getLastD_concat], BX2, bW5⟩
                    case measure => have := HMI.out; simp [RowKit.intOf]; omega
                  · have e1b : (o.tag.toList == v.toList) = false := he
                    have e2b : (o.pl.toList == v.toList) = true := he2
                    clear he he2
                    go_wp2_with fail
                    go_roundw
                    case rel => exact ⟨m + 1, HMI.out, by go_num, by rw [RN.out, List.length_append]; go_num, by rw [RN.out, List.getLastD_concat], BX2, bW5⟩
                    case measure => have := HMI.out; simp [RowKit.intOf]; omega
                · have hno : ownsB v t o = false := by rw [hpl, he1, he2]; rfl
                  have e1b : (o.tag.toList == v.toList) = false := he1
                  have e2b : (o.pl.toList == v.toList) = false := he2
                  clear hpl hv he1 he2
                  (have RN := Lib.hid (HN0.out k a m o HO.out hno)); clear hno; go_wp2_with fail; go_roundw; (case rel => exact ⟨m + 1, HMI.out, by go_num, by rw [RN.out], by rw [RN.out], BX2, bW5⟩); (case measure => have := HMI.out; have := HA.out.2.1; have := HA.out.2.2; simp [RowKit.intOf]; omega)
                · have hno : ownsB v t o = false := by rw [hpl, decide_eq_false h1]; simp
                  clear hpl hv
                  rcases he with he | ⟨he, he2⟩
                  · have e1b : (o.tag.toList == v.toList) = true := he
                    clear he
                    (have RN := Lib.hid (HN0.out k a m o HO.out hno)); clear hno; go_wp2_with fail; go_roundw; (case rel => exact ⟨m + 1, HMI.out, by go_num, by rw [RN.out], by rw [RN.out], BX2, bW5⟩); (case measure => have := HMI.out; have := HA.out.2.1; have := HA.out.2.2; simp [RowKit.intOf]; omega)
                  · have e1b : (o.tag.toList == v.toList) = false := he
                    have e2b : (o.pl.toList == v.toList) = true := he2
                    clear he he2
                    (have RN := Lib.hid (HN0.out k a m o HO.out hno)); clear hno; go_wp2_with fail; go_roundw; (case rel => exact ⟨m + 1, HMI.out, by go_num, by rw [RN.out], by rw [RN.out], BX2, bW5⟩); (case measure => have := HMI.out; have := HA.out.2.1; have := HA.out.2.2; simp [RowKit.intOf]; omega)
                · have hno : ownsB v t o = false := by rw [hpl, decide_eq_false h2]; simp
                  clear hpl hv
                  rcases he with he | ⟨he, he2⟩
                  · have e1b : (o.tag.toList == v.toList) = true := he
                    clear he
                    (have RN := Lib.hid (HN0.out k a m o HO.out hno)); clear hno; go_wp2_with fail; go_roundw; (case rel => exact ⟨m + 1, HMI.out, by go_num, by rw [RN.out], by rw [RN.out], BX2, bW5⟩); (case measure => have := HMI.out; have := HA.out.2.1; have := HA.out.2.2; simp [RowKit.intOf]; omega)
                  · have e1b : (o.tag.toList == v.toList) = false := he
                    have e2b : (o.pl.toList == v.toList) = true := he2
                    clear he he2
                    (have RN := Lib.hid (HN0.out k a m o HO.out hno)); clear hno; go_wp2_with fail; go_roundw; (case rel => exact ⟨m + 1, HMI.out, by go_num, by rw [RN.out], by rw [RN.out], BX2, bW5⟩); (case measure => have := HMI.out; have := HA.out.2.1; have := HA.out.2.2; simp [RowKit.intOf]; omega)
              · have hno := HOE.out hv o
                obtain ⟨n1, n2, n3⟩ := toList_eE hv
                clear hv
                (have RN := Lib.hid (HN0.out k a m o HO.out hno)); clear hno; go_wp2_with fail; go_roundw; (case rel => exact ⟨m + 1, HMI.out, by go_num, by rw [RN.out], by rw [RN.out], BX2, bW5⟩); (case measure => have := HMI.out; have := HA.out.2.1; have := HA.out.2.2; simp [RowKit.intOf]; omega)
            · obtain rfl : m = a.v.os.length := by omega
              go_wp2_with fail
              go_roundw
              case rel => exact ⟨k + 1, HK.out, by go_num, by rw [HEk.out], by rw [HEk.out], bW⟩
              case measure => have := HK.out; simp [RowKit.intOf]; omega
        · obtain rfl : k = l.length := by omega
          rw [HQE.out]
          have h1 := HR1.out.1
          clear HLE HN0 HN1 HE1 HZ1 HQ0 HQE HOW HOE HR1 hi hk
          match hh, h1 with
          | [], _ =>
            simp only [List.length_nil, List.getLastD_nil] at *
            go_wp2_with fail
            refine (CO.out _ bW).mono ?_
            rintro e w4 ⟨rfl, hbn⟩
            have bW := bW.st hbn
            clear hbn CO
            go_wp2_with fail; refine (awake_any _).mono ?_; rintro e wl ⟨rfl, hbl⟩; have bL := bW.st hbl; go_wp2_with fail; go_ret; exact ⟨rfl, bL⟩
          | [x], _ =>
            simp only [List.length_singleton, List.getLastD_cons, List.getLastD_nil] at *
            go_wp2_with fail
            refine (CO.out _ bW).mono ?_
            rintro e w4 ⟨rfl, hbn⟩
            have bW := bW.st hbn
            clear hbn CO
            go_wp2_with fail; refine (awake_any _).mono ?_; rintro e wl ⟨rfl, hbl⟩; have bL := bW.st hbl; go_wp2_with fail; go_ret; exact ⟨rfl, bL⟩
          | x :: y :: r, h => simp at h
    · have hcb : (checkL (vals l) != 0) = true := by simp [hc]
      generalize checkL (vals l) = v0 at *
      clear hc CO
      go_wp2_with fail
      refine (CK.out _ bW).mono ?_
      rintro e w3 ⟨rfl, hbn⟩
      have bW := bW.st hbn
      clear hbn CK
      go_wp2_with fail; refine (awake_any _).mono ?_; rintro e wl ⟨rfl, hbl⟩; have bL := bW.st hbl; go_wp2_with fail; go_ret; exact ⟨rfl, bL⟩
  · clear hbb CK CO
    go_wp2_with fail; refine (awake_any _).mono ?_; rintro e wl ⟨rfl, hbl⟩; have bL := bW.st hbl; go_wp2_with fail; go_ret; exact ⟨rfl, bL⟩
end Go.Proofs.Ytfdnciijibiodaa
