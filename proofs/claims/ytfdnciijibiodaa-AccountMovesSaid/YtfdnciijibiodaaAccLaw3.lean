/- The law AccountMoves, walked. -/
import Derived.Test.YtfdnciijibiodaaAccLawFns
import Derived.Test.YtfdnciijibiodaaAccAwake
import Derived.Test.YtfdnciijibiodaaAccMoves
namespace Go.Proofs.Ytfdnciijibiodaa
open Go.RowKit Go.Lib

theorem smL_link {l l3 : List Ac} {s : ByteArray} {o : Ow} (h : smL l) (ho : smO o) (hv : VL (linkL (vals l) s o)) (h3 : vals l3 = linkL (vals l) s o) : smL l3 := by
  have base : ∀ u ∈ vals l, ∀ o ∈ u.os, smO o := fun u hu => by
    obtain ⟨a, ha, rfl⟩ := List.mem_map.1 hu
    exact (h.2 a ha).2
  refine smL_vals2 ?_ fun u hu => ?_
  · rw [h3]
    unfold linkL
    have hlen : (vals l).length ≤ 1000 := by unfold vals; rw [List.length_map]; exact h.1
    split
    · rw [modF_len2]; exact hlen
    · exact hlen
  · rw [h3] at hu
    refine ⟨by have := (hv.2.1 u hu).2.2.1; omega, ?_⟩
    unfold linkL at hu
    split at hu
    · rcases modF_mem2 hu with hu | ⟨a, ha, rfl⟩
      · exact base u hu
      · intro x hx
        rcases List.mem_append.1 hx with hx | hx
        · exact base a ha x hx
        · simp at hx; subst hx; exact ho
    · exact base u hu
theorem unlink_time {L : List Av} {s v : ByteArray} {t : Int} (h : unlinkE L s v t = 0) : 0 ≤ t ∧ t < 68719476736 := by
  unfold unlinkE at h
  split at h
  · cases h
  · split at h
    · cases h
    · rename_i ht
      unfold timeB at ht
      simp at ht
      exact ht

set_option maxRecDepth 100000 in
set_option maxHeartbeats 16000000 in
theorem accountMoves_walk {A : Option Addr} (c : Nat) {l : List Ac} (s : ByteArray) (o : Ow) (t : Int) {w : World} (h : AL w A c l) :
    Calls Try.prog 5 #[.slice A l.length c, .string s, OwV o, .int .i64 t] w fun e w' => e = .returned (.bool true) ∧ Below w.heap.size w w' := by
  have H := Lib.hid h
  have CG := Lib.hid (fun (X : World) (hX : Below w.heap.size w X) => great_any c (h.st hX))
  have CLG := Lib.hid (fun (X : World) => large_any o X)
  have CK := Lib.hid (fun (q : GOk l) (X : World) (hX : Below w.heap.size w X) => checkall_any c (h.st hX) q.sm)
  have CO := Lib.hid (fun (q : GOk l) (u : ByteArray) (X : World) (hX : Below w.heap.size w X) => owner_any c u t (h.st hX) q.sm)
  have CN := Lib.hid (fun (q : GOk l) (q2 : LgOk o) (X : World) (hX : Below w.heap.size w X) => link_any c s o (h.st hX) q.sm q2.sm)
  have HSM := Lib.hid (fun (q : GOk l) (q2 : LgOk o) (q3 : VL (vals l)) (l3 : List Ac) (q4 : vals l3 = linkL (vals l) s o) => smL_link q.sm q2.sm (link_valid q3) q4)
  have HVL3 := Lib.hid (fun (q3 : VL (vals l)) => link_valid (s := s) (o := o) q3)
  have HOWN := Lib.hid (fun (q3 : VL (vals l)) (q : linkE (vals l) s o = 0) (q1 : o.f ≤ t) (q2 : t < o.t) => link_owns q3 q q1 q2)
  have HOTH := Lib.hid (fun (u : ByteArray) (q : emp u = true ∨ u ≠ vehO o) => link_other (l := vals l) (s := s) q t)
  clear h
  obtain ⟨tg, pl, f, e1⟩ := o
  simp only [OwV, vehO] at *
  obtain ⟨veh, hveh⟩ : ∃ veh, tg ++ pl = veh := ⟨_, rfl⟩
  rw [hveh] at HOWN HOTH
  obtain ⟨Y, hY⟩ : ∃ Y, w.alloc (.cells #[.string tg, .string pl, .int .i64 f, .int .i64 e1] 43) = Y := ⟨_, rfl⟩
  have bW : Below w.heap.size w Y := by rw [← hY]; exact (Below.refl _ w).al _
  have BO : Blk Y w.heap.size #[.string tg, .string pl, .int .i64 f, .int .i64 e1] 43 := by rw [← hY]; exact Blk.new w _ _
  go_enter Try.func5, Try.ntmps5
  go_wp2_with fail
  refine (CG.out _ bW).mono ?_
  rintro e w2 ⟨⟨bb, rfl, hbb⟩, hbn⟩
  have bW := bW.st hbn; have BO := BO.below hbn BO.lt
  clear hbn CG hY
  cases bb
  · have HG := Lib.hid (hbb rfl)
    have hl30 : l.length ≤ 30 := (hbb rfl).1
    clear hbb
    have o0 := BO.cell 0 (v := .string tg) rfl; have o1 := BO.cell 1 (v := .string pl) rfl; have o2 := BO.cell 2 (v := .int .i64 f) rfl; have o3 := BO.cell 3 (v := .int .i64 e1) rfl
    go_wp2_with fail
    refine (CLG.out _).mono ?_
    rintro e w3 ⟨⟨bb, rfl, hbb⟩, hbn⟩
    have bW := bW.st hbn; have BO := BO.below hbn BO.lt
    clear hbn CLG
    cases bb
    · have HL := Lib.hid (hbb rfl)
      clear hbb
      have DK := Lib.hid (CK.out HG.out)
      have DO := Lib.hid (CO.out HG.out)
      have DN := Lib.hid (CN.out HG.out HL.out)
      have JSM := Lib.hid (HSM.out HG.out HL.out)
      clear CK CO CN HSM
      by_cases hc : checkL (vals l) = 0
      · have hvl := (checkL_iff _).1 hc
        rw [hc] at DK
        have KSM := Lib.hid (JSM.out hvl)
        have KVL := Lib.hid (HVL3.out hvl)
        have KOWN := Lib.hid (HOWN.out hvl)
        clear JSM HVL3 HOWN
        generalize vals l = V at *
        generalize hL3 : linkL V s _ = L3 at *
        generalize hle : linkE V s _ = le at *
        clear hL3 hle hc hvl
        go_wp2_with fail
        refine (DK.out _ bW).mono ?_
        rintro e w4 ⟨rfl, hbn⟩
        have bW := bW.st hbn; have BO := BO.below hbn BO.lt
        clear hbn DK
        have o0 := BO.cell 0 (v := .string tg) rfl; have o1 := BO.cell 1 (v := .string pl) rfl; have o2 := BO.cell 2 (v := .int .i64 f) rfl; have o3 := BO.cell 3 (v := .int .i64 e1) rfl
        have hszc : ¬ 9223372036854775807 < tg.size + pl.size := by have := HL.out.1; have := HL.out.2; simp only at *; omega
        go_wp2_with fail
        go_loopw [10, 50] (fun u i wr => ∃ (k : Nat) (ub : ByteArray), k ≤ l.length ∧ i = .int .i64 k ∧ u = .string ub ∧ Hid (emp ub = true ∨ ub ≠ veh) ∧ Blk wr w.heap.size #[.string tg, .string pl, .int .i64 f, .int .i64 e1] 43 ∧ Below w.heap.size w wr) (fun _ i _ => l.length - (RowKit.intOf i).toNat)
        case atStart => exact ⟨0, ⟨#[]⟩, Nat.zero_le _, rfl, rfl, Or.inl (eqS_refl _), BO, bW⟩
        case round =>
          clear bW BO o0 o1 o2 o3
          obtain ⟨k, ub, hk, rfl, rfl, HU, BO, bW⟩ := hrel
          by_cases hi : k < l.length
          · obtain ⟨b, off, a, hA1, hb, hx, d0, d1, d2, d3, d4, d5, d6, d7, d8⟩ := (H.out.1.st bW).ac hi
            have HK := Lib.hid hi
            have HA := Lib.hid (H.out.2.1 a (List.mem_of_getElem? hx))
            have HLG := Lib.hid ((HG.out.2 a (List.mem_of_getElem? hx)).2)
            subst hA1
            obtain ⟨Y2, hY2⟩ : ∃ Y, wr.alloc (.cells #[.string a.v.name, .string a.v.ag, .bool a.v.pre, .slice a.oA a.v.os.length a.oc, .int .i64 a.v.r0, .int .i64 a.v.r1, .int .i64 a.v.r2, .int .i64 a.v.r3, .bool a.v.ex] 39) = Y := ⟨_, rfl⟩
            have BX : Blk Y2 wr.heap.size #[.string a.v.name, .string a.v.ag, .bool a.v.pre, .slice a.oA a.v.os.length a.oc, .int .i64 a.v.r0, .int .i64 a.v.r1, .int .i64 a.v.r2, .int .i64 a.v.r3, .bool a.v.ex] 39 := by rw [← hY2]; exact Blk.new wr _ _
            have bW2 : Below w.heap.size w Y2 := by rw [← hY2]; exact bW.al _
            have BO2 := BO.alloc (.cells #[.string a.v.name, .string a.v.ag, .bool a.v.pre, .slice a.oA a.v.os.length a.oc, .int .i64 a.v.r0, .int .i64 a.v.r1, .int .i64 a.v.r2, .int .i64 a.v.r3, .bool a.v.ex] 39)
            rw [hY2] at BO2
            have x3 := BX.cell 3 (v := .slice a.oA a.v.os.length a.oc) rfl
            clear hx hi
            go_wp2_with fail
            clear x3 hY2 bW BO
            obtain ⟨wo, rfl⟩ : ∃ wo, wo = wr := ⟨_, rfl⟩
            go_loopw [10, 57] (fun u i wr => ∃ (m : Nat) (ub : ByteArray), m ≤ a.v.os.length ∧ i = .int .i64 m ∧ u = .string ub ∧ Hid (emp ub = true ∨ ub ≠ veh) ∧ Blk wr w.heap.size #[.string tg, .string pl, .int .i64 f, .int .i64 e1] 43 ∧ Below w.heap.size w wr) (fun _ i _ => a.v.os.length - (RowKit.intOf i).toNat)
            case atStart => exact ⟨0, ub, Nat.zero_le _, rfl, rfl, HU, BO2, bW2⟩
            case round =>
              clear bW2 BX BO2 HU
              obtain ⟨m, ub, hm, rfl, rfl, HU, BO, bW⟩ := hrel
              by_cases hmi : m < a.v.os.length
              · obtain ⟨b3, off3, x, hA3, hb3, ho, q0, q1, q2, q3⟩ := (HA.out.1.st bW).ow hmi
                have HMI := Lib.hid hmi
                have hoc : a.v.os.length ≤ 9223372036854775807 := by have := HA.out.2; omega
                have m1 : (0 : Int) ≤ (m : Int) := by omega
                have m2 : (m : Int) < (a.v.os.length : Int) := by omega
                have hsx : ¬ 9223372036854775807 < x.tag.size + x.pl.size := by have hq := HLG.out x (List.mem_of_getElem? ho); have := hq.1; have := hq.2; omega
                obtain ⟨Y5, hY5⟩ : ∃ Y, wr.alloc (.cells #[.string x.tag, .string x.pl, .int .i64 x.f, .int .i64 x.t] 43) = Y := ⟨_, rfl⟩
                have BX : Blk Y5 wr.heap.size #[.string x.tag, .string x.pl, .int .i64 x.f, .int .i64 x.t] 43 := by rw [← hY5]; exact Blk.new wr _ _
                have bW5 : Below w.heap.size w Y5 := by rw [← hY5]; exact bW.al _
                have BO5 := BO.alloc (.cells #[.string x.tag, .string x.pl, .int .i64 x.f, .int .i64 x.t] 43)
                rw [hY5] at BO5
                have x0 := BX.cell 0 (v := .string x.tag) rfl
                have x1 := BX.cell 1 (v := .string x.pl) rfl
                obtain ⟨xu, hxu⟩ : ∃ xu, x.tag ++ x.pl = xu := ⟨_, rfl⟩
                rw [hA3] at *
                clear ho hmi bW BO
                cases he : eqS xu veh
                · have RU : Hid (emp xu = true ∨ xu ≠ veh) := Lib.hid (Or.inr fun q => by rw [(eqS_iff _ _).2 q] at he; cases he)
                  have heb : (xu.toList == veh.toList) = false := he
                  clear he
                  go_wp2_with fail
                  go_roundw
                  case rel => exact ⟨m + 1, xu, HMI.out, by go_num, rfl, RU, BO5, bW5⟩
                  case measure => have := HMI.out; simp [RowKit.intOf]; omega
                · have heb : (xu.toList == veh.toList) = true := he
                  clear he
                  go_wp2_with fail
                  go_roundw
                  case rel => exact ⟨m + 1, ub, HMI.out, by go_num, rfl, HU, BO5, bW5⟩
                  case measure => have := HMI.out; simp [RowKit.intOf]; omega
              · obtain rfl : m = a.v.os.length := by omega
                go_wp2_with fail
                go_roundw
                case rel => exact ⟨k + 1, ub, HK.out, by go_num, rfl, HU, BO, bW⟩
                case measure => have := HK.out; simp [RowKit.intOf]; omega
          · obtain rfl : k = l.length := by omega
            have KU := HOTH.out ub HU.out
            have DOu := Lib.hid (DO.out ub)
            generalize ownerN V ub t = on at *
            generalize ownerB V ub t = ob at *
            have KU1 := Lib.hid KU
            clear KU HOTH DO hk hi HG HL hszc H
            have o0 := BO.cell 0 (v := .string tg) rfl; have o1 := BO.cell 1 (v := .string pl) rfl; have o2 := BO.cell 2 (v := .int .i64 f) rfl; have o3 := BO.cell 3 (v := .int .i64 e1) rfl
            go_wp2_with fail
            refine (DOu.out _ bW).mono ?_
            rintro e w5 ⟨rfl, hbn⟩
            have bW := bW.st hbn; have BO := BO.below hbn BO.lt
            clear hbn DOu
            have o0 := BO.cell 0 (v := .string tg) rfl; have o1 := BO.cell 1 (v := .string pl) rfl; have o2 := BO.cell 2 (v := .int .i64 f) rfl; have o3 := BO.cell 3 (v := .int .i64 e1) rfl
            go_wp2_with fail
            refine (DN.out _ bW).mono ?_
            rintro e w6 ⟨A3, c3, l3, rfl, hv3, ha3, hbn⟩
            have bW := bW.st hbn; have BO := BO.below hbn BO.lt
            clear hbn DN
            have sm3 := KSM.out l3 hv3
            have CK3 := Lib.hid (checkall_any c3 ha3 sm3)
            have CO3 := Lib.hid (fun (v : ByteArray) (t : Int) (X : World) (hX : Below w6.heap.size w6 X) => owner_any c3 v t (ha3.st hX) sm3)
            have CU3 := Lib.hid (fun (X : World) (hX : Below w6.heap.size w6 X) => unlink_any c3 s veh t (ha3.st hX) sm3)
            have KS5 := Lib.hid (fun (l5 : List Ac) (q : vals l5 = unlinkL (vals l3) s veh t) => unlink_small sm3 q)
            rw [hv3] at CK3 CO3 CU3 KS5
            rw [(checkL_iff _).2 KVL.out] at CK3
            have KVL5 := Lib.hid (unlink_valid (s := s) (v := veh) (t := t) KVL.out)
            have KNONE := Lib.hid (fun (q : unlinkE L3 s veh t = 0) => unlink_none KVL.out q)
            have KTM := Lib.hid (fun (q : unlinkE L3 s veh t = 0) => unlink_time q)
            have KBF := Lib.hid (unlink_before (l := L3) (s := s) (v := veh) (t := t))
            have KOT := Lib.hid (unlink_other (s := s) (t := t) (r := t) KVL.out HU.out)
            generalize unlinkL L3 s veh t = L5 at *
            generalize unlinkE L3 s veh t = ue at *
            have KOT2 := Lib.hid (And.intro (KOT.out.1.trans KU1.out.1) (KOT.out.2.trans KU1.out.2))
            have COV := Lib.hid (CO3.out veh t)
            have COB := Lib.hid (CO3.out veh (t - 1))
            clear KOT KU1 KVL KSM hv3 ha3 sm3 CO3 HU
            have bM := Below.refl w6.heap.size w6
            have o0 := BO.cell 0 (v := .string tg) rfl; have o1 := BO.cell 1 (v := .string pl) rfl; have o2 := BO.cell 2 (v := .int .i64 f) rfl; have o3 := BO.cell 3 (v := .int .i64 e1) rfl
            go_wp2_with fail
            refine CK3.out.mono ?_
            rintro e w7 ⟨rfl, hbn⟩
            have bW := bW.st hbn; have BO := BO.below hbn BO.lt
            have bM := bM.st hbn
            clear hbn CK3
            have o0 := BO.cell 0 (v := .string tg) rfl; have o1 := BO.cell 1 (v := .string pl) rfl; have o2 := BO.cell 2 (v := .int .i64 f) rfl; have o3 := BO.cell 3 (v := .int .i64 e1) rfl
            have hway : (le = 0 ∧ f ≤ t ∧ t < e1) ∨ (le ≠ 0) ∨ (le = 0 ∧ ¬ f ≤ t) ∨ (le = 0 ∧ f ≤ t ∧ ¬ t < e1) := by omega
            rcases hway with ⟨z0, z1, z2⟩ | z0 | ⟨z0, z1⟩ | ⟨z0, z1, z2⟩
            case' inl =>
              have KW := KOWN.out z0 z1 z2
              subst z0
              rw [KW.1, KW.2] at COV
              clear KW KOWN
              go_wp2_with fail
              refine (COV.out _ bM).mono ?_
              rintro e w8 ⟨rfl, hbn⟩
              have bW := bW.st hbn; have BO := BO.below hbn BO.lt
              have bM := bM.st hbn
              clear hbn
              go_wp2_with fail
            case' inr.inl =>
              have zb : (le == 0) = false := by simp [z0]
              clear z0 KOWN
              go_wp2_with fail
            case' inr.inr.inl =>
              subst z0
              clear KOWN
              go_wp2_with fail
            case' inr.inr.inr =>
              subst z0
              clear KOWN
              go_wp2_with fail
            all_goals
              clear COV o0 o1 o2 o3
              refine (CU3.out _ bM).mono ?_
              rintro e w9 ⟨A5, c5, l5, rfl, hv5, ha5, hbn⟩
              have bW := bW.st hbn; have BO := BO.below hbn BO.lt
              have bM := bM.st hbn
              clear hbn CU3
              have sm5 := KS5.out l5 hv5
              have CK5 := Lib.hid (checkall_any c5 ha5 sm5)
              have CO5 := Lib.hid (fun (v : ByteArray) (t : Int) (X : World) (hX : Below w9.heap.size w9 X) => owner_any c5 v t (ha5.st hX) sm5)
              rw [hv5] at CK5 CO5
              rw [(checkL_iff _).2 KVL5.out] at CK5
              have CF5 := Lib.hid (CO5.out ub t)
              rw [KOT2.out.1, KOT2.out.2] at CF5
              have bN := Below.refl w9.heap.size w9
              clear KVL5 KS5 hv5 ha5 sm5 KOT2
              go_wp2_with fail
              refine CK5.out.mono ?_
              rintro e w10 ⟨rfl, hbn⟩
              have bW := bW.st hbn; have BO := BO.below hbn BO.lt
              have bM := bM.st hbn
              have bN := bN.st hbn
              clear hbn CK5
              by_cases hu : ue = 0
              · have ht := KTM.out hu
                have CV5 := Lib.hid (CO5.out veh t)
                rw [KNONE.out hu] at CV5
                have CB5 := Lib.hid (CO5.out veh (t - 1))
                rw [KBF.out.1, KBF.out.2] at CB5
                generalize ownerN L3 veh (t - 1) = pn at *
                generalize ownerB L3 veh (t - 1) = pb at *
                obtain ⟨ht0, ht1⟩ := ht
                subst hu
                clear KTM KNONE KBF CO5
                go_wp2_with fail
                refine (CV5.out _ bN).mono ?_
                rintro e w11 ⟨rfl, hbn⟩
                have bW := bW.st hbn; have BO := BO.below hbn BO.lt
                have bM := bM.st hbn
                have bN := bN.st hbn
                clear hbn CV5
                go_wp2_with fail
                refine (COB.out _ bM).mono ?_
                rintro e w12 ⟨rfl, hbn⟩
                have bW := bW.st hbn; have BO := BO.below hbn BO.lt
                have bN := bN.st hbn
                clear hbn COB
                go_wp2_with fail
                refine (CB5.out _ bN).mono ?_
                rintro e w13 ⟨rfl, hbn⟩
                have bW := bW.st hbn; have BO := BO.below hbn BO.lt
                have bN := bN.st hbn
                clear hbn CB5
                go_wp2_with fail
                refine (CF5.out _ bN).mono ?_
                rintro e w14 ⟨rfl, hbn⟩
                have bW := bW.st hbn; have BO := BO.below hbn BO.lt
                clear hbn CF5
                go_wp2_with fail; refine (awake_any _).mono ?_; rintro e wl ⟨rfl, hbl⟩; have bL := bW.st hbl; go_wp2_with fail; go_ret; exact ⟨rfl, bL⟩
              · have hub : (ue == 0) = false := by simp [hu]
                clear hu KTM KNONE KBF CO5 COB
                go_wp2_with fail
                refine (CF5.out _ bN).mono ?_
                rintro e w14 ⟨rfl, hbn⟩
                have bW := bW.st hbn; have BO := BO.below hbn BO.lt
                clear hbn CF5
                go_wp2_with fail; refine (awake_any _).mono ?_; rintro e wl ⟨rfl, hbl⟩; have bL := bW.st hbl; go_wp2_with fail; go_ret; exact ⟨rfl, bL⟩
      · have hcb : (checkL (vals l) != 0) = true := by simp [hc]
        generalize checkL (vals l) = v0 at *
        clear hc DO DN JSM HVL3 HOWN HOTH
        go_wp2_with fail
        refine (DK.out _ bW).mono ?_
        rintro e w4 ⟨rfl, hbn⟩
        have bW := bW.st hbn; have BO := BO.below hbn BO.lt
        clear hbn DK
        go_wp2_with fail; refine (awake_any _).mono ?_; rintro e wl ⟨rfl, hbl⟩; have bL := bW.st hbl; go_wp2_with fail; go_ret; exact ⟨rfl, bL⟩
    · clear hbb CK CO CN HSM HVL3 HOWN HOTH
      go_wp2_with fail; refine (awake_any _).mono ?_; rintro e wl ⟨rfl, hbl⟩; have bL := bW.st hbl; go_wp2_with fail; go_ret; exact ⟨rfl, bL⟩
  · clear hbb CK CO CN HSM HVL3 HOWN HOTH CLG
    go_wp2_with fail; refine (awake_any _).mono ?_; rintro e wl ⟨rfl, hbl⟩; have bL := bW.st hbl; go_wp2_with fail; go_ret; exact ⟨rfl, bL⟩
end Go.Proofs.Ytfdnciijibiodaa
