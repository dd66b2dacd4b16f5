/- device.Check, walked. -/
import Derived.Test.YtflihhikofkheaaDevErr
import Derived.Test.YtflihhikofkheaaDevFind
import Derived.Test.YtflihhikofkheaaMap
namespace Go.Proofs.Ytflihhikofkheaa
open Go.RowKit Go.Lib

/-- the set of the names so far -/
def nameL (l : List Dv) : List (Value × Value) := l.map fun d => (.string d.name, .bool true)
theorem nameL_no {l : List Dv} {nm : ByteArray} (h : (l.any fun y => eqS y.name nm) = false) : ∀ p ∈ nameL l, p.1 ≠ .string nm := by
  rintro p hp e
  obtain ⟨d, hd, rfl⟩ := List.mem_map.1 hp
  injection e with e
  rw [List.any_eq_false] at h
  exact h d hd ((eqS_iff _ _).2 e)
theorem nameL_yes {l : List Dv} {nm : ByteArray} (h : (l.any fun y => eqS y.name nm) = true) : (∃ p ∈ nameL l, p.1 = .string nm) ∧ ∀ p ∈ nameL l, p.1 = .string nm → p.2 = .bool true := by
  obtain ⟨d, hd, e⟩ := List.any_eq_true.1 h
  refine ⟨⟨_, List.mem_map.2 ⟨d, hd, rfl⟩, by rw [(eqS_iff _ _).1 e]⟩, fun p hp _ => ?_⟩
  obtain ⟨d, hd, rfl⟩ := List.mem_map.1 hp
  rfl
theorem nameL_snoc {l : List Dv} {k : Nat} {d : Dv} (hx : l[k]? = some d) : nameL (l.take (k + 1)) = nameL (l.take k) ++ [(.string d.name, .bool true)] := by
  unfold nameL
  rw [take_snoc hx, List.map_append]; rfl
theorem nameB_size {s : ByteArray} (h : nameB s = true) : s.size ≤ maxLen := by
  have := ((nameB_iff s).1 h).2.1
  unfold maxLen; omega
theorem devX_6 {ps : List Pt} {d : Dv} {b : Bool} (h : nameB d.name = false) : devX ps b d = 6 := by unfold devX; rw [if_pos h]
theorem devX_9 {ps : List Pt} {d : Dv} (h : nameB d.name = true) : devX ps true d = 9 := by unfold devX; rw [if_neg (by rw [h]; simp), if_pos rfl]
theorem devX_one {ps : List Pt} {d : Dv} (h : nameB d.name = true) : devX ps false d = oneE ps d := by unfold devX; rw [if_neg (by rw [h]; simp), if_neg (by simp)]
theorem oneE_16 {ps : List Pt} {d : Dv} (h : hasPt ps d.pt = false) : oneE ps d = 16 := by unfold oneE; rw [if_pos h]
theorem oneE_1 {ps : List Pt} {d : Dv} (h : hasPt ps d.pt = true) (h2 : kindB d = false) : oneE ps d = 1 := by unfold oneE; rw [if_neg (by rw [h]; simp), if_pos h2]
theorem oneE_off {ps : List Pt} {d : Dv} (h : hasPt ps d.pt = true) (h2 : kindB d = true) (h3 : offsE d.os ≠ 0) : oneE ps d = offsE d.os := by unfold oneE; rw [if_neg (by rw [h]; simp), if_neg (by rw [h2]; simp), if_pos h3]
theorem oneE_down {ps : List Pt} {d : Dv} (h : hasPt ps d.pt = true) (h2 : kindB d = true) (h3 : offsE d.os = 0) : oneE ps d = downsE d.ds := by unfold oneE; rw [if_neg (by rw [h]; simp), if_neg (by rw [h2]; simp), if_neg (by rw [h3]; simp)]

set_option maxRecDepth 100000 in
set_option maxHeartbeats 16000000 in
theorem dcheck_any {A : Option Addr} (c : Nat) {l : List Dv} (n : Nw) {w : World} (h : Rd encD 6 w w.heap.size A l) (hz : DsOk w l) (hn : NwOk w n) (hsm : ∀ d ∈ l, smallD d) (hl3 : n.ps.length ≤ 100000000000) :
    Calls Try.prog 11 #[.slice A l.length c, NV n] w fun e w' => e = .returned (.int .i64 (devsE n.ps l)) ∧ Below w.heap.size w w' := by
  have H := Lib.hid h
  have HZ := Lib.hid hz
  have HS := Lib.hid hsm
  have HNW := Lib.hid hn
  have eg : ∀ args w, (callFunc 28 args).run Try.prog w = .ok (.enter 28 args) w := enters_of Try.func28 (by kernel_rfl) rfl
  have CP := Lib.hid (fun (pt : ByteArray) (b : Nat) (X : World) (hX : Below w.heap.size w X) (hb : b < X.heap.size) (hc : X.cell? ⟨b, 1, none⟩ = some (.string pt)) =>
    findF_Pt (fun d => eqS d.name pt) 28 #[.pointer (some ⟨b, 0, none⟩)] eg n.pc (w := X) (fun W x hW => checkC_any x pt b W (Nat.lt_of_lt_of_le hb hW.size) ((hW.cell (p := ⟨b, 1, none⟩) hb).trans hc)) (HNW.out.st hX) hl3)
  have HR := Lib.hid (show ¬ 1024 < l.length → devsE n.ps l = firstE (devE n.ps l) l.length from fun h => by unfold devsE; rw [if_neg h])
  have HB := Lib.hid (show 1024 < l.length → devsE n.ps l = 3 from fun h => by unfold devsE; rw [if_pos h])
  generalize devsE n.ps l = r at *
  clear h hz hsm hn eg HNW
  obtain ⟨pA, pc, ps, lA, ln2, lc⟩ := n
  simp only [NV] at *
  obtain ⟨Y, hY⟩ : ∃ Y, w.alloc (.cells #[.slice pA ps.length pc, .slice lA ln2 lc] 26) = Y := ⟨_, rfl⟩
  have bW : Below w.heap.size w Y := by rw [← hY]; exact (Below.refl _ w).al _
  have bN0 : Blk Y w.heap.size #[.slice pA ps.length pc, .slice lA ln2 lc] 26 := by rw [← hY]; exact Blk.new w _ _
  have hmm := @run_makeMap Try.prog
  by_cases hbig : 1024 < l.length
  · have R := HB.out hbig
    subst R
    clear HR HB CP
    go_enter Try.func11, Try.ntmps11
    go_wp2
    go_ret
    exact ⟨rfl, bW⟩
  · have HR := Lib.hid (HR.out hbig)
    clear HB
    obtain ⟨Y2, hY2⟩ : ∃ Y2, Y.alloc (.map #[] 0) = Y2 := ⟨_, rfl⟩
    have hM0 : MapL Try.prog 9 Y2 Y.heap.size [] := by rw [← hY2]; exact MapL.made _ _ _
    have bW2 : Below w.heap.size w Y2 := by rw [← hY2]; exact bW.al _
    have bN2 : Blk Y2 w.heap.size #[.slice pA ps.length pc, .slice lA ln2 lc] 26 := by rw [← hY2]; exact bN0.alloc _
    have hmb : w.heap.size < Y.heap.size := bN0.lt
    have hwB : w.heap.size < Y.heap.size := hmb
    go_enter Try.func11, Try.ntmps11
    go_wp2_with fail
    clear bW bN0 hmb hmm
    clear hY hY2
    go_loopw [18] (fun i wr => ∃ k : Nat, k ≤ l.length ∧ i = .int .i64 k ∧ Hid (∀ j, j < k → devE ps l j = 0) ∧ MapL Try.prog 9 wr Y.heap.size (nameL (l.take k)) ∧ Blk wr w.heap.size #[.slice pA ps.length pc, .slice lA ln2 lc] 26 ∧ Below w.heap.size w wr) (fun i _ => l.length - (intOf i).toNat)
    case atStart => exact ⟨0, Nat.zero_le _, rfl, fun j hj => absurd hj (Nat.not_lt_zero _), hM0, bN2, bW2⟩
    case round =>
      clear hM0 bN2 bW2
      obtain ⟨k, hk, rfl, HE, hM, bN, bX⟩ := hrel
      by_cases hi : k < l.length
      · obtain ⟨b, off, d, rfl, hg, hx, d0, d1, d2, d3, d4, d5⟩ := (H.out.st bX).d hi
        have hmem := List.mem_of_getElem? hx
        have he := devE_at (ps := ps) hx
        have hML := nameL_snoc hx
        have hok := Lib.hid (fun (W : World) (hW : Below w.heap.size w W) => (HZ.out d hmem).st hW)
        have hneB : wr.heap.size ≠ Y.heap.size := fun e => absurd hM.lt (by omega)
        have hsd := HS.out d hmem
        have HL := Lib.hid hi
        have CPd := Lib.hid (CP.out d.pt wr.heap.size)
        clear hx hmem CP H HZ HS
        obtain ⟨nm, pt, kd, ln, oA, oc, os, dA, dc, ds⟩ := d
        simp only [DV] at *
        obtain ⟨Z, hZ⟩ : ∃ Z, wr.alloc (.cells #[.string nm, .string pt, .int .i64 kd, .int .i64 ln, .slice oA os.length oc, .slice dA ds.length dc] 36) = Z := ⟨_, rfl⟩
        have gZ : Below wr.heap.size wr Z := by rw [← hZ]; exact (Below.refl _ wr).al _
        have bX0 := bX
        have bX := bX.st gZ
        have bZ : Blk Z wr.heap.size #[.string nm, .string pt, .int .i64 kd, .int .i64 ln, .slice oA os.length oc, .slice dA ds.length dc] 36 := by rw [← hZ]; exact Blk.new wr _ _
        have bN := bN.below gZ bN.lt
        have hM := hM.st gZ
        have q0 : World.cell? Z ⟨wr.heap.size, 0, none⟩ = some (.string nm) := bZ.cell 0 rfl; have q1 : World.cell? Z ⟨wr.heap.size, 1, none⟩ = some (.string pt) := bZ.cell 1 rfl; have q2 : World.cell? Z ⟨wr.heap.size, 2, none⟩ = some (.int .i64 kd) := bZ.cell 2 rfl; have q3 : World.cell? Z ⟨wr.heap.size, 3, none⟩ = some (.int .i64 ln) := bZ.cell 3 rfl; have q4 : World.cell? Z ⟨wr.heap.size, 4, none⟩ = some (.slice oA os.length oc) := bZ.cell 4 rfl; have q5 : World.cell? Z ⟨wr.heap.size, 5, none⟩ = some (.slice dA ds.length dc) := bZ.cell 5 rfl
        have CN := Lib.hid (name_any nm Z)
        cases hnm : nameB nm
        · rw [hnm] at CN
          rw [devX_6 hnm] at he
          have R := Lib.hid (show r = 6 by rw [HR.out, firstE_some HE.out hi (by rw [he]; decide), he])
          clear he hM CPd hnm
          go_wp2_with fail
          refine CN.out.mono ?_
          rintro e w2 ⟨rfl, hb2⟩
          go_wp2
          all_goals (go_ret; rw [R.out]; exact ⟨rfl, bX.st hb2⟩)
        · rw [hnm] at CN
          have hkey : keyOf Try.prog 9 (.string nm) = some (.string nm.data.toList) := Go.WideMaps.keyOf_string_mk Try.underlying9 (nameB_size hnm)
          cases hdup : (l.take k).any fun y => eqS y.name nm
          · rw [hdup, devX_one hnm] at he
            have hno := nameL_no hdup
            clear hnm hdup
            go_wp2_with fail
            refine CN.out.mono ?_
            rintro e w2 ⟨rfl, hb2⟩
            have bX := bX.st hb2; have bZ := bZ.below hb2 bZ.lt; have bN := bN.below hb2 bN.lt; have hM := hM.st hb2; have q0 : World.cell? w2 ⟨wr.heap.size, 0, none⟩ = some (.string nm) := bZ.cell 0 rfl; have q1 : World.cell? w2 ⟨wr.heap.size, 1, none⟩ = some (.string pt) := bZ.cell 1 rfl; have q2 : World.cell? w2 ⟨wr.heap.size, 2, none⟩ = some (.int .i64 kd) := bZ.cell 2 rfl; have q3 : World.cell? w2 ⟨wr.heap.size, 3, none⟩ = some (.int .i64 ln) := bZ.cell 3 rfl; have q4 : World.cell? w2 ⟨wr.heap.size, 4, none⟩ = some (.slice oA os.length oc) := bZ.cell 4 rfl; have q5 : World.cell? w2 ⟨wr.heap.size, 5, none⟩ = some (.slice dA ds.length dc) := bZ.cell 5 rfl; have n0 : World.cell? w2 ⟨w.heap.size, 0, none⟩ = some (.slice pA ps.length pc) := bN.cell 0 rfl; have n1 : World.cell? w2 ⟨w.heap.size, 1, none⟩ = some (.slice lA ln2 lc) := bN.cell 1 rfl
            have lt2 := bZ.lt
            have hlook := hM.look_no (t := 60) (Go.Maps.string_keyed Try.underlying9) Try.underlying60 (Try.zeroValue4 _) hkey hno false
            simp only [Bool.false_eq_true, if_false] at hlook
            have HDK := hok
            clear hok
            go_wp2_with (at_mapUpdate; refine wpList_storeL rfl _ _ _ _ rfl (Go.Maps.string_keyed Try.underlying9) Try.underlying60 rfl hM (.string nm) (.bool true) _ rfl rfl hkey hno ?_; intro w3 hM3 hG3; have bX := below_store bX hG3 bX.size (Nat.le_of_lt hwB); have bZ : Blk w3 wr.heap.size #[.string nm, .string pt, .int .i64 kd, .int .i64 ln, .slice oA os.length oc, .slice dA ds.length dc] 36 := (grown_block hG3 bZ.lt hneB).trans bZ; have bN : Blk w3 w.heap.size #[.slice pA ps.length pc, .slice lA ln2 lc] 26 := (grown_block hG3 bN.lt (by omega)).trans bN; rw [← hML] at hM3; have hM := hM3; have q0 : World.cell? w3 ⟨wr.heap.size, 0, none⟩ = some (.string nm) := bZ.cell 0 rfl; have q1 : World.cell? w3 ⟨wr.heap.size, 1, none⟩ = some (.string pt) := bZ.cell 1 rfl; have q2 : World.cell? w3 ⟨wr.heap.size, 2, none⟩ = some (.int .i64 kd) := bZ.cell 2 rfl; have q3 : World.cell? w3 ⟨wr.heap.size, 3, none⟩ = some (.int .i64 ln) := bZ.cell 3 rfl; have q4 : World.cell? w3 ⟨wr.heap.size, 4, none⟩ = some (.slice oA os.length oc) := bZ.cell 4 rfl; have q5 : World.cell? w3 ⟨wr.heap.size, 5, none⟩ = some (.slice dA ds.length dc) := bZ.cell 5 rfl; have n0 : World.cell? w3 ⟨w.heap.size, 0, none⟩ = some (.slice pA ps.length pc) := bN.cell 0 rfl; have n1 : World.cell? w3 ⟨w.heap.size, 1, none⟩ = some (.slice lA ln2 lc) := bN.cell 1 rfl; have CF := Lib.hid (CPd.out w3 bX bZ.lt q1); have HO := Lib.hid (HDK.out _ bX); clear hlook hno hkey hM3 hG3 CPd HDK lt2)
            clear hML
            refine CF.out.mono ?_
            rintro e w4 ⟨p, rfl, hp, hb4⟩
            clear hp CF
            obtain ⟨pn, pk, py⟩ := p
            simp only [PV] at *
            have bX := bX.st hb4; have bZ := bZ.below hb4 bZ.lt; have bN := bN.below hb4 bN.lt; have hM := hM.st hb4; have q0 : World.cell? w4 ⟨wr.heap.size, 0, none⟩ = some (.string nm) := bZ.cell 0 rfl; have q1 : World.cell? w4 ⟨wr.heap.size, 1, none⟩ = some (.string pt) := bZ.cell 1 rfl; have q2 : World.cell? w4 ⟨wr.heap.size, 2, none⟩ = some (.int .i64 kd) := bZ.cell 2 rfl; have q3 : World.cell? w4 ⟨wr.heap.size, 3, none⟩ = some (.int .i64 ln) := bZ.cell 3 rfl; have q4 : World.cell? w4 ⟨wr.heap.size, 4, none⟩ = some (.slice oA os.length oc) := bZ.cell 4 rfl; have q5 : World.cell? w4 ⟨wr.heap.size, 5, none⟩ = some (.slice dA ds.length dc) := bZ.cell 5 rfl; have n0 : World.cell? w4 ⟨w.heap.size, 0, none⟩ = some (.slice pA ps.length pc) := bN.cell 0 rfl; have n1 : World.cell? w4 ⟨w.heap.size, 1, none⟩ = some (.slice lA ln2 lc) := bN.cell 1 rfl
            have HO := Lib.hid ((HO.out).st hb4)
            obtain ⟨Y3, hY3⟩ : ∃ Y, w4.alloc (.cells #[.string ⟨#[]⟩, .int .i64 0, .string ⟨#[]⟩] 59) = Y := ⟨_, rfl⟩
            have g3 : Below w4.heap.size w4 Y3 := by rw [← hY3]; exact (Below.refl _ w4).al _
            have n3 : Blk Y3 w4.heap.size #[.string ⟨#[]⟩, .int .i64 0, .string ⟨#[]⟩] 59 := by rw [← hY3]; exact Blk.new w4 _ _
            have m0 : World.cell? Y3 ⟨w4.heap.size, 0, none⟩ = some (.string ⟨#[]⟩) := n3.cell 0 rfl
            have m1 : World.cell? Y3 ⟨w4.heap.size, 1, none⟩ = some (.int .i64 0) := n3.cell 1 rfl
            have m2 : World.cell? Y3 ⟨w4.heap.size, 2, none⟩ = some (.string ⟨#[]⟩) := n3.cell 2 rfl
            have x0 := n3.frozen 0
            have x1 := n3.frozen 1
            have x2 := n3.frozen 2
            obtain ⟨X, hX⟩ : ∃ X, ((Y3.setCell ⟨w4.heap.size, 0, none⟩ (.string pn)).setCell ⟨w4.heap.size, 1, none⟩ (.int .i64 pk)).setCell ⟨w4.heap.size, 2, none⟩ (.string py) = X := ⟨_, rfl⟩
            have gX : Below w4.heap.size w4 X := by rw [← hX]; exact ((g3.setCell (Nat.le_refl _) _).setCell (Nat.le_refl _) _).setCell (Nat.le_refl _) _
            have bX := bX.st gX; have bZ := bZ.below gX bZ.lt; have bN := bN.below gX bN.lt; have hM := hM.st gX; have q0 : World.cell? X ⟨wr.heap.size, 0, none⟩ = some (.string nm) := bZ.cell 0 rfl; have q1 : World.cell? X ⟨wr.heap.size, 1, none⟩ = some (.string pt) := bZ.cell 1 rfl; have q2 : World.cell? X ⟨wr.heap.size, 2, none⟩ = some (.int .i64 kd) := bZ.cell 2 rfl; have q3 : World.cell? X ⟨wr.heap.size, 3, none⟩ = some (.int .i64 ln) := bZ.cell 3 rfl; have q4 : World.cell? X ⟨wr.heap.size, 4, none⟩ = some (.slice oA os.length oc) := bZ.cell 4 rfl; have q5 : World.cell? X ⟨wr.heap.size, 5, none⟩ = some (.slice dA ds.length dc) := bZ.cell 5 rfl; have n0 : World.cell? X ⟨w.heap.size, 0, none⟩ = some (.slice pA ps.length pc) := bN.cell 0 rfl; have n1 : World.cell? X ⟨w.heap.size, 1, none⟩ = some (.slice lA ln2 lc) := bN.cell 1 rfl
            have HO := Lib.hid ((HO.out).st gX)
            cases hhp : hasPt ps pt
            · rw [oneE_16 hhp] at he
              have R := Lib.hid (show r = 16 by rw [HR.out, firstE_some HE.out hi (by rw [he]; decide), he])
              have hhp2 : (ps.any fun d => eqS d.name pt) = false := hhp
              clear he hhp
              go_wp2_with fail
              go_ret
              rw [R.out]
              exact ⟨rfl, bX⟩
            · have hhp2 : (ps.any fun d => eqS d.name pt) = true := hhp
              cases hkb : kindB ⟨nm, pt, kd, ln, oA, oc, os, dA, dc, ds⟩
              · rw [oneE_1 hhp hkb] at he
                have R := Lib.hid (show r = 1 by rw [HR.out, firstE_some HE.out hi (by rw [he]; decide), he])
                have hw : kd < 1 ∨ (¬ kd < 1 ∧ 3 < kd) ∨ (¬ kd < 1 ∧ ¬ 3 < kd ∧ ln < 0) ∨ (¬ kd < 1 ∧ ¬ 3 < kd ∧ ¬ ln < 0 ∧ 15 < ln) := by
                  unfold kindB at hkb
                  rw [decide_eq_false_iff_not] at hkb
                  simp only at hkb
                  omega
                clear he hhp hkb HO
                rcases hw with k1 | ⟨k1, k2⟩ | ⟨k1, k2, k3⟩ | ⟨k1, k2, k3, k4⟩
                all_goals
                  go_wp2_with fail
                  go_ret
                  rw [R.out]
                  exact ⟨rfl, bX⟩
              · have hw : ¬ kd < 1 ∧ ¬ 3 < kd ∧ ¬ ln < 0 ∧ ¬ 15 < ln := by
                  unfold kindB at hkb
                  rw [decide_eq_true_eq] at hkb
                  simp only at hkb
                  omega
                obtain ⟨k1, k2, k3, k4⟩ := hw
                have CO := Lib.hid (offsets_any oc HO.out.1 hsd.1)
                have CD := Lib.hid (fun (W : World) (hW : Below X.heap.size X W) => outages_any dc (HO.out.2.st hW) hsd.2)
                clear HO hsd
                by_cases ho : offsE os = 0
                · have hE := oneE_down hhp hkb ho
                  rw [hE] at he
                  rw [ho] at CO
                  by_cases hd : downsE ds = 0
                  · have HK := Lib.hid (firstE_up HE.out (he.trans hd))
                    rw [hd] at CD
                    clear he hE hkb hhp ho hd
                    go_wp2_with fail
                    refine CO.out.mono ?_
                    rintro e w5 ⟨rfl, hb5⟩
                    have bX := bX.st hb5; have bZ := bZ.below hb5 bZ.lt; have bN := bN.below hb5 bN.lt; have hM := hM.st hb5; have q0 : World.cell? w5 ⟨wr.heap.size, 0, none⟩ = some (.string nm) := bZ.cell 0 rfl; have q1 : World.cell? w5 ⟨wr.heap.size, 1, none⟩ = some (.string pt) := bZ.cell 1 rfl; have q2 : World.cell? w5 ⟨wr.heap.size, 2, none⟩ = some (.int .i64 kd) := bZ.cell 2 rfl; have q3 : World.cell? w5 ⟨wr.heap.size, 3, none⟩ = some (.int .i64 ln) := bZ.cell 3 rfl; have q4 : World.cell? w5 ⟨wr.heap.size, 4, none⟩ = some (.slice oA os.length oc) := bZ.cell 4 rfl; have q5 : World.cell? w5 ⟨wr.heap.size, 5, none⟩ = some (.slice dA ds.length dc) := bZ.cell 5 rfl; have n0 : World.cell? w5 ⟨w.heap.size, 0, none⟩ = some (.slice pA ps.length pc) := bN.cell 0 rfl; have n1 : World.cell? w5 ⟨w.heap.size, 1, none⟩ = some (.slice lA ln2 lc) := bN.cell 1 rfl
                    go_wp2_with fail
                    refine (CD.out w5 hb5).mono ?_
                    rintro e w6 ⟨rfl, hb6⟩
                    have bX := bX.st hb6; have bZ := bZ.below hb6 bZ.lt; have bN := bN.below hb6 bN.lt; have hM := hM.st hb6; have q0 : World.cell? w6 ⟨wr.heap.size, 0, none⟩ = some (.string nm) := bZ.cell 0 rfl; have q1 : World.cell? w6 ⟨wr.heap.size, 1, none⟩ = some (.string pt) := bZ.cell 1 rfl; have q2 : World.cell? w6 ⟨wr.heap.size, 2, none⟩ = some (.int .i64 kd) := bZ.cell 2 rfl; have q3 : World.cell? w6 ⟨wr.heap.size, 3, none⟩ = some (.int .i64 ln) := bZ.cell 3 rfl; have q4 : World.cell? w6 ⟨wr.heap.size, 4, none⟩ = some (.slice oA os.length oc) := bZ.cell 4 rfl; have q5 : World.cell? w6 ⟨wr.heap.size, 5, none⟩ = some (.slice dA ds.length dc) := bZ.cell 5 rfl; have n0 : World.cell? w6 ⟨w.heap.size, 0, none⟩ = some (.slice pA ps.length pc) := bN.cell 0 rfl; have n1 : World.cell? w6 ⟨w.heap.size, 1, none⟩ = some (.slice lA ln2 lc) := bN.cell 1 rfl
                    go_wp2_with fail
                    go_roundw
                    case rel => exact ⟨k + 1, HL.out, by go_num, HK, hM, bN, bX⟩
                    case measure => simp [intOf]; omega
                  · have hd2 : downsE ds ≠ 0 := hd
                    have R := Lib.hid (show r = downsE ds by rw [HR.out, firstE_some HE.out hi (by rw [he]; exact hd2), he])
                    generalize downsE ds = v at *
                    have hv : (v != 0) = true := by simp [hd2]
                    clear he hE hkb hhp ho hd hd2
                    go_wp2_with fail
                    refine CO.out.mono ?_
                    rintro e w5 ⟨rfl, hb5⟩
                    have bX := bX.st hb5; have bZ := bZ.below hb5 bZ.lt; have bN := bN.below hb5 bN.lt; have hM := hM.st hb5; have q0 : World.cell? w5 ⟨wr.heap.size, 0, none⟩ = some (.string nm) := bZ.cell 0 rfl; have q1 : World.cell? w5 ⟨wr.heap.size, 1, none⟩ = some (.string pt) := bZ.cell 1 rfl; have q2 : World.cell? w5 ⟨wr.heap.size, 2, none⟩ = some (.int .i64 kd) := bZ.cell 2 rfl; have q3 : World.cell? w5 ⟨wr.heap.size, 3, none⟩ = some (.int .i64 ln) := bZ.cell 3 rfl; have q4 : World.cell? w5 ⟨wr.heap.size, 4, none⟩ = some (.slice oA os.length oc) := bZ.cell 4 rfl; have q5 : World.cell? w5 ⟨wr.heap.size, 5, none⟩ = some (.slice dA ds.length dc) := bZ.cell 5 rfl; have n0 : World.cell? w5 ⟨w.heap.size, 0, none⟩ = some (.slice pA ps.length pc) := bN.cell 0 rfl; have n1 : World.cell? w5 ⟨w.heap.size, 1, none⟩ = some (.slice lA ln2 lc) := bN.cell 1 rfl
                    go_wp2_with fail
                    refine (CD.out w5 hb5).mono ?_
                    rintro e w6 ⟨rfl, hb6⟩
                    have bX := bX.st hb6; have bZ := bZ.below hb6 bZ.lt; have bN := bN.below hb6 bN.lt; have hM := hM.st hb6; have q0 : World.cell? w6 ⟨wr.heap.size, 0, none⟩ = some (.string nm) := bZ.cell 0 rfl; have q1 : World.cell? w6 ⟨wr.heap.size, 1, none⟩ = some (.string pt) := bZ.cell 1 rfl; have q2 : World.cell? w6 ⟨wr.heap.size, 2, none⟩ = some (.int .i64 kd) := bZ.cell 2 rfl; have q3 : World.cell? w6 ⟨wr.heap.size, 3, none⟩ = some (.int .i64 ln) := bZ.cell 3 rfl; have q4 : World.cell? w6 ⟨wr.heap.size, 4, none⟩ = some (.slice oA os.length oc) := bZ.cell 4 rfl; have q5 : World.cell? w6 ⟨wr.heap.size, 5, none⟩ = some (.slice dA ds.length dc) := bZ.cell 5 rfl; have n0 : World.cell? w6 ⟨w.heap.size, 0, none⟩ = some (.slice pA ps.length pc) := bN.cell 0 rfl; have n1 : World.cell? w6 ⟨w.heap.size, 1, none⟩ = some (.slice lA ln2 lc) := bN.cell 1 rfl
                    go_wp2_with fail
                    go_ret
                    rw [R.out]
                    exact ⟨rfl, bX⟩
                · rw [oneE_off hhp hkb ho] at he
                  have ho2 : offsE os ≠ 0 := ho
                  have R := Lib.hid (show r = offsE os by rw [HR.out, firstE_some HE.out hi (by rw [he]; exact ho2), he])
                  generalize offsE os = v at *
                  have hv : (v != 0) = true := by simp [ho2]
                  clear he hkb hhp ho ho2 CD
                  go_wp2_with fail
                  refine CO.out.mono ?_
                  rintro e w5 ⟨rfl, hb5⟩
                  have bX := bX.st hb5; have bZ := bZ.below hb5 bZ.lt; have bN := bN.below hb5 bN.lt; have hM := hM.st hb5; have q0 : World.cell? w5 ⟨wr.heap.size, 0, none⟩ = some (.string nm) := bZ.cell 0 rfl; have q1 : World.cell? w5 ⟨wr.heap.size, 1, none⟩ = some (.string pt) := bZ.cell 1 rfl; have q2 : World.cell? w5 ⟨wr.heap.size, 2, none⟩ = some (.int .i64 kd) := bZ.cell 2 rfl; have q3 : World.cell? w5 ⟨wr.heap.size, 3, none⟩ = some (.int .i64 ln) := bZ.cell 3 rfl; have q4 : World.cell? w5 ⟨wr.heap.size, 4, none⟩ = some (.slice oA os.length oc) := bZ.cell 4 rfl; have q5 : World.cell? w5 ⟨wr.heap.size, 5, none⟩ = some (.slice dA ds.length dc) := bZ.cell 5 rfl; have n0 : World.cell? w5 ⟨w.heap.size, 0, none⟩ = some (.slice pA ps.length pc) := bN.cell 0 rfl; have n1 : World.cell? w5 ⟨w.heap.size, 1, none⟩ = some (.slice lA ln2 lc) := bN.cell 1 rfl
                  go_wp2_with fail
                  go_ret
                  rw [R.out]
                  exact ⟨rfl, bX⟩
          · rw [hdup, devX_9 hnm] at he
            obtain ⟨hy1, hy2⟩ := nameL_yes hdup
            have R := Lib.hid (show r = 9 by rw [HR.out, firstE_some HE.out hi (by rw [he]; decide), he])
            clear hnm hdup he CPd hok
            go_wp2_with fail
            refine CN.out.mono ?_
            rintro e w2 ⟨rfl, hb2⟩
            have bX := bX.st hb2; have bZ := bZ.below hb2 bZ.lt; have bN := bN.below hb2 bN.lt; have hM := hM.st hb2; have q0 : World.cell? w2 ⟨wr.heap.size, 0, none⟩ = some (.string nm) := bZ.cell 0 rfl; have q1 : World.cell? w2 ⟨wr.heap.size, 1, none⟩ = some (.string pt) := bZ.cell 1 rfl; have q2 : World.cell? w2 ⟨wr.heap.size, 2, none⟩ = some (.int .i64 kd) := bZ.cell 2 rfl; have q3 : World.cell? w2 ⟨wr.heap.size, 3, none⟩ = some (.int .i64 ln) := bZ.cell 3 rfl; have q4 : World.cell? w2 ⟨wr.heap.size, 4, none⟩ = some (.slice oA os.length oc) := bZ.cell 4 rfl; have q5 : World.cell? w2 ⟨wr.heap.size, 5, none⟩ = some (.slice dA ds.length dc) := bZ.cell 5 rfl; have n0 : World.cell? w2 ⟨w.heap.size, 0, none⟩ = some (.slice pA ps.length pc) := bN.cell 0 rfl; have n1 : World.cell? w2 ⟨w.heap.size, 1, none⟩ = some (.slice lA ln2 lc) := bN.cell 1 rfl
            have hlook := hM.look_at (t := 60) (Go.Maps.string_keyed Try.underlying9) Try.underlying60 hkey hy1 hy2 false
            simp only [Bool.false_eq_true, if_false] at hlook
            clear hy1 hy2
            go_wp2_with fail
            go_ret
            rw [R.out]
            exact ⟨rfl, bX⟩
      · obtain rfl : k = l.length := by omega
        have R := Lib.hid (show r = 0 by rw [HR.out, firstE_none HE.out])
        go_wp2
        go_ret
        rw [R.out]
        exact ⟨rfl, bX⟩
end Go.Proofs.Ytflihhikofkheaa
