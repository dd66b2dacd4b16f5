/- The law DetectTurns, walked. -/
import Derived.Test.YtgkppjkmakomnaaDetLaw2
namespace Go.Proofs.Ytgkppjkmakomnaa
open Go.RowKit Go.Lib

/-- the list turned: from the end down to j -/
def turnN (ds : List Dt) (j : Nat) : List Dt := (ds.drop j).reverse
theorem turnN_len (ds : List Dt) (j : Nat) : (turnN ds j).length = ds.length - j := by simp [turnN]
theorem turnN_snoc {ds : List Dt} {j : Nat} {x : Dt} (h : ds[j]? = some x) : turnN ds j = turnN ds (j + 1) ++ [x] := by
  obtain ⟨hj, rfl⟩ := List.getElem?_eq_some_iff.1 h
  unfold turnN
  rw [List.drop_eq_getElem_cons hj, List.reverse_cons]
theorem turnN_mem (ds : List Dt) (k : Nat) (x : Dt) : x ∈ ds ↔ x ∈ turnN ds k ++ ds.take (k + 1) := by
  unfold turnN
  rw [List.mem_append, List.mem_reverse]
  constructor
  · intro h
    rw [← List.take_append_drop k ds, List.mem_append] at h
    rcases h with h | h
    · right
      obtain ⟨i, hi, e⟩ := List.getElem_of_mem h
      rw [List.length_take] at hi
      rw [List.getElem_take] at e
      exact List.mem_iff_getElem.2 ⟨i, by rw [List.length_take]; omega, by rw [List.getElem_take]; exact e⟩
    · exact Or.inl h
  · rintro (h | h)
    · exact List.mem_of_mem_drop h
    · exact List.mem_of_mem_take h

set_option maxRecDepth 100000 in
set_option maxHeartbeats 8000000 in
theorem detectTurns_walk {A B : Option Addr} (c cb : Nat) {l : List Dv} {ds : List Dt} (n : Int) {w : World} (h : Rd encD 6 w w.heap.size A l) (hz : DsOk w l) (hm : l.length ≤ 9223372036854775807) (hd : Rd encDt 7 w w.heap.size B ds) (hlc : ds.length ≤ cb) (hcb : cb ≤ 9223372036854775807) (hk : ∀ x ∈ ds, SeqOk x) (hn0 : 0 ≤ n) (hn1 : n ≤ 255) :
    Calls Try.prog 9 #[.slice A l.length c, .slice B ds.length cb, .int .u8 n] w fun e w' => e = .returned (.bool true) ∧ Below w.heap.size w w' := by
  have CF := Lib.hid (fun (X : World) (hX : Below w.heap.size w X) => fewDevices_any c (h.st hX) hm)
  have CW := Lib.hid (fun (X : World) (hX : Below w.heap.size w X) => few_any cb (hd.st hX) (by omega))
  have CC := Lib.hid (fun (g : DevsOk l) (q : FwOk ds) (X : World) (hX : Below w.heap.size w X) => sift_any (l := l) c cb (h.st hX) (hz.st hX) g.sm g.len (hd.st hX) (by have := q.1; omega) q.2 (fun x hx => (hk x hx).src (q.2 x hx)))
  have CD := Lib.hid (fun (g : DevsOk l) (q : FwOk ds) (X : World) (hX : Below w.heap.size w X) (T : List Dt) (hT : ∀ x, x ∈ ds ↔ x ∈ T) (hTl : T.length ≤ 100) (B : Option Addr) (cb : Nat) (hd : Rd encDt 7 X X.heap.size B T) => sift_any (l := l) c cb (h.st hX) (hz.st hX) g.sm g.len hd (by omega) (fun x hx => q.2 x ((hT x).2 hx)) (fun x hx => (hk x ((hT x).2 hx)).src (q.2 x ((hT x).2 hx))))
  have rd0 := Lib.hid (fun (X : World) (hX : Below w.heap.size w X) => hd.st hX)
  clear h hz hm hd hk
  have bW := Below.refl w.heap.size w
  have HLC := Lib.hid (And.intro hlc hcb)
  clear hlc hcb
  by_cases h0 : ds.length = 0
  · have hl0 : ((ds.length : Int) == 0) = true := by simp [h0]
    clear h0
    go_enter Try.func9, Try.ntmps9
    go_wp2_with fail
    refine (CF.out _ bW).mono ?_
    rintro e w2 ⟨b, rfl, hb, hbn⟩
    have bW := bW.st hbn
    clear hbn CF
    cases b
    · go_wp2_with fail; refine (awake_any _).mono ?_; rintro e wl ⟨rfl, hbl⟩; have bL := bW.st hbl; go_wp2_with fail; go_ret; exact ⟨rfl, bL⟩
    · clear hb
      go_wp2_with fail
      refine (CW.out _ bW).mono ?_
      rintro e w3 ⟨b, rfl, hb, hbn⟩
      have bW := bW.st hbn
      clear hbn CW hb
      cases b
      · go_wp2_with fail; refine (awake_any _).mono ?_; rintro e wl ⟨rfl, hbl⟩; have bL := bW.st hbl; go_wp2_with fail; go_ret; exact ⟨rfl, bL⟩
      · go_wp2_with fail; refine (awake_any _).mono ?_; rintro e wl ⟨rfl, hbl⟩; have bL := bW.st hbl; go_wp2_with fail; go_ret; exact ⟨rfl, bL⟩
  · obtain ⟨k, hk⟩ : ∃ k : Nat, n.toNat % ds.length = k := ⟨_, rfl⟩
    have hkl : k < ds.length := by rw [← hk]; exact Nat.mod_lt _ (by omega)
    have hl0 : ((ds.length : Int) == 0) = false := by rw [beq_eq_false_iff_ne]; omega
    have hcv : IntKind.i64.wrap n = n := IntWalk.i64_in _ (by omega)
    have hrem : n.tmod (ds.length : Int) = (k : Int) := by
      rw [Int.tmod_eq_emod_of_nonneg hn0, ← hk]
      obtain ⟨m, rfl⟩ := Int.eq_ofNat_of_zero_le hn0
      simp
    have HK := Lib.hid hkl
    clear hk h0
    go_enter Try.func9, Try.ntmps9
    go_wp2_with fail
    refine (CF.out _ bW).mono ?_
    rintro e w2 ⟨b, rfl, hb, hbn⟩
    have bW := bW.st hbn
    clear hbn CF
    cases b
    · go_wp2_with fail; refine (awake_any _).mono ?_; rintro e wl ⟨rfl, hbl⟩; have bL := bW.st hbl; go_wp2_with fail; go_ret; exact ⟨rfl, bL⟩
    · have G := Lib.hid (hb rfl)
      clear hb
      go_wp2_with fail
      refine (CW.out _ bW).mono ?_
      rintro e w3 ⟨b, rfl, hb, hbn⟩
      have bW := bW.st hbn
      clear hbn CW
      cases b
      · go_wp2_with fail; refine (awake_any _).mono ?_; rintro e wl ⟨rfl, hbl⟩; have bL := bW.st hbl; go_wp2_with fail; go_ret; exact ⟨rfl, bL⟩
      · have Q := Lib.hid (hb rfl)
        clear hb
        have hq40 : ds.length ≤ 40 := Q.out.1
        have hw1 : IntKind.i64.wrap ((ds.length : Int) - 1) = (ds.length : Int) - 1 := IntWalk.i64_in _ (by omega)
        go_wp2_with fail
        clear hcv hrem hl0 hw1 hn0 hn1
        have H40 := Lib.hid hq40
        have HB3 := Lib.hid bW
        clear bW hkl hq40
        go_loopw [8, 9] (fun v i wr => ∃ (j : Nat) (Ao : Option Addr) (co : Nat), k ≤ j ∧ j ≤ ds.length ∧ i = .int .i64 ((j : Int) - 1) ∧ v = .slice Ao (turnN ds j).length co ∧ Own 24 encDt 7 wr w3.heap.size Ao co (turnN ds j) ∧ Below w3.heap.size w3 wr) (fun _ i _ => (intOf i + 1).toNat)
        case atStart => exact ⟨ds.length, none, 0, Nat.le_of_lt HK.out, Nat.le_refl _, rfl, by simp [turnN], by simpa [turnN] using Own.nil _ _, Below.refl _ _⟩
        case round =>
          obtain ⟨j, Ao, co, hj1, hj2, rfl, rfl, hown, bel⟩ := hrel
          by_cases hjk : j = k
          · subst hjk
            have hgk : ¬ ((j : Int) ≤ (j : Int) - 1) := by omega
            obtain ⟨T, hT⟩ : ∃ T, T = ds.take (j + 1) := ⟨_, rfl⟩
            have hTl : T.length = j + 1 := by have := HK.out; rw [hT, List.length_take]; omega
            have hw2 : IntKind.i64.wrap ((j : Int) + 1) = (T.length : Int) := (IntWalk.i64_in _ (by have := H40.out; omega)).trans (by omega)
            have hs1 : (0 : Int) ≤ (T.length : Int) := by omega
            have hs2 : (T.length : Int) ≤ (cb : Int) := by have := HLC.out.1; have := HK.out; omega
            have hs3 : ¬ ((cb : Int) < (T.length : Int)) := by omega
            have hlk : (turnN ds j).length ≤ 100 := by have := turnN_len ds j; have := H40.out; omega
            have hlt : T.length ≤ 100 := by have := H40.out; omega
            have HTL := Lib.hid (show (turnN ds j ++ T).length ≤ 100 by have := turnN_len ds j; have := H40.out; rw [List.length_append]; omega)
            have HTM := Lib.hid (fun x => show x ∈ ds ↔ x ∈ turnN ds j ++ T by rw [hT]; exact turnN_mem ds j x)
            have rdT : Rd encDt 7 wr wr.heap.size B T := by rw [hT]; exact (rd0.out _ (HB3.out.st bel)).take (j + 1)
            have HB4 := Lib.hid bel
            clear hT hTl hj1 hj2
            go_wp2_with ((at_builtin; refine wpList_appS rfl (.tmp 48) (.tmp 52) tyDt encDt_ok rfl _ rfl (by first | rfl | simp) hown T rfl (by first | rfl | simp) rdT (by first | omega | (simp; done) | (simp; omega)) (by first | omega | (simp; done) | (simp; omega)) bel.size ?_; intro A7 c7 w7 hown7 hb7 hs7 hf7))
            have bW := HB3.out.st (bel.trans hb7)
            have rd7 := hown7.rd encDt_ok
            rw [List.length_append] at HTL
            have CD1 := Lib.hid (CD.out G.out Q.out)
            clear hown7 hb7 bel hs7 hf7 CD hown rdT HB4 hw2 hs1 hs2 hs3 hgk hlk hlt
            refine (CC.out G.out Q.out _ bW).mono ?_
            rintro e w8 ⟨S, R, As, Ar, cs, cr, hof, hl1, hl2, rfl, rs, rr, hbn⟩
            have bW := bW.st hbn
            have rd8 := rd7.st hbn
            have HO := Lib.hid hof
            have HL := Lib.hid (And.intro hl1 hl2)
            have H1 := Lib.hid (And.intro rs rr)
            have CD2 := Lib.hid (CD1.out _ bW (turnN ds j ++ T) HTM.out (by rw [List.length_append]; exact HTL.out) A7 c7 rd8)
            rw [List.length_append] at CD2
            clear hbn CC hof hl1 hl2 rs rr rd7 rd8 CD1
            go_wp2_with fail
            refine CD2.out.mono ?_
            rintro e w9 ⟨S2, R2, As2, Ar2, cs2, cr2, hof, _, _, he, rs2, rr2, hbn⟩
            obtain ⟨rfl, rfl⟩ := SiftOf.eq HTM.out HO.out hof
            subst he
            have bW := bW.st hbn
            have hsz := HO.out.sz G.out.pt Q.out.2
            have HS := Lib.hid (fun (X : World) (hX : Below w9.heap.size w9 X) => sameSns_true cs cs2 ((H1.out.1.st hbn).st hX) (rs2.st hX) (by have := HL.out.1; have := H40.out; omega) hsz.1)
            have HR := Lib.hid (fun (X : World) (hX : Below w9.heap.size w9 X) => sameRjs_true cr cr2 ((H1.out.2.st hbn).st hX) (rr2.st hX) (by have := HL.out.2; have := H40.out; omega) hsz.2)
            clear hbn CD2 H1 HL HO hof rs2 rr2 hsz
            go_wp2_with fail; refine (HS.out _ (Below.refl _ _)).mono ?_; rintro e wq ⟨rfl, hbn⟩; have bQ := hbn; have bW := bW.st hbn; go_wp2_with fail; refine (HR.out _ bQ).mono ?_; rintro e wr ⟨rfl, hbn⟩; have bW := bW.st hbn; clear hbn; go_wp2_with fail; refine (awake_any _).mono ?_; rintro e wl ⟨rfl, hbl⟩; have bL := bW.st hbl; go_wp2_with fail; go_ret; exact ⟨rfl, bL⟩
          · obtain ⟨m, rfl⟩ : ∃ m, j = m + 1 := ⟨j - 1, by omega⟩
            have hmk : k ≤ m := by omega
            have hmi : ((m + 1 : Nat) : Int) - 1 = (m : Int) := by omega
            rw [hmi]
            have hgk : (k : Int) ≤ (m : Int) := by omega
            obtain ⟨b, off, x, rfl, hb, hx, d0, d1, d2, d3, d4, d5, d6⟩ := (rd0.out _ (HB3.out.st bel)).dt (i := m) (by omega)
            have HN := Lib.hid (turnN_snoc hx)
            have hi1 : (0 : Int) ≤ (m : Int) := by omega
            have hi2 : (m : Int) < (ds.length : Int) := by omega
            have hw2 : IntKind.i64.wrap ((m : Int) - 1) = (m : Int) - 1 := IntWalk.i64_in _ (by have := H40.out; omega)
            have hlk : (turnN ds (m + 1)).length ≤ 100 := by have := turnN_len ds (m + 1); have := H40.out; omega
            have HMK := Lib.hid (And.intro hmk (show m ≤ ds.length by omega))
            obtain ⟨y1, y2, y3, y4, y5, y6, y7⟩ := x
            simp only at d0 d1 d2 d3 d4 d5 d6 HN
            clear hx hb hj1 hj2 hjk hmi hmk
            go_wp2_with ((at_builtin; refine wpList_app1 rfl (.tmp 41) (.tmp 46) tyDt encDt_ok rfl (⟨y1, y2, y3, y4, y5, y6, y7⟩ : Dt) rfl _ rfl (by simp) hown rfl (by first | rfl | simp) (by first | omega | (simp; omega)) (by first | omega | (simp; omega)) bel.size ?_; intro A9 c9 w9 hown9 hb9 hs9 hf9; have hbel9 := bel.trans hb9))
            go_roundw
            case rel => exact ⟨m, A9, c9, HMK.out.1, HMK.out.2, by go_num, by rw [HN.out]; simp, by rw [HN.out]; exact hown9, hbel9⟩
            case measure => (simp [intOf]) <;> omega
end Go.Proofs.Ytgkppjkmakomnaa
