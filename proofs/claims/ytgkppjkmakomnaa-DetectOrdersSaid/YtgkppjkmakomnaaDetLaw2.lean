/- The laws DetectSifts and DetectAddsAny, walked. -/
import Derived.Test.YtgkppjkmakomnaaDetLaw1
namespace Go.Proofs.Ytgkppjkmakomnaa
open Go.RowKit Go.Lib

set_option maxRecDepth 100000 in
set_option maxHeartbeats 8000000 in
theorem detectSifts_walk {A B : Option Addr} (c cb : Nat) {l : List Dv} {ds : List Dt} {w : World} (h : Rd encD 6 w w.heap.size A l) (hz : DsOk w l) (hm : l.length ≤ 9223372036854775807) (hd : Rd encDt 7 w w.heap.size B ds) (hm2 : ds.length ≤ 9223372036854775807) (hk : ∀ x ∈ ds, SeqOk x) :
    Calls Try.prog 6 #[.slice A l.length c, .slice B ds.length cb] w fun e w' => e = .returned (.bool true) ∧ Below w.heap.size w w' := by
  have CF := Lib.hid (fun (X : World) (hX : Below w.heap.size w X) => fewDevices_any c (h.st hX) hm)
  have CW := Lib.hid (fun (X : World) (hX : Below w.heap.size w X) => few_any cb (hd.st hX) hm2)
  have CC := Lib.hid (fun (g : DevsOk l) (q : FwOk ds) (X : World) (hX : Below w.heap.size w X) => sift_any (l := l) c cb (h.st hX) (hz.st hX) g.sm g.len (hd.st hX) (by have := q.1; omega) q.2 (fun x hx => (hk x hx).src (q.2 x hx)))
  have CD := Lib.hid (fun (g : DevsOk l) (q : FwOk ds) (X : World) (hX : Below w.heap.size w X) => rsift_any (l := l) c cb (h.st hX) (hz.st hX) g.sm g.len g.pt (hd.st hX) (by have := q.1; omega) q.2)
  clear h hz hm hd hm2 hk
  have bW := Below.refl w.heap.size w
  go_enter Try.func6, Try.ntmps6
  go_wp2_with fail
  refine (CF.out _ bW).mono ?_
  rintro e w2 ⟨b, rfl, hb, hbn⟩
  have bW := bW.st hbn
  clear hbn CF
  cases b
  · go_wp2_with fail; refine (awake_any _).mono ?_; rintro e wl ⟨rfl, hbl⟩; have bL := bW.st hbl; go_wp2_with fail; go_ret; exact ⟨rfl, bL⟩
  · have G := Lib.hid (hb rfl)
    clear hb
    go_wp2_with fail
    refine (CW.out _ bW).mono ?_
    rintro e w3 ⟨b, rfl, hb, hbn⟩
    have bW := bW.st hbn
    clear hbn CW
    cases b
    · go_wp2_with fail; refine (awake_any _).mono ?_; rintro e wl ⟨rfl, hbl⟩; have bL := bW.st hbl; go_wp2_with fail; go_ret; exact ⟨rfl, bL⟩
    · have Q := Lib.hid (hb rfl)
      have CC := Lib.hid (CC.out G.out Q.out)
      have CD := Lib.hid (CD.out G.out Q.out)
      clear hb
      go_wp2_with fail
      refine (CC.out _ bW).mono ?_
      rintro e w4 ⟨S, R, As, Ar, cs, cr, hof, hl1, hl2, rfl, rs, rr, hbn⟩
      have bW := bW.st hbn
      clear hbn CC
      have HO := Lib.hid hof
      have HL := Lib.hid (And.intro hl1 hl2)
      have H1 := Lib.hid (And.intro rs rr)
      clear hof hl1 hl2 rs rr
      go_wp2_with fail
      refine (CD.out _ bW).mono ?_
      rintro e w5 ⟨S2, R2, As2, Ar2, cs2, cr2, hof, _, _, he, rs2, rr2, hbn⟩
      obtain ⟨rfl, rfl⟩ := SiftOf.eq (fun _ => Iff.rfl) HO.out hof
      subst he
      have bW := bW.st hbn
      have hsz := hof.sz G.out.pt Q.out.2
      have HS := Lib.hid (fun (X : World) (hX : Below w5.heap.size w5 X) => sameSns_true cs cs2 ((H1.out.1.st hbn).st hX) (rs2.st hX) (by have := HL.out.1; have := Q.out.1; omega) hsz.1)
      have HR := Lib.hid (fun (X : World) (hX : Below w5.heap.size w5 X) => sameRjs_true cr cr2 ((H1.out.2.st hbn).st hX) (rr2.st hX) (by have := HL.out.2; have := Q.out.1; omega) hsz.2)
      clear hbn CD H1 HL HO hof rs2 rr2 hsz
      go_wp2_with fail; refine (HS.out _ (Below.refl _ _)).mono ?_; rintro e wq ⟨rfl, hbn⟩; have bQ := hbn; have bW := bW.st hbn; go_wp2_with fail; refine (HR.out _ bQ).mono ?_; rintro e wr ⟨rfl, hbn⟩; have bW := bW.st hbn; clear hbn; go_wp2_with fail; refine (awake_any _).mono ?_; rintro e wl ⟨rfl, hbl⟩; have bL := bW.st hbl; go_wp2_with fail; go_ret; exact ⟨rfl, bL⟩

theorem addD_mem (S : List Sn) (R : List Rj) (d x : Dt) : x ∈ addD S R d ↔ x ∈ rawL S R ++ [d] := by
  unfold addD rawL
  simp only [List.mem_cons, List.mem_append, List.not_mem_nil, or_false]
  exact ⟨fun h => h.elim Or.inr Or.inl, fun h => h.elim Or.inr Or.inl⟩

set_option maxRecDepth 100000 in
set_option maxHeartbeats 8000000 in
theorem detectAddsAny_walk {A sA rA : Option Addr} (c sc_ rc : Nat) {l : List Dv} {S : List Sn} {R : List Rj} (d : Dt) {w : World} (h : Rd encD 6 w w.heap.size A l) (hz : DsOk w l) (hm : l.length ≤ 9223372036854775807) (hS : Rd encSn 11 w w.heap.size sA S) (hR : Rd encRj 8 w w.heap.size rA R) (hm2 : S.length * 120 ≤ 140737488355328) (hm3 : R.length * 88 ≤ 140737488355328) (hk : ∀ x ∈ S, SeqOk x.d) (hk2 : ∀ x ∈ R, SeqOk x.d) (hk3 : SeqOk d) :
    Calls Try.prog 8 #[.slice A l.length c, .agg #[.slice sA S.length sc_, .slice rA R.length rc], DtV d] w fun e w' => e = .returned (.bool true) ∧ Below w.heap.size w w' := by
  have hka : ∀ x ∈ addD S R d, SeqOk x := fun x hx => by
    simp only [addD, List.mem_cons, List.mem_append, List.mem_map] at hx
    rcases hx with rfl | ⟨y, hy, rfl⟩ | ⟨y, hy, rfl⟩
    · exact hk3
    · exact hk y hy
    · exact hk2 y hy
  have CF := Lib.hid (fun (X : World) (hX : Below w.heap.size w X) => fewDevices_any c (h.st hX) hm)
  have CQ := Lib.hid (fun (X : World) (hX : Below w.heap.size w X) => rRaw_any sc_ rc (hS.st hX) (hR.st hX) hm2 hm3)
  have hlr := Lib.hid (rawL_len S R)
  have CW := Lib.hid (fun (X : World) (A : Option Addr) (c : Nat) (hd : Rd encDt 7 X X.heap.size A (rawL S R)) => few_any c hd (by rw [rawL_len]; omega))
  have CH := Lib.hid (fun (X : World) => short_any d X)
  have HZA : FwOk (rawL S R) → SzD d → ∀ x ∈ rawL S R ++ [d], SzD x := fun q z x hx => by
    rcases List.mem_append.1 hx with hx | hx
    · exact q.2 x hx
    · rw [List.mem_singleton] at hx; subst hx; exact z
  have HZB : FwOk (rawL S R) → SzD d → ∀ x ∈ addD S R d, SzD x := fun q z x hx => HZA q z x ((addD_mem S R d x).1 hx)
  have HZA2 := Lib.hid HZA
  have CC := Lib.hid (fun (g : DevsOk l) (q : FwOk (rawL S R)) (z : SzD d) (X : World) (hX : Below w.heap.size w X) => add_any (l := l) c sc_ rc d (h.st hX) (hz.st hX) g.sm g.len (hS.st hX) (hR.st hX) (by have := q.1; rw [rawL_len] at this; omega) (HZB q z) (fun x hx => (hka x hx).src (HZB q z x hx)))
  have CD := Lib.hid (fun (g : DevsOk l) (q : FwOk (rawL S R)) (z : SzD d) (X : World) (hX : Below w.heap.size w X) => rAdd_any (l := l) c sc_ rc d (h.st hX) (hz.st hX) g.sm g.len g.pt (hS.st hX) (hR.st hX) (by have := q.1; rw [rawL_len] at this; omega) (HZA q z))
  have HME := Lib.hid (fun x => addD_mem S R d x)
  have HLL := Lib.hid (addD_len S R d)
  clear h hz hm hS hR hm2 hm3 hk hk2 hk3 hka HZA HZB
  obtain ⟨dv, sq, tm, tg, pl, ax, sc⟩ := d
  simp only [DtV] at *
  obtain ⟨Y0, hY0⟩ : ∃ Y, w.alloc (.cells #[.slice sA S.length sc_, .slice rA R.length rc] 52) = Y := ⟨_, rfl⟩
  have b0 : Below w.heap.size w Y0 := by rw [← hY0]; exact (Below.refl _ w).al _
  have BK : Blk Y0 w.heap.size #[.slice sA S.length sc_, .slice rA R.length rc] 52 := by rw [← hY0]; exact Blk.new w _ _
  obtain ⟨Y1, hY1⟩ : ∃ Y, Y0.alloc (.cells #[.string dv, .int .i64 sq, .int .i64 tm, .string tg, .string pl, .int .i64 ax, .int .i64 sc] 24) = Y := ⟨_, rfl⟩
  have b1 : Below Y0.heap.size Y0 Y1 := by rw [← hY1]; exact (Below.refl _ Y0).al _
  have bW := b0.st b1
  have BA : Blk Y1 Y0.heap.size #[.string dv, .int .i64 sq, .int .i64 tm, .string tg, .string pl, .int .i64 ax, .int .i64 sc] 24 := by rw [← hY1]; exact Blk.new Y0 _ _
  have BK := BK.below b1 BK.lt
  have k0 := BK.cell 0 (v := .slice sA S.length sc_) rfl
  have k1 := BK.cell 1 (v := .slice rA R.length rc) rfl
  go_enter Try.func8, Try.ntmps8
  go_wp2_with fail
  clear hY0 hY1 b0 b1 k0 k1
  refine (CQ.out _ bW).mono ?_
  rintro e w1 ⟨Ao, co, rfl, hown, hbn⟩
  have rd := hown.rd encDt_ok
  have bW := bW.st hbn; have BA := BA.below hbn BA.lt
  have BK := BK.below hbn BK.lt
  clear hown hbn CQ
  go_wp2_with fail
  refine (CF.out _ bW).mono ?_
  rintro e w2 ⟨b, rfl, hb, hbn⟩
  have bW := bW.st hbn; have BA := BA.below hbn BA.lt
  have BK := BK.below hbn BK.lt
  have rd := rd.st hbn
  clear hbn CF
  cases b
  · go_wp2_with fail; refine (awake_any _).mono ?_; rintro e wl ⟨rfl, hbl⟩; have bL := bW.st hbl; go_wp2_with fail; go_ret; exact ⟨rfl, bL⟩
  · have G := Lib.hid (hb rfl)
    clear hb
    have CW1 := Lib.hid (CW.out _ _ co rd)
    go_wp2_with fail
    refine (CW1.out).mono ?_
    rintro e w3 ⟨b, rfl, hb, hbn⟩
    have bW := bW.st hbn; have BA := BA.below hbn BA.lt
    have BK := BK.below hbn BK.lt
    clear hbn CW CW1 rd
    cases b
    · go_wp2_with fail; refine (awake_any _).mono ?_; rintro e wl ⟨rfl, hbl⟩; have bL := bW.st hbl; go_wp2_with fail; go_ret; exact ⟨rfl, bL⟩
    · have Q := Lib.hid (hb rfl)
      clear hb
      have p0 := BA.cell 0 (v := .string dv) rfl; have p1 := BA.cell 1 (v := .int .i64 sq) rfl; have p2 := BA.cell 2 (v := .int .i64 tm) rfl; have p3 := BA.cell 3 (v := .string tg) rfl; have p4 := BA.cell 4 (v := .string pl) rfl; have p5 := BA.cell 5 (v := .int .i64 ax) rfl; have p6 := BA.cell 6 (v := .int .i64 sc) rfl
      go_wp2_with fail
      clear p0 p1 p2 p3 p4 p5 p6
      refine (CH.out _).mono ?_
      rintro e w4 ⟨b, rfl, hb, hbn⟩
      have bW := bW.st hbn; have BA := BA.below hbn BA.lt
      have BK := BK.below hbn BK.lt
      clear hbn CH
      cases b
      · go_wp2_with fail; refine (awake_any _).mono ?_; rintro e wl ⟨rfl, hbl⟩; have bL := bW.st hbl; go_wp2_with fail; go_ret; exact ⟨rfl, bL⟩
      · have Z := Lib.hid (hb rfl)
        have CC := Lib.hid (CC.out G.out Q.out Z.out)
        have CD := Lib.hid (CD.out G.out Q.out Z.out)
        have HZA := Lib.hid (HZA2.out Q.out Z.out)
        clear hb
        have k0 := BK.cell 0 (v := .slice sA S.length sc_) rfl
        have k1 := BK.cell 1 (v := .slice rA R.length rc) rfl
        go_wp2_with (refine wpList_boxLoad rfl (ty := 24) (x := .tmp 5) (cs := #[.string dv, .int .i64 sq, .int .i64 tm, .string tg, .string pl, .int .i64 ax, .int .i64 sc]) rfl BA rfl ⟨_, Try.underlying24, by kernel_rfl⟩ ?_)
        refine (CC.out _ bW).mono ?_
        rintro e w5 ⟨S', R', As, Ar, cs, cr, hof, hl1, hl2, rfl, rs, rr, hbn⟩
        have bW := bW.st hbn; have BA := BA.below hbn BA.lt
        have BK := BK.below hbn BK.lt
        clear hbn CC k0 k1
        have HO := Lib.hid hof
        have HL := Lib.hid (And.intro hl1 hl2)
        have H1 := Lib.hid (And.intro rs rr)
        clear hof hl1 hl2 rs rr
        have k0 := BK.cell 0 (v := .slice sA S.length sc_) rfl
        have k1 := BK.cell 1 (v := .slice rA R.length rc) rfl
        go_wp2_with (refine wpList_boxLoad rfl (ty := 24) (x := .tmp 5) (cs := #[.string dv, .int .i64 sq, .int .i64 tm, .string tg, .string pl, .int .i64 ax, .int .i64 sc]) rfl BA rfl ⟨_, Try.underlying24, by kernel_rfl⟩ ?_)
        refine (CD.out _ bW).mono ?_
        rintro e w6 ⟨S2, R2, As2, Ar2, cs2, cr2, hof, _, _, he, rs2, rr2, hbn⟩
        obtain ⟨rfl, rfl⟩ := SiftOf.eq HME.out HO.out hof
        subst he
        have bW := bW.st hbn
        have hsz := hof.sz G.out.pt HZA.out
        have HS := Lib.hid (fun (X : World) (hX : Below w6.heap.size w6 X) => sameSns_true cs cs2 ((H1.out.1.st hbn).st hX) (rs2.st hX) (by have := HL.out.1; have := Q.out.1; have := HLL.out; have := hlr.out; omega) hsz.1)
        have HR := Lib.hid (fun (X : World) (hX : Below w6.heap.size w6 X) => sameRjs_true cr cr2 ((H1.out.2.st hbn).st hX) (rr2.st hX) (by have := HL.out.2; have := Q.out.1; have := HLL.out; have := hlr.out; omega) hsz.2)
        clear hbn CD H1 HL HO hof rs2 rr2 hsz k0 k1
        go_wp2_with fail; refine (HS.out _ (Below.refl _ _)).mono ?_; rintro e wq ⟨rfl, hbn⟩; have bQ := hbn; have bW := bW.st hbn; go_wp2_with fail; refine (HR.out _ bQ).mono ?_; rintro e wr ⟨rfl, hbn⟩; have bW := bW.st hbn; clear hbn; go_wp2_with fail; refine (awake_any _).mono ?_; rintro e wl ⟨rfl, hbl⟩; have bL := bW.st hbl; go_wp2_with fail; go_ret; exact ⟨rfl, bL⟩

set_option maxRecDepth 100000 in
set_option maxHeartbeats 8000000 in
theorem detectAdds_walk {A B : Option Addr} (c cb : Nat) {l : List Dv} {ds : List Dt} (d : Dt) {w : World} (h : Rd encD 6 w w.heap.size A l) (hz : DsOk w l) (hm : l.length ≤ 9223372036854775807) (hd : Rd encDt 7 w w.heap.size B ds) (hm2 : ds.length ≤ 9223372036854775807) (hk : ∀ x ∈ ds, SeqOk x) (hk3 : SeqOk d) :
    Calls Try.prog 7 #[.slice A l.length c, .slice B ds.length cb, DtV d] w fun e w' => e = .returned (.bool true) ∧ Below w.heap.size w w' := by
  have CF := Lib.hid (fun (X : World) (hX : Below w.heap.size w X) => fewDevices_any c (h.st hX) hm)
  have CW := Lib.hid (fun (X : World) (hX : Below w.heap.size w X) => few_any cb (hd.st hX) hm2)
  have CH := Lib.hid (fun (X : World) => short_any d X)
  have HZA : FwOk ds → SzD d → ∀ x ∈ ds ++ [d], SzD x := fun q z x hx => by
    rcases List.mem_append.1 hx with hx | hx
    · exact q.2 x hx
    · rw [List.mem_singleton] at hx; subst hx; exact z
  have HZA2 := Lib.hid HZA
  have hka : ∀ x ∈ ds ++ [d], SeqOk x := fun x hx => by
    rcases List.mem_append.1 hx with hx | hx
    · exact hk x hx
    · rw [List.mem_singleton] at hx; subst hx; exact hk3
  have CC := Lib.hid (fun (g : DevsOk l) (q : FwOk ds) (X : World) (hX : Below w.heap.size w X) => sift_any (l := l) c cb (h.st hX) (hz.st hX) g.sm g.len (hd.st hX) (by have := q.1; omega) q.2 (fun x hx => (hk x hx).src (q.2 x hx)))
  have CA := Lib.hid (fun (g : DevsOk l) (X : World) (hX : Below w.heap.size w X) (S : List Sn) (R : List Rj) (sA rA : Option Addr) (sc_ rc : Nat) (rs : Rd encSn 11 X X.heap.size sA S) (rr : Rd encRj 8 X X.heap.size rA R) (hn : S.length + R.length ≤ 999) (z : ∀ x ∈ addD S R d, SzD x) (k : ∀ x ∈ addD S R d, SrcOk (srcOf x)) => add_any (l := l) c sc_ rc d (h.st hX) (hz.st hX) g.sm g.len rs rr hn z k)
  have CE := Lib.hid (fun (g : DevsOk l) (q : FwOk ds) (z : SzD d) (X : World) (hX : Below w.heap.size w X) (B : Option Addr) (cb : Nat) (hd : Rd encDt 7 X X.heap.size B (ds ++ [d])) => sift_any (l := l) c cb (h.st hX) (hz.st hX) g.sm g.len hd (by have := q.1; rw [List.length_append, List.length_singleton]; omega) (HZA q z) (fun x hx => (hka x hx).src (HZA q z x hx)))
  have e1 : (ds ++ [d]).length = ds.length + 1 := by simp
  rw [e1] at CE
  have HKA := Lib.hid hka
  have rd0 := Lib.hid (fun (X : World) (hX : Below w.heap.size w X) => hd.st hX)
  clear h hz hm hd hm2 hk hk3 HZA hka e1
  have HME : ∀ (S : List Sn) (R : List Rj), SiftOf l ds S R → ∀ x, x ∈ addD S R d ↔ x ∈ ds ++ [d] := fun S R ho x => by
    unfold addD
    simp only [List.mem_cons, List.mem_append, List.mem_map, List.not_mem_nil, or_false]
    have hS : (∃ s ∈ S, s.d = x) ∨ (∃ r ∈ R, r.d = x) ↔ x ∈ ds := by
      constructor
      · rintro (⟨s, hs, rfl⟩ | ⟨r, hr, rfl⟩)
        · obtain ⟨y, hy, h0, rfl⟩ := (ho.2.2.1 s).1 hs
          rw [whyF_zero h0]; exact hy
        · obtain ⟨y, hy, h0, rfl⟩ := (ho.2.2.2 r).1 hr
          exact hy
      · intro hx
        by_cases h0 : whyF l ds x = 0
        · exact Or.inl ⟨corS l x, (ho.2.2.1 _).2 ⟨x, hx, h0, rfl⟩, whyF_zero h0⟩
        · exact Or.inr ⟨⟨x, whyF l ds x⟩, (ho.2.2.2 _).2 ⟨x, hx, h0, rfl⟩, rfl⟩
    rw [hS]
    exact ⟨fun h => h.elim Or.inr Or.inl, fun h => h.elim Or.inr Or.inl⟩
  have HME := Lib.hid HME
  have HLL := Lib.hid (fun S R => addD_len S R d)
  obtain ⟨dv, sq, tm, tg, pl, ax, sc⟩ := d
  simp only [DtV] at *
  obtain ⟨Y1, hY1⟩ : ∃ Y, w.alloc (.cells #[.string dv, .int .i64 sq, .int .i64 tm, .string tg, .string pl, .int .i64 ax, .int .i64 sc] 24) = Y := ⟨_, rfl⟩
  have bW : Below w.heap.size w Y1 := by rw [← hY1]; exact (Below.refl _ w).al _
  have BA : Blk Y1 w.heap.size #[.string dv, .int .i64 sq, .int .i64 tm, .string tg, .string pl, .int .i64 ax, .int .i64 sc] 24 := by rw [← hY1]; exact Blk.new w _ _
  go_enter Try.func7, Try.ntmps7
  go_wp2_with fail
  clear hY1
  refine (CF.out _ bW).mono ?_
  rintro e w2 ⟨b, rfl, hb, hbn⟩
  have bW := bW.st hbn; have BA := BA.below hbn BA.lt
  clear hbn CF
  cases b
  · go_wp2_with fail; refine (awake_any _).mono ?_; rintro e wl ⟨rfl, hbl⟩; have bL := bW.st hbl; go_wp2_with fail; go_ret; exact ⟨rfl, bL⟩
  · have G := Lib.hid (hb rfl)
    clear hb
    go_wp2_with fail
    refine (CW.out _ bW).mono ?_
    rintro e w3 ⟨b, rfl, hb, hbn⟩
    have bW := bW.st hbn; have BA := BA.below hbn BA.lt
    clear hbn CW
    cases b
    · go_wp2_with fail; refine (awake_any _).mono ?_; rintro e wl ⟨rfl, hbl⟩; have bL := bW.st hbl; go_wp2_with fail; go_ret; exact ⟨rfl, bL⟩
    · have Q := Lib.hid (hb rfl)
      clear hb
      have p0 := BA.cell 0 (v := .string dv) rfl; have p1 := BA.cell 1 (v := .int .i64 sq) rfl; have p2 := BA.cell 2 (v := .int .i64 tm) rfl; have p3 := BA.cell 3 (v := .string tg) rfl; have p4 := BA.cell 4 (v := .string pl) rfl; have p5 := BA.cell 5 (v := .int .i64 ax) rfl; have p6 := BA.cell 6 (v := .int .i64 sc) rfl
      go_wp2_with fail
      clear p0 p1 p2 p3 p4 p5 p6
      refine (CH.out _).mono ?_
      rintro e w4 ⟨b, rfl, hb, hbn⟩
      have bW := bW.st hbn; have BA := BA.below hbn BA.lt
      clear hbn CH
      cases b
      · go_wp2_with fail; refine (awake_any _).mono ?_; rintro e wl ⟨rfl, hbl⟩; have bL := bW.st hbl; go_wp2_with fail; go_ret; exact ⟨rfl, bL⟩
      · have Z := Lib.hid (hb rfl)
        have CC := Lib.hid (CC.out G.out Q.out)
        have CA := Lib.hid (CA.out G.out)
        have CE := Lib.hid (CE.out G.out Q.out Z.out)
        have HZA := Lib.hid (HZA2.out Q.out Z.out)
        clear hb
        go_wp2_with fail
        refine (CC.out _ bW).mono ?_
        rintro e w5 ⟨S, R, As, Ar, cs, cr, hof, hl1, hl2, rfl, rs, rr, hbn⟩
        have bW := bW.st hbn; have BA := BA.below hbn BA.lt
        clear hbn CC
        have HMM := Lib.hid (HME.out S R hof)
        have CA1 := Lib.hid (CA.out _ bW S R As Ar cs cr rs rr (by have := Q.out.1; omega) (fun x hx => HZA.out x ((HMM.out x).1 hx)) (fun x hx => (HKA.out x ((HMM.out x).1 hx)).src (HZA.out x ((HMM.out x).1 hx))))
        have HL0 := Lib.hid (And.intro hl1 hl2)
        clear hof hl1 hl2 rs rr CA
        go_wp2_with (refine wpList_boxLoad rfl (ty := 24) (x := .tmp 5) (cs := #[.string dv, .int .i64 sq, .int .i64 tm, .string tg, .string pl, .int .i64 ax, .int .i64 sc]) rfl BA rfl ⟨_, Try.underlying24, by kernel_rfl⟩ ?_)
        refine (CA1.out).mono ?_
        rintro e w6 ⟨S2, R2, As2, Ar2, cs2, cr2, hof, hl1, hl2, rfl, rs, rr, hbn⟩
        have bW := bW.st hbn; have BA := BA.below hbn BA.lt
        have HO := Lib.hid hof
        have HL := Lib.hid (show S2.length ≤ 100 ∧ R2.length ≤ 100 by have := HL0.out; have := HLL.out S R; have := Q.out.1; omega)
        have H1 := Lib.hid (And.intro rs rr)
        have ownN : Own 24 encDt 7 w6 w6.heap.size none 0 ([] : List Dt) := Own.nil _ _
        have rdN := rd0.out _ bW
        have hq40 : ds.length ≤ 40 := Q.out.1
        have HBW := Lib.hid bW
        clear hbn CA1 HL0 hof hl1 hl2 rs rr bW
        go_wp2_with (first | (refine wpList_boxLoad rfl (ty := 24) (x := .tmp 5) (cs := #[.string dv, .int .i64 sq, .int .i64 tm, .string tg, .string pl, .int .i64 ax, .int .i64 sc]) rfl BA rfl ⟨_, Try.underlying24, by kernel_rfl⟩ ?_) | ((at_builtin; refine wpList_appS rfl (.tmp 42) (.tmp 43) tyDt encDt_ok rfl _ rfl (by first | rfl | simp) ownN ds rfl (by first | rfl | simp) rdN (by first | omega | (simp; done) | (simp; omega)) (by first | omega | (simp; done) | (simp; omega)) (Nat.le_refl _) ?_; intro A7 c7 w7 hown7 hb7 hs7 hf7); simp only [List.nil_append, List.length_nil, Nat.zero_add] at hown7 ⊢; have BA := BA.below hb7 BA.lt) | ((at_builtin; refine wpList_app1 rfl (.tmp 47) (.tmp 49) tyDt encDt_ok rfl (⟨dv, sq, tm, tg, pl, ax, sc⟩ : Dt) rfl _ rfl (by simp) hown7 rfl (by first | rfl | simp) (by first | omega | (simp; omega)) (by first | omega | (simp; omega)) hb7.size ?_; intro A9 c9 w9 hown9 hb9 hs9 hf9; have hbel9 := hb7.trans hb9)))
        have bW := HBW.out.st hbel9
        have hd9 : Rd encDt 7 w9 w9.heap.size A9 (ds ++ [⟨dv, sq, tm, tg, pl, ax, sc⟩]) := hown9.rd encDt_ok
        refine (CE.out _ bW _ c9 hd9).mono ?_
        rintro e wa ⟨S3, R3, As3, Ar3, cs3, cr3, hof, _, _, he, rs2, rr2, hbn⟩
        obtain ⟨rfl, rfl⟩ := SiftOf.eq HMM.out HO.out hof
        subst he
        have bW := bW.st hbn
        have hsz := hof.sz G.out.pt HZA.out
        have HS := Lib.hid (fun (X : World) (hX : Below wa.heap.size wa X) => sameSns_true cs2 cs3 (((H1.out.1.st hbel9).st hbn).st hX) (rs2.st hX) (by have := HL.out.1; omega) hsz.1)
        have HR := Lib.hid (fun (X : World) (hX : Below wa.heap.size wa X) => sameRjs_true cr2 cr3 (((H1.out.2.st hbel9).st hbn).st hX) (rr2.st hX) (by have := HL.out.2; omega) hsz.2)
        clear hbn CE H1 HL HO hof rs2 rr2 hsz
        go_wp2_with fail; refine (HS.out _ (Below.refl _ _)).mono ?_; rintro e wq ⟨rfl, hbn⟩; have bQ := hbn; have bW := bW.st hbn; go_wp2_with fail; refine (HR.out _ bQ).mono ?_; rintro e wr ⟨rfl, hbn⟩; have bW := bW.st hbn; clear hbn; go_wp2_with fail; refine (awake_any _).mono ?_; rintro e wl ⟨rfl, hbl⟩; have bL := bW.st hbl; go_wp2_with fail; go_ret; exact ⟨rfl, bL⟩
end Go.Proofs.Ytgkppjkmakomnaa
