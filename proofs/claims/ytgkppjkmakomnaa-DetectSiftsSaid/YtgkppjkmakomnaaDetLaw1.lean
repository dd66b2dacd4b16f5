/- The law DetectChecks, walked; what the laws share. -/
import Derived.Test.YtgkppjkmakomnaaDetAwake
import Derived.Test.YtgkppjkmakomnaaDetLawFns
namespace Go.Proofs.Ytgkppjkmakomnaa
open Go.RowKit Go.Lib

theorem DevsOk.sm {l : List Dv} (h : DevsOk l) : ∀ y ∈ l, y.os.length ≤ 100 ∧ y.ds.length ≤ 100 := fun y hy => by have := h.2 y hy; omega
theorem DevsOk.pt {l : List Dv} (h : DevsOk l) : ∀ y ∈ l, y.pt.size ≤ 100 := fun y hy => by have := h.2 y hy; omega
theorem DevsOk.len {l : List Dv} (h : DevsOk l) : l.length ≤ 1000 := by have := h.1; omega
def SeqOk (d : Dt) : Prop := (Lit.int .i64 d.seq).wf = true
theorem SeqOk.src {d : Dt} (h : SeqOk d) (hz : SzD d) : SrcOk (srcOf d) := ⟨hz.1, h⟩
theorem SiftOf.sz {l : List Dv} {ds : List Dt} {S : List Sn} {R : List Rj} (h : SiftOf l ds S R) (hp : ∀ y ∈ l, y.pt.size ≤ 100) (hz : ∀ x ∈ ds, SzD x) : (∀ x ∈ S, SzS x) ∧ (∀ x ∈ R, SzD x.d) := by
  refine ⟨fun s hs => ?_, fun r hr => ?_⟩
  · obtain ⟨d, hd, _, rfl⟩ := (h.2.2.1 s).1 hs
    exact corS_sz hp (hz d hd)
  · obtain ⟨d, hd, _, rfl⟩ := (h.2.2.2 r).1 hr
    exact hz d hd

set_option maxRecDepth 100000 in
set_option maxHeartbeats 8000000 in
theorem detectChecks_walk {A : Option Addr} (c : Nat) {l : List Dv} (d : Dt) {w : World} (h : Rd encD 6 w w.heap.size A l) (hz : DsOk w l) (hm : l.length ≤ 9223372036854775807) :
    Calls Try.prog 3 #[.slice A l.length c, DtV d] w fun e w' => e = .returned (.bool true) ∧ Below w.heap.size w w' := by
  have CF := Lib.hid (fun (X : World) (hX : Below w.heap.size w X) => fewDevices_any c (h.st hX) hm)
  have CH := Lib.hid (fun (X : World) => short_any d X)
  have CC := Lib.hid (fun (g : DevsOk l) (q : SzD d) (X : World) (hX : Below w.heap.size w X) => correct_any (l := l) c d (h.st hX) (hz.st hX) g.sm g.len q)
  have CD := Lib.hid (fun (g : DevsOk l) (q : SzD d) (X : World) (hX : Below w.heap.size w X) => rcorrect_any (l := l) c d (h.st hX) (hz.st hX) g.sm g.len q)
  have CK := Lib.hid (fun (g : DevsOk l) (q : SzD d) (X : World) (hX : Below w.heap.size w X) => check_any (l := l) c d (h.st hX) (hz.st hX) g.sm g.len q)
  have CS := Lib.hid (fun (g : DevsOk l) (q : SzD d) (X : World) => sameSn_true (corS l d) (corS_sz g.pt q) X)
  simp only [CorR] at CC CD
  clear h hz hm
  generalize corS l d = s at *
  generalize corW l d = cw at *
  have e1 : (cw == cw) = true := by simp
  obtain ⟨dv, sq, tm, tg, pl, ax, sc⟩ := d
  obtain ⟨⟨s1, s2, s3, s4, s5, s6, s7⟩, st, sp, sl, sk⟩ := s
  simp only [DtV, SnV] at *
  obtain ⟨Y1, hY1⟩ : ∃ Y, w.alloc (.cells #[.string dv, .int .i64 sq, .int .i64 tm, .string tg, .string pl, .int .i64 ax, .int .i64 sc] 24) = Y := ⟨_, rfl⟩
  have bW : Below w.heap.size w Y1 := by rw [← hY1]; exact (Below.refl _ w).al _
  have BA : Blk Y1 w.heap.size #[.string dv, .int .i64 sq, .int .i64 tm, .string tg, .string pl, .int .i64 ax, .int .i64 sc] 24 := by rw [← hY1]; exact Blk.new w _ _
  go_enter Try.func3, Try.ntmps3
  go_wp2_with fail
  clear hY1
  refine (CF.out _ bW).mono ?_
  rintro e w2 ⟨b, rfl, hb, hbn⟩
  have bW := bW.st hbn; have BA := BA.below hbn BA.lt
  clear hbn CF
  cases b
  · go_wp2_with fail; refine (awake_any _).mono ?_; rintro e wl ⟨rfl, hbl⟩; have bL := bW.st hbl; go_wp2_with fail; go_ret; exact ⟨rfl, bL⟩
  · have G := Lib.hid (hb rfl)
    clear hb
    have p0 := BA.cell 0 (v := .string dv) rfl; have p1 := BA.cell 1 (v := .int .i64 sq) rfl; have p2 := BA.cell 2 (v := .int .i64 tm) rfl; have p3 := BA.cell 3 (v := .string tg) rfl; have p4 := BA.cell 4 (v := .string pl) rfl; have p5 := BA.cell 5 (v := .int .i64 ax) rfl; have p6 := BA.cell 6 (v := .int .i64 sc) rfl
    go_wp2_with fail
    clear p0 p1 p2 p3 p4 p5 p6
    refine (CH.out _).mono ?_
    rintro e w3 ⟨b, rfl, hb, hbn⟩
    have bW := bW.st hbn; have BA := BA.below hbn BA.lt
    clear hbn CH
    cases b
    · go_wp2_with fail; refine (awake_any _).mono ?_; rintro e wl ⟨rfl, hbl⟩; have bL := bW.st hbl; go_wp2_with fail; go_ret; exact ⟨rfl, bL⟩
    · have Q := Lib.hid (hb rfl)
      have CC := Lib.hid (CC.out G.out Q.out)
      have CD := Lib.hid (CD.out G.out Q.out)
      have CK := Lib.hid (CK.out G.out Q.out)
      have CS := Lib.hid (CS.out G.out Q.out)
      clear hb
      go_wp2_with (refine wpList_boxLoad rfl (ty := 24) (x := .tmp 3) (cs := #[.string dv, .int .i64 sq, .int .i64 tm, .string tg, .string pl, .int .i64 ax, .int .i64 sc]) rfl BA rfl ⟨_, Try.underlying24, by kernel_rfl⟩ ?_)
      refine (CC.out _ bW).mono ?_
      rintro e w4 ⟨rfl, hbn⟩
      have bW := bW.st hbn; have BA := BA.below hbn BA.lt
      obtain ⟨Z, hZ⟩ : ∃ Z, w4.alloc (.cells #[.string ⟨#[]⟩, .int .i64 0, .int .i64 0, .string ⟨#[]⟩, .string ⟨#[]⟩, .int .i64 0, .int .i64 0, .int .i64 0, .string ⟨#[]⟩, .int .i64 0, .int .i64 0] 29) = Z := ⟨_, rfl⟩
      have bz : Below w4.heap.size w4 Z := by rw [← hZ]; exact (Below.refl _ _).al _
      have BZ : Blk Z w4.heap.size #[.string ⟨#[]⟩, .int .i64 0, .int .i64 0, .string ⟨#[]⟩, .string ⟨#[]⟩, .int .i64 0, .int .i64 0, .int .i64 0, .string ⟨#[]⟩, .int .i64 0, .int .i64 0] 29 := by rw [← hZ]; exact Blk.new _ _ _
      clear hbn CC
      go_wp2_with (first | (refine wpList_boxStore rfl (ty := 29) (x := .tmp 5) (y := .tmp 22) rfl BZ rfl rfl (by kernel_rfl) rfl (by kernel_rfl) ?_; intro W4 B5 hoz hbz; have hbn := hbz _ _ (Nat.le_refl _) bz; have bW := bW.st hbn; have BA := BA.below hbn BA.lt) | (refine wpList_boxLoad rfl (ty := 24) (x := .tmp 3) (cs := #[.string dv, .int .i64 sq, .int .i64 tm, .string tg, .string pl, .int .i64 ax, .int .i64 sc]) rfl BA rfl ⟨_, Try.underlying24, by kernel_rfl⟩ ?_))
      clear hoz hbz hZ BZ bz hbn
      refine (CD.out _ bW).mono ?_
      rintro e w5 ⟨rfl, hbn⟩
      have bW := bW.st hbn; have BA := BA.below hbn BA.lt
      have B5 := B5.below hbn B5.lt
      obtain ⟨Z, hZ⟩ : ∃ Z, w5.alloc (.cells #[.string ⟨#[]⟩, .int .i64 0, .int .i64 0, .string ⟨#[]⟩, .string ⟨#[]⟩, .int .i64 0, .int .i64 0, .int .i64 0, .string ⟨#[]⟩, .int .i64 0, .int .i64 0] 29) = Z := ⟨_, rfl⟩
      have bz : Below w5.heap.size w5 Z := by rw [← hZ]; exact (Below.refl _ _).al _
      have BZ : Blk Z w5.heap.size #[.string ⟨#[]⟩, .int .i64 0, .int .i64 0, .string ⟨#[]⟩, .string ⟨#[]⟩, .int .i64 0, .int .i64 0, .int .i64 0, .string ⟨#[]⟩, .int .i64 0, .int .i64 0] 29 := by rw [← hZ]; exact Blk.new _ _ _
      clear hbn CD
      go_wp2_with (first | (refine wpList_boxStore rfl (ty := 29) (x := .tmp 7) (y := .tmp 28) rfl BZ rfl rfl (by kernel_rfl) rfl (by kernel_rfl) ?_; intro W5 B7 hoz hbz; have hbn := hbz _ _ (Nat.le_refl _) bz; have bW := bW.st hbn; have BA := BA.below hbn BA.lt; have B5 := B5.below hbn B5.lt; have x0q := B5.cell 0 (v := .string s1) rfl; have x1q := B5.cell 1 (v := .int .i64 s2) rfl; have x2q := B5.cell 2 (v := .int .i64 s3) rfl; have x3q := B5.cell 3 (v := .string s4) rfl; have x4q := B5.cell 4 (v := .string s5) rfl; have x5q := B5.cell 5 (v := .int .i64 s6) rfl; have x6q := B5.cell 6 (v := .int .i64 s7) rfl; have x7q := B5.cell 7 (v := .int .i64 st) rfl; have x8q := B5.cell 8 (v := .string sp) rfl; have x9q := B5.cell 9 (v := .int .i64 sl) rfl; have x10q := B5.cell 10 (v := .int .i64 sk) rfl; have x0r := B7.cell 0 (v := .string s1) rfl; have x1r := B7.cell 1 (v := .int .i64 s2) rfl; have x2r := B7.cell 2 (v := .int .i64 s3) rfl; have x3r := B7.cell 3 (v := .string s4) rfl; have x4r := B7.cell 4 (v := .string s5) rfl; have x5r := B7.cell 5 (v := .int .i64 s6) rfl; have x6r := B7.cell 6 (v := .int .i64 s7) rfl; have x7r := B7.cell 7 (v := .int .i64 st) rfl; have x8r := B7.cell 8 (v := .string sp) rfl; have x9r := B7.cell 9 (v := .int .i64 sl) rfl; have x10r := B7.cell 10 (v := .int .i64 sk) rfl))
      clear hoz hbz hZ BZ bz hbn
      clear x0q x1q x2q x3q x4q x5q x6q x7q x8q x9q x10q
      clear x0r x1r x2r x3r x4r x5r x6r x7r x8r x9r x10r
      refine (CS.out _).mono ?_
      rintro e w6 ⟨rfl, hg⟩
      have hbn := hg.below
      have bW := bW.st hbn; have BA := BA.below hbn BA.lt
      clear hg hbn CS
      have p0 := BA.cell 0 (v := .string dv) rfl; have p1 := BA.cell 1 (v := .int .i64 sq) rfl; have p2 := BA.cell 2 (v := .int .i64 tm) rfl; have p3 := BA.cell 3 (v := .string tg) rfl; have p4 := BA.cell 4 (v := .string pl) rfl; have p5 := BA.cell 5 (v := .int .i64 ax) rfl; have p6 := BA.cell 6 (v := .int .i64 sc) rfl
      go_wp2_with fail
      clear p0 p1 p2 p3 p4 p5 p6
      refine (CK.out _ bW).mono ?_
      rintro e w7 ⟨rfl, hbn⟩
      have bW := bW.st hbn
      clear hbn CK
      go_wp2_with fail; refine (awake_any _).mono ?_; rintro e wl ⟨rfl, hbl⟩; have bL := bW.st hbl; go_wp2_with fail; go_ret; exact ⟨rfl, bL⟩
end Go.Proofs.Ytgkppjkmakomnaa
