/- slices.Clone at offsets and intervals; copied. -/
import Derived.Test.YtgkppjkmakomnaaJDevEnc
import Derived.Shelf.SlicesE.Clone
import Derived.Deep.RegionWith
import Derived.Deep.RegionHeld3
namespace Go.Proofs.Ytgkppjkmakomnaa
open Go.RowKit Go.Lib

theorem tyO : TyS Try.prog 56 91 2 16 := TyS.mk' (z := .agg #[.int .i64 0, .int .i64 0]) Try.underlying56 (by kernel_rfl) rfl (by omega)

set_option maxRecDepth 100000 in
set_option maxHeartbeats 2000000 in
theorem cloneO_any {A : Option Addr} (c : Nat) {l : List Iv} {w : World} (h : Rd encIv 2 w w.heap.size A l) (hl : l.length ≤ 8796093022208) :
    Calls Try.prog 73 #[.slice A l.length c] w fun e w' => ∃ A' c', e = .returned (.slice A' l.length c') ∧ Own 91 encIv 2 w' w.heap.size A' c' l ∧ Below w.heap.size w w' := by
  have qn : ∀ (w : World) (a : Option Addr) (n c n' c' : Nat), (binOp .eql 56 (.slice a n c) (.slice none n' c')).run Try.prog w = .ok (.bool a.isNone) w := fun w a n c n' c' => Lib.run_eql_slice_nil w _ _ a n c n' c' Try.underlying56
  have H := Lib.hid h
  clear h
  cases A with
  | none =>
    have hl0 : l = [] := by
      rcases Classical.em (l = []) with q | q
      · exact q
      · obtain ⟨_, _, hA, _⟩ := H.out q
        cases hA
    subst hl0
    clear H hl
    go_enter Try.func73, Try.ntmps73
    go_wp2
    go_ret
    exact ⟨none, 0, rfl, Own.nil _ _, Below.refl _ _⟩
  | some a =>
    have hown := Own.lit (e := 91) (cs := #[]) w w.heap.size ([] : List Iv) (g := w.heap.size) encIv_ok rfl rfl (Nat.le_refl _) (by simp)
    have hb0 := (Below.refl w.heap.size w).al (.cells #[] 91)
    have hr := H.out.st hb0
    have hbs : w.heap.size ≤ (w.alloc (.cells #[] 91)).heap.size := by simp
    go_enter Try.func73, Try.ntmps73
    go_wp2_with (at_builtin; refine wpList_appS rfl (.tmp 5) (.tmp 6) tyO encIv_ok rfl _ rfl (by first | rfl | simp) hown l rfl (by first | rfl | simp) hr (by first | omega | (simp; done) | (simp; omega)) (by first | omega | (simp; done) | (simp; omega)) hbs ?_; intro A4 c4 w4 hown4 hb4 hs4 hf4)
    go_ret
    exact ⟨A4, c4, by simp, by simpa using hown4, hb0.trans hb4⟩

set_option maxRecDepth 100000 in
set_option maxHeartbeats 2000000 in
theorem cloneI_any {A : Option Addr} (c : Nat) {l : List Iv} {w : World} (h : Rd encIv 2 w w.heap.size A l) (hl : l.length ≤ 100000000000) :
    Calls Try.prog 74 #[.slice A l.length c] w fun e w' => ∃ A' c', e = .returned (.slice A' l.length c') ∧ Own 98 encIv 2 w' w.heap.size A' c' l ∧ Below w.heap.size w w' := by
  have qn : ∀ (w : World) (a : Option Addr) (n c n' c' : Nat), (binOp .eql 57 (.slice a n c) (.slice none n' c')).run Try.prog w = .ok (.bool a.isNone) w := fun w a n c n' c' => Lib.run_eql_slice_nil w _ _ a n c n' c' Try.underlying57
  have H := Lib.hid h
  clear h
  cases A with
  | none =>
    have hl0 : l = [] := by
      rcases Classical.em (l = []) with q | q
      · exact q
      · obtain ⟨_, _, hA, _⟩ := H.out q
        cases hA
    subst hl0
    clear H hl
    go_enter Try.func74, Try.ntmps74
    go_wp2
    go_ret
    exact ⟨none, 0, rfl, Own.nil _ _, Below.refl _ _⟩
  | some a =>
    have hown := Own.lit (e := 98) (cs := #[]) w w.heap.size ([] : List Iv) (g := w.heap.size) encIv_ok rfl rfl (Nat.le_refl _) (by simp)
    have hb0 := (Below.refl w.heap.size w).al (.cells #[] 98)
    have hr := H.out.st hb0
    have hbs : w.heap.size ≤ (w.alloc (.cells #[] 98)).heap.size := by simp
    go_enter Try.func74, Try.ntmps74
    go_wp2_with (at_builtin; refine wpList_appS rfl (.tmp 5) (.tmp 6) tyIv encIv_ok rfl _ rfl (by first | rfl | simp) hown l rfl (by first | rfl | simp) hr (by first | omega | (simp; done) | (simp; omega)) (by first | omega | (simp; done) | (simp; omega)) hbs ?_; intro A4 c4 w4 hown4 hb4 hs4 hf4)
    go_ret
    exact ⟨A4, c4, by simp, by simpa using hown4, hb0.trans hb4⟩

/-- a device whose slices are the call's own -/
def DOwn (w : World) (base : Nat) (d : Dv) : Prop := Own 91 encIv 2 w base d.oA d.oc d.os ∧ Own 98 encIv 2 w base d.dA d.dc d.ds
theorem DOwn.ok {w : World} {base : Nat} {d : Dv} (h : DOwn w base d) : DOk w d := ⟨h.1.rd encIv_ok, h.2.rd encIv_ok⟩
theorem DOwn.st {w w' : World} {base : Nat} {d : Dv} (h : DOwn w base d) (hb : Below w.heap.size w w') : DOwn w' base d := ⟨h.1.st hb, h.2.st hb⟩
theorem DOwn.mono {w : World} {base base' : Nat} {d : Dv} (h : DOwn w base d) (hb : base' ≤ base) : DOwn w base' d := ⟨h.1.mono hb, h.2.mono hb⟩
/-- a slice of devices of the call's own may change -/
theorem DOwn.kept {w w' : World} {base b2 : Nat} {d : Dv} {A : Option Addr} {c : Nat} {l : List Dv} (h : DOwn w base d) (ho : Own 59 encD 6 w b2 A c l) (hk : ∀ b, b < w.heap.size → (∀ g, A = some ⟨g, 0, none⟩ → b ≠ g) → w'.heap[b]? = w.heap[b]?) : DOwn w' base d :=
  ⟨h.1.keepB fun g hg hl => hk g hl fun _ hg2 => h.1.apart ho (by decide) hg hg2, h.2.keepB fun g hg hl => hk g hl fun _ hg2 => h.2.apart ho (by decide) hg hg2⟩
/-- a device with memory of its own -/
def Cpy (d d' : Dv) : Prop := d'.name = d.name ∧ d'.pt = d.pt ∧ d'.kind = d.kind ∧ d'.lane = d.lane ∧ d'.os = d.os ∧ d'.ds = d.ds

theorem Cpy.val {d d' : Dv} (h : Cpy d d') : vD d' = vD d := by
  obtain ⟨a, b, c, d1, e, f⟩ := h
  unfold vD
  rw [a, b, c, d1, e, f]

set_option maxRecDepth 100000 in
set_option maxHeartbeats 8000000 in
theorem copied_any (d : Dv) {w : World} (h : DOk w d) (hl1 : d.os.length ≤ 8796093022208) (hl2 : d.ds.length ≤ 100000000000) :
    Calls Try.prog 57 #[DV d] w fun e w' => ∃ d', e = .returned (DV d') ∧ Cpy d d' ∧ DOwn w' w.heap.size d' ∧ Below w.heap.size w w' := by
  have C1 := Lib.hid (fun (X : World) (hX : Below w.heap.size w X) => cloneO_any d.oc (h.1.st hX) hl1)
  have C2 := Lib.hid (fun (X : World) (hX : Below w.heap.size w X) => cloneI_any d.dc (h.2.st hX) hl2)
  have HC : Hid (∀ (oA : Option Addr) (oc : Nat) (dA : Option Addr) (dc : Nat), Cpy d ⟨d.name, d.pt, d.kind, d.lane, oA, oc, d.os, dA, dc, d.ds⟩) := fun oA oc dA dc => ⟨rfl, rfl, rfl, rfl, rfl, rfl⟩
  clear h
  generalize Cpy d = CD at *
  obtain ⟨nm, pt, kd, ln, oA, oc, os, dA, dc, ds⟩ := d
  simp only [DV] at *
  obtain ⟨Y1, hY1⟩ : ∃ Y, w.alloc (.cells #[.string nm, .string pt, .int .i64 kd, .int .i64 ln, .slice oA os.length oc, .slice dA ds.length dc] 59) = Y := ⟨_, rfl⟩
  obtain ⟨Y2, hY2⟩ : ∃ Y, Y1.alloc (.cells #[.string ⟨#[]⟩, .string ⟨#[]⟩, .int .i64 0, .int .i64 0, .slice none 0 0, .slice none 0 0] 59) = Y := ⟨_, rfl⟩
  have bW : Below w.heap.size w Y2 := by rw [← hY2, ← hY1]; exact ((Below.refl _ w).al _).al _
  have sY1 : Y1.heap.size = w.heap.size + 1 := by rw [← hY1]; simp
  have bZ : Blk Y2 w.heap.size #[.string nm, .string pt, .int .i64 kd, .int .i64 ln, .slice oA os.length oc, .slice dA ds.length dc] 59 := by rw [← hY2, ← hY1]; exact (Blk.new w _ _).alloc _
  have bR : Blk Y2 (w.heap.size + 1) #[.string ⟨#[]⟩, .string ⟨#[]⟩, .int .i64 0, .int .i64 0, .slice none 0 0, .slice none 0 0] 59 := by rw [← hY2, ← sY1]; exact Blk.new Y1 _ _
  have ltR := bR.lt
  have q0 : World.cell? Y2 ⟨w.heap.size, 0, none⟩ = some (.string nm) := bZ.cell 0 rfl; have q1 : World.cell? Y2 ⟨w.heap.size, 1, none⟩ = some (.string pt) := bZ.cell 1 rfl; have q2 : World.cell? Y2 ⟨w.heap.size, 2, none⟩ = some (.int .i64 kd) := bZ.cell 2 rfl; have q3 : World.cell? Y2 ⟨w.heap.size, 3, none⟩ = some (.int .i64 ln) := bZ.cell 3 rfl; have q4 : World.cell? Y2 ⟨w.heap.size, 4, none⟩ = some (.slice oA os.length oc) := bZ.cell 4 rfl; have q5 : World.cell? Y2 ⟨w.heap.size, 5, none⟩ = some (.slice dA ds.length dc) := bZ.cell 5 rfl; have f4 := bZ.frozen 4; have f5 := bZ.frozen 5; have r0 := bR.frozen 0; have r1 := bR.frozen 1; have r2 := bR.frozen 2; have r3 := bR.frozen 3; have r4 := bR.frozen 4; have r5 := bR.frozen 5; have g0 : World.cell? Y2 ⟨w.heap.size + 1, 0, none⟩ = some (.string ⟨#[]⟩) := bR.cell 0 rfl; have g1 : World.cell? Y2 ⟨w.heap.size + 1, 1, none⟩ = some (.string ⟨#[]⟩) := bR.cell 1 rfl; have g2 : World.cell? Y2 ⟨w.heap.size + 1, 2, none⟩ = some (.int .i64 0) := bR.cell 2 rfl; have g3 : World.cell? Y2 ⟨w.heap.size + 1, 3, none⟩ = some (.int .i64 0) := bR.cell 3 rfl; have g4 : World.cell? Y2 ⟨w.heap.size + 1, 4, none⟩ = some (.slice none 0 0) := bR.cell 4 rfl; have g5 : World.cell? Y2 ⟨w.heap.size + 1, 5, none⟩ = some (.slice none 0 0) := bR.cell 5 rfl
  go_enter Try.func57, Try.ntmps57
  go_wp2_with fail
  go_region_with (first | (go_at_call 73; (with_reducible refine (C1.out _ (by first | exact bW | exact bW.drew)).mono ?_); rintro e wn ⟨Ao, co, rfl, ho, hbn⟩; have ho := ho.mono (Nat.succ_le_of_lt bR.lt); have bW : Below w.heap.size w wn := (by first | exact bW.st hbn | exact bW.drew.st hbn); have bR : Blk wn (w.heap.size + 1) #[.string ⟨#[]⟩, .string ⟨#[]⟩, .int .i64 0, .int .i64 0, .slice none 0 0, .slice none 0 0] 59 := (by first | exact bR.below hbn bR.lt | exact bR.drew.below hbn bR.lt); have bZ : Blk wn w.heap.size #[.string nm, .string pt, .int .i64 kd, .int .i64 ln, .slice oA os.length oc, .slice dA ds.length dc] 59 := (by first | exact bZ.below hbn bZ.lt | exact bZ.drew.below hbn bZ.lt); have q0 : World.cell? wn ⟨w.heap.size, 0, none⟩ = some (.string nm) := bZ.cell 0 rfl; have q1 : World.cell? wn ⟨w.heap.size, 1, none⟩ = some (.string pt) := bZ.cell 1 rfl; have q2 : World.cell? wn ⟨w.heap.size, 2, none⟩ = some (.int .i64 kd) := bZ.cell 2 rfl; have q3 : World.cell? wn ⟨w.heap.size, 3, none⟩ = some (.int .i64 ln) := bZ.cell 3 rfl; have q4 : World.cell? wn ⟨w.heap.size, 4, none⟩ = some (.slice oA os.length oc) := bZ.cell 4 rfl; have q5 : World.cell? wn ⟨w.heap.size, 5, none⟩ = some (.slice dA ds.length dc) := bZ.cell 5 rfl; have f4 := bZ.frozen 4; have f5 := bZ.frozen 5; have r0 := bR.frozen 0; have r1 := bR.frozen 1; have r2 := bR.frozen 2; have r3 := bR.frozen 3; have r4 := bR.frozen 4; have r5 := bR.frozen 5; have g0 : World.cell? wn ⟨w.heap.size + 1, 0, none⟩ = some (.string ⟨#[]⟩) := bR.cell 0 rfl; have g1 : World.cell? wn ⟨w.heap.size + 1, 1, none⟩ = some (.string ⟨#[]⟩) := bR.cell 1 rfl; have g2 : World.cell? wn ⟨w.heap.size + 1, 2, none⟩ = some (.int .i64 0) := bR.cell 2 rfl; have g3 : World.cell? wn ⟨w.heap.size + 1, 3, none⟩ = some (.int .i64 0) := bR.cell 3 rfl; have g4 : World.cell? wn ⟨w.heap.size + 1, 4, none⟩ = some (.slice none 0 0) := bR.cell 4 rfl; have g5 : World.cell? wn ⟨w.heap.size + 1, 5, none⟩ = some (.slice none 0 0) := bR.cell 5 rfl; (try have hi := hi.st hbn)) | (go_at_call 74; (with_reducible refine (C2.out _ (by first | exact bW | exact bW.drew)).mono ?_); rintro e wn ⟨Ai, ci, rfl, hi, hbn⟩; have hi := hi.mono (Nat.succ_le_of_lt bR.lt); have bW : Below w.heap.size w wn := (by first | exact bW.st hbn | exact bW.drew.st hbn); have bR : Blk wn (w.heap.size + 1) #[.string ⟨#[]⟩, .string ⟨#[]⟩, .int .i64 0, .int .i64 0, .slice none 0 0, .slice none 0 0] 59 := (by first | exact bR.below hbn bR.lt | exact bR.drew.below hbn bR.lt); have bZ : Blk wn w.heap.size #[.string nm, .string pt, .int .i64 kd, .int .i64 ln, .slice oA os.length oc, .slice dA ds.length dc] 59 := (by first | exact bZ.below hbn bZ.lt | exact bZ.drew.below hbn bZ.lt); have q0 : World.cell? wn ⟨w.heap.size, 0, none⟩ = some (.string nm) := bZ.cell 0 rfl; have q1 : World.cell? wn ⟨w.heap.size, 1, none⟩ = some (.string pt) := bZ.cell 1 rfl; have q2 : World.cell? wn ⟨w.heap.size, 2, none⟩ = some (.int .i64 kd) := bZ.cell 2 rfl; have q3 : World.cell? wn ⟨w.heap.size, 3, none⟩ = some (.int .i64 ln) := bZ.cell 3 rfl; have q4 : World.cell? wn ⟨w.heap.size, 4, none⟩ = some (.slice oA os.length oc) := bZ.cell 4 rfl; have q5 : World.cell? wn ⟨w.heap.size, 5, none⟩ = some (.slice dA ds.length dc) := bZ.cell 5 rfl; have f4 := bZ.frozen 4; have f5 := bZ.frozen 5; have r0 := bR.frozen 0; have r1 := bR.frozen 1; have r2 := bR.frozen 2; have r3 := bR.frozen 3; have r4 := bR.frozen 4; have r5 := bR.frozen 5; have g0 : World.cell? wn ⟨w.heap.size + 1, 0, none⟩ = some (.string ⟨#[]⟩) := bR.cell 0 rfl; have g1 : World.cell? wn ⟨w.heap.size + 1, 1, none⟩ = some (.string ⟨#[]⟩) := bR.cell 1 rfl; have g2 : World.cell? wn ⟨w.heap.size + 1, 2, none⟩ = some (.int .i64 0) := bR.cell 2 rfl; have g3 : World.cell? wn ⟨w.heap.size + 1, 3, none⟩ = some (.int .i64 0) := bR.cell 3 rfl; have g4 : World.cell? wn ⟨w.heap.size + 1, 4, none⟩ = some (.slice none 0 0) := bR.cell 4 rfl; have g5 : World.cell? wn ⟨w.heap.size + 1, 5, none⟩ = some (.slice none 0 0) := bR.cell 5 rfl; (try have ho := ho.st hbn)))
  all_goals
    go_wp2
    refine bodyPost_ret (v := DV ⟨nm, pt, kd, ln, Ao, co, os, Ai, ci, ds⟩) (by simp [results, Try.results57, go_sem, DV, q0, q1, q2, q3, g0, g1, g2, g3, g4, g5]) rfl ?_
    refine ⟨_, rfl, HC.out Ao co Ai ci, ?_, ?_⟩
    · exact ⟨((((((((ho.other (by first | (simp; done) | (simp; omega) | (show _ < _; omega)) _).other (by first | (simp; done) | (simp; omega) | (show _ < _; omega)) _).other (by first | (simp; done) | (simp; omega) | (show _ < _; omega)) _).other (by first | (simp; done) | (simp; omega) | (show _ < _; omega)) _).other (by first | (simp; done) | (simp; omega) | (show _ < _; omega)) _).other (by first | (simp; done) | (simp; omega) | (show _ < _; omega)) _).other (by first | (simp; done) | (simp; omega) | (show _ < _; omega)) _).other (by first | (simp; done) | (simp; omega) | (show _ < _; omega)) _).mono (by omega), ((((((((hi.other (by first | (simp; done) | (simp; omega) | (show _ < _; omega)) _).other (by first | (simp; done) | (simp; omega) | (show _ < _; omega)) _).other (by first | (simp; done) | (simp; omega) | (show _ < _; omega)) _).other (by first | (simp; done) | (simp; omega) | (show _ < _; omega)) _).other (by first | (simp; done) | (simp; omega) | (show _ < _; omega)) _).other (by first | (simp; done) | (simp; omega) | (show _ < _; omega)) _).other (by first | (simp; done) | (simp; omega) | (show _ < _; omega)) _).other (by first | (simp; done) | (simp; omega) | (show _ < _; omega)) _).mono (by omega)⟩
    · exact ((((((((bW.setCell (by simp) _).setCell (by simp) _).setCell (by simp) _).setCell (by simp) _).setCell (by simp) _).setCell (by simp) _).setCell (by simp) _).setCell (by simp) _)
end Go.Proofs.Ytgkppjkmakomnaa
