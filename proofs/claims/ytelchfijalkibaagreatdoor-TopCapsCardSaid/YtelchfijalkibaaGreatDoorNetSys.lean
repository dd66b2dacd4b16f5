/- The reference's valid, Find, Kind and System, walked. -/
import Derived.Test.YtelchfijalkibaaGreatDoorNetTop
set_option linter.unusedSimpArgs false
set_option linter.unusedSimpArgs false
namespace Go.Proofs.YtelchfijalkibaaGreatDoor
open Go.RowKit Go.Lib

set_option maxRecDepth 100000 in
set_option maxHeartbeats 4000000 in
theorem netvalid_any {pA lA : Option Addr} (pc lc : Nat) {pts : List Pt} {lks : List Lk} {w : World} (hp : Rd encPt 3 w w.heap.size pA pts) (hk : Rd encLk 4 w w.heap.size lA lks) (hpl : pts.length ≤ 9223372036854775807) (hkl : lks.length ≤ 9223372036854775807) :
    Calls Tryz.prog 44 #[.agg #[.slice pA pts.length pc, .slice lA lks.length lc]] w fun e w' => (e = .returned (.agg #[.slice pA pts.length pc, .slice lA lks.length lc]) ∨ e = .returned (.agg #[.slice none 0 0, .slice none 0 0])) ∧ Below w.heap.size w w' := by
  obtain ⟨Y1, hY1⟩ : ∃ Y, w.alloc (.cells #[.slice pA pts.length pc, .slice lA lks.length lc] 25) = Y := ⟨_, rfl⟩
  obtain ⟨Y2, hY2⟩ : ∃ Y, Y1.alloc (.cells #[.slice none 0 0, .slice none 0 0] 25) = Y := ⟨_, rfl⟩
  have s1 : Y1.heap.size = w.heap.size + 1 := by rw [← hY1]; simp
  have bW : Below w.heap.size w Y2 := by rw [← hY2, ← hY1]; exact ((Below.refl _ w).al _).al _
  have B1 : Blk Y2 w.heap.size #[.slice pA pts.length pc, .slice lA lks.length lc] 25 := by rw [← hY2, ← hY1]; exact (Blk.new w _ _).alloc _
  have B2 : Blk Y2 Y1.heap.size #[.slice none 0 0, .slice none 0 0] 25 := by rw [← hY2]; exact Blk.new Y1 _ _
  have z0 := B1.cell 0 (v := .slice pA pts.length pc) rfl
  have z1 := B1.cell 1 (v := .slice lA lks.length lc) rfl
  have CC := Lib.hid (netchk_any pc lc (hp.st bW) (hk.st bW) hpl hkl)
  have S1 := Lib.hid s1
  clear hp hk s1
  go_enter Tryz.func44, Tryz.ntmps44
  go_wp2_with fail
  refine CC.out.mono ?_
  rintro e W3 ⟨⟨n, rfl⟩, hbn⟩
  have bW := bW.st hbn
  have B1 := B1.below hbn B1.lt
  have B2 := B2.below hbn B2.lt
  clear hbn CC z0 z1 hY1 hY2
  by_cases hn : n = 0
  · subst hn
    go_wp2_with (first | (refine wpList_boxLoad rfl (ty := 25) (x := .tmp 1) (cs := #[.slice pA pts.length pc, .slice lA lks.length lc]) rfl B1 rfl ⟨_, Tryz.underlying25, by kernel_rfl⟩ ?_) | (refine wpList_boxStore rfl (ty := 25) (x := .tmp 2) (y := .tmp 7) (cells := #[.slice pA pts.length pc, .slice lA lks.length lc]) rfl B2 rfl rfl (by kernel_rfl) rfl (by kernel_rfl) ?_; intro w6 B6 hoz hbz))
    refine bodyPost_ret (v := .agg #[.slice pA pts.length pc, .slice lA lks.length lc]) (results_box Tryz.results44 _ rfl B6 ⟨_, Tryz.underlying25, by kernel_rfl⟩) rfl ?_
    exact ⟨.inl rfl, hbz _ _ (by have := S1.out; omega) bW⟩
  · have hn2 : (n != 0) = true := by simp [hn]
    go_wp2_with (first | (refine wpList_boxStore rfl (ty := 25) (x := .tmp 2) (y := .tmp 6) (cells := #[.slice none 0 0, .slice none 0 0]) rfl B2 rfl rfl (by kernel_rfl) rfl (by kernel_rfl) ?_; intro w6 B6 hoz hbz))
    refine bodyPost_ret (v := .agg #[.slice none 0 0, .slice none 0 0]) (results_box Tryz.results44 _ rfl B6 ⟨_, Tryz.underlying25, by kernel_rfl⟩) rfl ?_
    exact ⟨.inr rfl, hbz _ _ (by have := S1.out; omega) bW⟩

set_option maxRecDepth 100000 in
set_option maxHeartbeats 4000000 in
theorem topvalid_any {pA lA sA : Option Addr} (pc lc sc : Nat) {pts : List Pt} {lks : List Lk} {sys : List Sy} {w : World} (h : TOk w pA lA sA pts lks sys) (hsc : sys.length ≤ sc) :
    Calls Tryz.prog 46 #[.agg #[.slice pA pts.length pc, .slice lA lks.length lc, .slice sA sys.length sc]] w fun e w' => ((e = .returned (.agg #[.slice pA pts.length pc, .slice lA lks.length lc, .slice sA sys.length sc]) ∧ Good pts sys) ∨ e = .returned (.agg #[.slice none 0 0, .slice none 0 0, .slice none 0 0])) ∧ Below w.heap.size w w' := by
  obtain ⟨Y1, hY1⟩ : ∃ Y, w.alloc (.cells #[.slice pA pts.length pc, .slice lA lks.length lc, .slice sA sys.length sc] 28) = Y := ⟨_, rfl⟩
  obtain ⟨Y2, hY2⟩ : ∃ Y, Y1.alloc (.cells #[.slice none 0 0, .slice none 0 0, .slice none 0 0] 28) = Y := ⟨_, rfl⟩
  have s1 : Y1.heap.size = w.heap.size + 1 := by rw [← hY1]; simp
  have bW : Below w.heap.size w Y2 := by rw [← hY2, ← hY1]; exact ((Below.refl _ w).al _).al _
  have B1 : Blk Y2 w.heap.size #[.slice pA pts.length pc, .slice lA lks.length lc, .slice sA sys.length sc] 28 := by rw [← hY2, ← hY1]; exact (Blk.new w _ _).alloc _
  have B2 : Blk Y2 Y1.heap.size #[.slice none 0 0, .slice none 0 0, .slice none 0 0] 28 := by rw [← hY2]; exact Blk.new Y1 _ _
  have z0 := B1.cell 0 (v := .slice pA pts.length pc) rfl
  have z1 := B1.cell 1 (v := .slice lA lks.length lc) rfl
  have z2 := B1.cell 2 (v := .slice sA sys.length sc) rfl
  have CC := Lib.hid (topchk_any pc lc sc (h.st bW) hsc)
  have S1 := Lib.hid s1
  clear h s1
  go_enter Tryz.func46, Tryz.ntmps46
  go_wp2_with fail
  refine CC.out.mono ?_
  rintro e W3 ⟨⟨n, rfl, hg⟩, hbn⟩
  have bW := bW.st hbn
  have B1 := B1.below hbn B1.lt
  have B2 := B2.below hbn B2.lt
  have HG := Lib.hid hg
  clear hbn CC z0 z1 z2 hY1 hY2 hg
  by_cases hn : n = 0
  · subst hn
    go_wp2_with (first | (refine wpList_boxLoad rfl (ty := 28) (x := .tmp 1) (cs := #[.slice pA pts.length pc, .slice lA lks.length lc, .slice sA sys.length sc]) rfl B1 rfl ⟨_, Tryz.underlying28, by kernel_rfl⟩ ?_) | (refine wpList_boxStore rfl (ty := 28) (x := .tmp 2) (y := .tmp 7) (cells := #[.slice pA pts.length pc, .slice lA lks.length lc, .slice sA sys.length sc]) rfl B2 rfl rfl (by kernel_rfl) rfl (by kernel_rfl) ?_; intro w6 B6 hoz hbz))
    refine bodyPost_ret (v := .agg #[.slice pA pts.length pc, .slice lA lks.length lc, .slice sA sys.length sc]) (results_box Tryz.results46 _ rfl B6 ⟨_, Tryz.underlying28, by kernel_rfl⟩) rfl ?_
    exact ⟨.inl ⟨rfl, by have := HG.out; simpa using this⟩, hbz _ _ (by have := S1.out; omega) bW⟩
  · have hn2 : (n != 0) = true := by simp [hn]
    go_wp2_with (first | (refine wpList_boxStore rfl (ty := 28) (x := .tmp 2) (y := .tmp 6) (cells := #[.slice none 0 0, .slice none 0 0, .slice none 0 0]) rfl B2 rfl rfl (by kernel_rfl) rfl (by kernel_rfl) ?_; intro w6 B6 hoz hbz))
    refine bodyPost_ret (v := .agg #[.slice none 0 0, .slice none 0 0, .slice none 0 0]) (results_box Tryz.results46 _ rfl B6 ⟨_, Tryz.underlying28, by kernel_rfl⟩) rfl ?_
    exact ⟨.inr rfl, hbz _ _ (by have := S1.out; omega) bW⟩

/-- what Find gives -/
def FndR (pts : List Pt) (e : Ending) : Prop := ∃ (p : Pt) (b : Bool), e = .returned (.tuple #[PtV p, .bool b]) ∧ (b = true → p ∈ pts)
set_option maxRecDepth 100000 in
set_option maxHeartbeats 4000000 in
theorem rfind07_any {pA lA : Option Addr} (pc lc : Nat) {pts : List Pt} {lks : List Lk} (s : ByteArray) {w : World} (hp : Rd encPt 3 w w.heap.size pA pts) (hk : Rd encLk 4 w w.heap.size lA lks) (hpl : pts.length ≤ 9223372036854775807) (hkl : lks.length ≤ 9223372036854775807) :
    Calls Tryz.prog 17 #[.agg #[.slice pA pts.length pc, .slice lA lks.length lc], .string s] w fun e w' => FndR pts e ∧ Below w.heap.size w w' := by
  obtain ⟨Y1, hY1⟩ : ∃ Y, w.alloc (.cells #[.slice pA pts.length pc, .slice lA lks.length lc] 25) = Y := ⟨_, rfl⟩
  obtain ⟨Y2, hY2⟩ : ∃ Y, Y1.alloc (.cells #[.string ⟨#[]⟩, .int .i64 0, .string ⟨#[]⟩] 85) = Y := ⟨_, rfl⟩
  have s1 : Y1.heap.size = w.heap.size + 1 := by rw [← hY1]; simp
  have bW : Below w.heap.size w Y2 := by rw [← hY2, ← hY1]; exact ((Below.refl _ w).al _).al _
  have B1 : Blk Y2 w.heap.size #[.slice pA pts.length pc, .slice lA lks.length lc] 25 := by rw [← hY2, ← hY1]; exact (Blk.new w _ _).alloc _
  have B2 : Blk Y2 Y1.heap.size #[.string ⟨#[]⟩, .int .i64 0, .string ⟨#[]⟩] 85 := by rw [← hY2]; exact Blk.new Y1 _ _
  have z0 := B1.cell 0 (v := .slice pA pts.length pc) rfl
  have z1 := B1.cell 1 (v := .slice lA lks.length lc) rfl
  have CC := Lib.hid (netvalid_any pc lc (hp.st bW) (hk.st bW) hpl hkl)
  have S1 := Lib.hid s1
  have HP := Lib.hid hp
  clear hk s1 hp
  go_enter Tryz.func17, Tryz.ntmps17
  go_wp2_with fail
  refine CC.out.mono ?_
  rintro e W3 ⟨he, hbn⟩
  have bW := bW.st hbn
  have B2 := B2.below hbn B2.lt
  clear hbn CC z0 z1 hY1 hY2 B1
  rcases he with rfl | rfl
  · obtain ⟨W4, hW4⟩ : ∃ Y, W3.alloc (.cells #[.slice pA pts.length pc, .slice lA lks.length lc] 25) = Y := ⟨_, rfl⟩
    have b4 : Below W3.heap.size W3 W4 := by rw [← hW4]; exact (Below.refl _ _).al _
    have B4 : Blk W4 W3.heap.size #[.slice pA pts.length pc, .slice lA lks.length lc] 25 := by rw [← hW4]; exact Blk.new W3 _ _
    have bW4 := bW.st b4
    have B2 := B2.below b4 B2.lt
    have z0 := B4.cell 0 (v := .slice pA pts.length pc) rfl
    have CP := Lib.hid (place_any pc 64 s (HP.out.st bW4) hpl)
    clear b4 bW
    go_wp2_with fail
    refine CP.out.mono ?_
    rintro e w' ⟨⟨r, rfl, hr⟩, hw'⟩
    rw [hw']
    clear hw' w' CP
    rcases hr with rfl | ⟨k, rfl, hk⟩
    · clear hW4
      go_wp2_with (refine wpList_boxStore rfl (ty := 85) (x := .tmp 4) (y := .tmp 16) (cells := #[.string ⟨#[]⟩, .int .i64 0, .string ⟨#[]⟩]) rfl B2 rfl rfl (by kernel_rfl) rfl (by kernel_rfl) ?_; intro w6 B6 hoz hbz)
      refine bodyPost_ret (v := .tuple #[.agg #[.string ⟨#[]⟩, .int .i64 0, .string ⟨#[]⟩], .bool false]) (results_box_tmp Tryz.results17 _ (.bool false) rfl rfl B6 ⟨_, Tryz.underlying85, by kernel_rfl⟩) rfl ?_
      exact ⟨⟨⟨⟨#[]⟩, 0, ⟨#[]⟩⟩, false, rfl, fun q => by cases q⟩, hbz _ _ (by have := S1.out; omega) bW4⟩
    · have k1 : (0 : Int) ≤ (k : Int) := by omega
      have k2 : (k : Int) < (pts.length : Int) := by omega
      have k3 : ¬ (k : Int) < 0 := by omega
      obtain ⟨b, off, p, rfl, hb, hx, d0, d1, d2⟩ := (HP.out.st bW4).pt hk
      have HM := Lib.hid (List.mem_of_getElem? hx)
      obtain ⟨pn, pk, ps⟩ := p
      simp only at *
      clear hx hk hb hW4
      go_wp2_with (refine wpList_boxStore rfl (ty := 85) (x := .tmp 4) (y := .tmp 21) (cells := #[.string pn, .int .i64 pk, .string ps]) rfl B2 rfl rfl (by kernel_rfl) rfl (by kernel_rfl) ?_; intro w6 B6 hoz hbz)
      refine bodyPost_ret (v := .tuple #[.agg #[.string pn, .int .i64 pk, .string ps], .bool true]) (results_box_tmp Tryz.results17 _ (.bool true) rfl rfl B6 ⟨_, Tryz.underlying85, by kernel_rfl⟩) rfl ?_
      exact ⟨⟨⟨pn, pk, ps⟩, true, rfl, fun _ => HM.out⟩, hbz _ _ (by have := S1.out; omega) bW4⟩
  · obtain ⟨W4, hW4⟩ : ∃ Y, W3.alloc (.cells #[.slice none 0 0, .slice none 0 0] 25) = Y := ⟨_, rfl⟩
    have b4 : Below W3.heap.size W3 W4 := by rw [← hW4]; exact (Below.refl _ _).al _
    have B4 : Blk W4 W3.heap.size #[.slice none 0 0, .slice none 0 0] 25 := by rw [← hW4]; exact Blk.new W3 _ _
    have bW4 := bW.st b4
    have hs34 := bW.size
    have hlt3 := B2.lt
    have B2 := B2.below b4 B2.lt
    have CP := Lib.hid (fun (X : World) => place_any (A := none) (l := ([] : List Pt)) (w := X) 0 64 s Rd.nil (by simp))
    simp only [List.length_nil] at CP
    clear b4 bW
    go_wp2_with (refine wpList_boxStore rfl (ty := 25) (x := .tmp 6) (y := .tmp 9) (cells := #[.slice none 0 0, .slice none 0 0]) rfl B4 rfl rfl (by kernel_rfl) rfl (by kernel_rfl) ?_; intro w5 B5 hoz5 hbz5; have z0 := B5.cell 0 (v := .slice none 0 0) rfl)
    have bW5 := hbz5 _ _ hs34 bW4
    have B2 := B2.oth hoz5 (by omega)
    refine (CP.out _).mono ?_
    rintro e w' ⟨⟨r, rfl, hr⟩, hw'⟩
    rw [hw']
    clear hw' w' CP
    rcases hr with rfl | ⟨k, rfl, hk⟩
    · clear hW4
      go_wp2_with (refine wpList_boxStore rfl (ty := 85) (x := .tmp 4) (y := .tmp 16) (cells := #[.string ⟨#[]⟩, .int .i64 0, .string ⟨#[]⟩]) rfl B2 rfl rfl (by kernel_rfl) rfl (by kernel_rfl) ?_; intro w6 B6 hoz hbz)
      refine bodyPost_ret (v := .tuple #[.agg #[.string ⟨#[]⟩, .int .i64 0, .string ⟨#[]⟩], .bool false]) (results_box_tmp Tryz.results17 _ (.bool false) rfl rfl B6 ⟨_, Tryz.underlying85, by kernel_rfl⟩) rfl ?_
      exact ⟨⟨⟨⟨#[]⟩, 0, ⟨#[]⟩⟩, false, rfl, fun q => by cases q⟩, hbz _ _ (by have := S1.out; omega) bW5⟩
    · exact absurd hk (Nat.not_lt_zero _)
theorem fld1 (a b c : Value) (w : World) : (Instr.field 28 (.agg #[a, b, c]) 0).run Tryz.prog w = .ok (.agg #[a, b]) w := by simp [Instr.field, asAgg, go_sem]
set_option maxRecDepth 100000 in
set_option maxHeartbeats 4000000 in
theorem kind_any {pA lA sA : Option Addr} (pc lc sc : Nat) {pts : List Pt} {lks : List Lk} {sys : List Sy} (s : ByteArray) {w : World} (h : TOk w pA lA sA pts lks sys) (hsc : sys.length ≤ sc) :
    Calls Tryz.prog 18 #[.agg #[.slice pA pts.length pc, .slice lA lks.length lc, .slice sA sys.length sc], .string s] w fun e w' => IntR e ∧ Below w.heap.size w w' := by
  obtain ⟨Y1, hY1⟩ : ∃ Y, w.alloc (.cells #[.slice pA pts.length pc, .slice lA lks.length lc, .slice sA sys.length sc] 28) = Y := ⟨_, rfl⟩
  have bW : Below w.heap.size w Y1 := by rw [← hY1]; exact (Below.refl _ w).al _
  have B1 : Blk Y1 w.heap.size #[.slice pA pts.length pc, .slice lA lks.length lc, .slice sA sys.length sc] 28 := by rw [← hY1]; exact Blk.new w _ _
  have z0 := B1.cell 0 (v := .slice pA pts.length pc) rfl
  have z1 := B1.cell 1 (v := .slice lA lks.length lc) rfl
  have z2 := B1.cell 2 (v := .slice sA sys.length sc) rfl
  have CV := Lib.hid (topvalid_any pc lc sc (h.st bW) hsc)
  have CF := Lib.hid (fun (X : World) (hX : Below w.heap.size w X) => rfind07_any pc lc s (h.st hX).p (h.st hX).l h.pl h.ll)
  have CZ := Lib.hid (fun (X : World) => rfind07_any (pA := none) (lA := none) (pts := []) (lks := []) (w := X) 0 0 s Rd.nil Rd.nil (by simp) (by simp))
  simp only [List.length_nil] at CZ
  clear h
  have qf := fld1
  go_enter Tryz.func18, Tryz.ntmps18
  go_wp2_with fail
  refine CV.out.mono ?_
  rintro e W2 ⟨he, hbn⟩
  have bW := bW.st hbn
  clear hbn CV z0 z1 z2 hY1 B1
  rcases he with ⟨rfl, hg⟩ | rfl
  case' inl =>
    go_wp2_with fail
    refine (CF.out _ bW).mono ?_
  case' inr =>
    go_wp2_with fail
    refine (CZ.out _).mono ?_
  all_goals
    rintro e W3 ⟨⟨p, b, rfl, -⟩, hbn⟩
    have bW3 := bW.st hbn
    simp only [PtV]
    obtain ⟨W4, hW4⟩ : ∃ Y, W3.alloc (.cells #[.string p.name, .int .i64 p.kind, .string p.sys] 85) = Y := ⟨_, rfl⟩
    have b4 : Below W3.heap.size W3 W4 := by rw [← hW4]; exact (Below.refl _ _).al _
    have B4 : Blk W4 W3.heap.size #[.string p.name, .int .i64 p.kind, .string p.sys] 85 := by rw [← hW4]; exact Blk.new W3 _ _
    have z1 := B4.cell 1 (v := .int .i64 p.kind) rfl
    have bW4 := bW3.st b4
    clear hbn b4 B4
    go_wp2_with fail
    go_ret
    exact ⟨⟨_, rfl⟩, bW4⟩

/-- what System gives -/
def SysR (e : Ending) : Prop := ∃ (x : Sy) (b : Bool), e = .returned (.tuple #[.agg #[.string x.name, .bool x.cld, .int .i64 x.most], .bool b])
set_option maxRecDepth 100000 in
set_option maxHeartbeats 8000000 in
theorem system_any {pA lA sA : Option Addr} (pc lc sc : Nat) {pts : List Pt} {lks : List Lk} {sys : List Sy} (s : ByteArray) {w : World} (h : TOk w pA lA sA pts lks sys) (hsc : sys.length ≤ sc) :
    Calls Tryz.prog 19 #[.agg #[.slice pA pts.length pc, .slice lA lks.length lc, .slice sA sys.length sc], .string s] w fun e w' => SysR e ∧ Below w.heap.size w w' := by
  obtain ⟨Y1, hY1⟩ : ∃ Y, w.alloc (.cells #[.slice pA pts.length pc, .slice lA lks.length lc, .slice sA sys.length sc] 28) = Y := ⟨_, rfl⟩
  obtain ⟨Y2, hY2⟩ : ∃ Y, Y1.alloc (.cells #[.string ⟨#[]⟩, .bool false, .int .i64 0] 90) = Y := ⟨_, rfl⟩
  have s1 : Y1.heap.size = w.heap.size + 1 := by rw [← hY1]; simp
  have bW : Below w.heap.size w Y2 := by rw [← hY2, ← hY1]; exact ((Below.refl _ w).al _).al _
  have B1 : Blk Y2 w.heap.size #[.slice pA pts.length pc, .slice lA lks.length lc, .slice sA sys.length sc] 28 := by rw [← hY2, ← hY1]; exact (Blk.new w _ _).alloc _
  have B2 : Blk Y2 Y1.heap.size #[.string ⟨#[]⟩, .bool false, .int .i64 0] 90 := by rw [← hY2]; exact Blk.new Y1 _ _
  have z0 := B1.cell 0 (v := .slice pA pts.length pc) rfl
  have z1 := B1.cell 1 (v := .slice lA lks.length lc) rfl
  have z2 := B1.cell 2 (v := .slice sA sys.length sc) rfl
  have CV := Lib.hid (topvalid_any pc lc sc (h.st bW) hsc)
  have CF := Lib.hid (fun (X : World) (hX : Below w.heap.size w X) => rfind07_any pc lc s (h.st hX).p (h.st hX).l h.pl h.ll)
  have CZ := Lib.hid (fun (X : World) => rfind07_any (pA := none) (lA := none) (pts := []) (lks := []) (w := X) 0 0 s Rd.nil Rd.nil (by simp) (by simp))
  simp only [List.length_nil] at CZ
  have S1 := Lib.hid s1
  have H := Lib.hid h
  clear h s1
  go_enter Tryz.func19, Tryz.ntmps19
  go_wp2_with fail
  refine CV.out.mono ?_
  rintro e W3 ⟨he, hbn⟩
  have bW := bW.st hbn
  have B2 := B2.below hbn B2.lt
  clear hbn CV z0 z1 z2 hY1 hY2 B1
  rcases he with ⟨rfl, hg⟩ | rfl
  · have HG := Lib.hid hg
    clear hg
    have hlt13 : Y1.heap.size < W3.heap.size := B2.lt
    obtain ⟨W4, hW4⟩ : ∃ Y, W3.alloc (.cells #[.slice pA pts.length pc, .slice lA lks.length lc, .slice sA sys.length sc] 28) = Y := ⟨_, rfl⟩
    have hs34 : W4.heap.size = W3.heap.size + 1 := by rw [← hW4]; simp
    have b4 : Below W3.heap.size W3 W4 := by rw [← hW4]; exact (Below.refl _ _).al _
    have B4 : Blk W4 W3.heap.size #[.slice pA pts.length pc, .slice lA lks.length lc, .slice sA sys.length sc] 28 := by rw [← hW4]; exact Blk.new W3 _ _
    have bW4 := bW.st b4
    have B2 := B2.below b4 B2.lt
    have z0 := B4.cell 0 (v := .slice pA pts.length pc) rfl
    have z1 := B4.cell 1 (v := .slice lA lks.length lc) rfl
    clear b4
    go_wp2_with fail
    refine (CF.out _ bW4).mono ?_
    rintro e W5 ⟨⟨p, b, rfl, hm⟩, hbn⟩
    have HM := Lib.hid hm
    have bW5 := bW4.st hbn
    have B4 := B4.below hbn B4.lt
    have B2 := B2.below hbn B2.lt
    obtain ⟨pn, pk, ps⟩ := p
    simp only [PtV]
    obtain ⟨W6, hW6⟩ : ∃ Y, W5.alloc (.cells #[.string pn, .int .i64 pk, .string ps] 85) = Y := ⟨_, rfl⟩
    have b6 : Below W5.heap.size W5 W6 := by rw [← hW6]; exact (Below.refl _ _).al _
    have B6 : Blk W6 W5.heap.size #[.string pn, .int .i64 pk, .string ps] 85 := by rw [← hW6]; exact Blk.new W5 _ _
    have B4 := B4.below b6 B4.lt
    have B2 := B2.below b6 B2.lt
    have bW6 := bW5.st b6
    have HLT : Hid (Y1.heap.size < W3.heap.size ∧ W3.heap.size ≤ W5.heap.size) := Lib.hid ⟨hlt13, by have := hbn.size; omega⟩
    have p2 := B6.cell 2 (v := .string ps) rfl
    have y2 := B4.cell 2 (v := .slice sA sys.length sc) rfl
    clear hm hbn z0 z1 b6 bW4 bW5 CF CZ hW4
    cases b
    · go_wp2_with (refine wpList_boxStore rfl (ty := 90) (x := .tmp 4) (y := .tmp 25) (cells := #[.string ⟨#[]⟩, .bool false, .int .i64 0]) rfl B2 rfl rfl (by kernel_rfl) rfl (by kernel_rfl) ?_; intro w7 B7 hoz hbz)
      refine bodyPost_ret (v := .tuple #[.agg #[.string ⟨#[]⟩, .bool false, .int .i64 0], .bool false]) (results_box_tmp Tryz.results19 _ (.bool false) rfl rfl B7 ⟨_, Tryz.underlying90, by kernel_rfl⟩) rfl ?_
      exact ⟨⟨⟨⟨#[]⟩, false, 0⟩, false, rfl⟩, hbz _ _ (by have := S1.out; omega) bW6⟩
    · cases he : emp ps
      case' true =>
        obtain ⟨e1, e2, e3⟩ := toList_eE he
        go_wp2_with (refine wpList_boxStore rfl (ty := 90) (x := .tmp 4) (y := .tmp 25) (cells := #[.string ⟨#[]⟩, .bool false, .int .i64 0]) rfl B2 rfl rfl (by kernel_rfl) rfl (by kernel_rfl) ?_; intro w7 B7 hoz hbz)
        refine bodyPost_ret (v := .tuple #[.agg #[.string ⟨#[]⟩, .bool false, .int .i64 0], .bool false]) (results_box_tmp Tryz.results19 _ (.bool false) rfl rfl B7 ⟨_, Tryz.underlying90, by kernel_rfl⟩) rfl ?_
        exact ⟨⟨⟨⟨#[]⟩, false, 0⟩, false, rfl⟩, hbz _ _ (by have := S1.out; omega) bW6⟩
      obtain ⟨e1, e2, e3⟩ := toList_neE he
      have HIN : Hid (inSys sys ps) := Lib.hid (by
        rcases HG.out _ (HM.out rfl) with q | q
        · rw [he] at q; cases q
        · exact q)
      obtain ⟨x0, hx0, -⟩ := HIN.out
      have hne : sys ≠ [] := fun q => by rw [q] at hx0; cases hx0
      obtain ⟨b, off, hA, -, -⟩ := H.out.s hne
      rw [hA] at y2
      have HAE := Lib.hid hA
      have hrd : Rd encSy 3 w w.heap.size (some ⟨b, off, none⟩) sys := by have := H.out.s; rw [hA] at this; exact this
      have HRD := Lib.hid hrd
      have CT := Lib.hid (fun (X : World) (hX : Below w.heap.size w X) => tfind_any (A := some ⟨b, off, none⟩) sc ps (hrd.st hX) H.out.sl)
      have hS0 : (fun w' : World => w'.cell? ⟨W3.heap.size, 2, none⟩ = some (.slice (some ⟨b, off, none⟩) sys.length sc) ∧ w'.cell? ⟨W5.heap.size, 2, none⟩ = some (.string ps) ∧ Rd encSy 3 w' w.heap.size (some ⟨b, off, none⟩) sys) W6 := ⟨y2, p2, hrd.keep bW6⟩
      have HN12 : Hid (W3.heap.size < W6.heap.size ∧ W5.heap.size < W6.heap.size) := Lib.hid ⟨B4.lt, B6.lt⟩
      have HNE : Hid (Y1.heap.size < W3.heap.size ∧ W3.heap.size ≤ W5.heap.size) := Lib.hid ⟨HLT.out.1, HLT.out.2⟩
      clear he HM HG hx0 hne hA hrd y2 p2
      go_wp2_with fail
      refine wp_region_held_drew (S := (fun w' : World => w'.cell? ⟨W3.heap.size, 2, none⟩ = some (.slice (some ⟨b, off, none⟩) sys.length sc) ∧ w'.cell? ⟨W5.heap.size, 2, none⟩ = some (.string ps) ∧ Rd encSy 3 w' w.heap.size (some ⟨b, off, none⟩) sys)) (by kernel_rfl) ?_ (fun hHeld => ?_)
      focus exact hS0
      have hSS : (fun w' : World => w'.cell? ⟨W3.heap.size, 2, none⟩ = some (.slice (some ⟨b, off, none⟩) sys.length sc) ∧ w'.cell? ⟨W5.heap.size, 2, none⟩ = some (.string ps) ∧ Rd encSy 3 w' w.heap.size (some ⟨b, off, none⟩) sys) W6.drew := hS0
      have HBW : Hid (Below w.heap.size w W6.drew) := Lib.hid (below_drewN bW6 1)
      have HB2 := Lib.hid B2.drew
      have HB4 := Lib.hid B4.drew
      have HB6 := Lib.hid B6.drew
      clear hS0 bW6 B2 B4 B6 hW6 HN12
      generalize W6.drew = W0 at hSS hHeld HBW HB2 HB4 HB6 ⊢
      change wpAnyH _ _ _ _ _ 11 _ _ _
      refine wpAnyH_take (i := 0) (v := ?_) (by simp only [List.getElem?_toArray, List.getElem?_cons_zero, List.getElem?_cons_succ]; rfl) (by kernel_rfl) (by kernel_rfl) (by kernel_rfl) (by intro _ _ _ h; exact h) (Or.inl ⟨by rfl, ?_⟩) (by assumption) ?_; rotate_left; (focus (intro w1 hSw; (try dsimp only at hSw); go_simp; (try with_reducible rfl))); (try simp only [Act.put, List.setIfInBounds_toArray, List.set_cons_zero, List.set_cons_succ, List.getElem_toArray, List.getElem_cons_zero, List.getElem_cons_succ])
      refine wpAnyH_take (i := 1) (v := ?_) (by simp only [List.getElem?_toArray, List.getElem?_cons_zero, List.getElem?_cons_succ]; rfl) (by kernel_rfl) (by kernel_rfl) (by kernel_rfl) (by intro _ _ _ h; exact h) (Or.inl ⟨by rfl, ?_⟩) (by assumption) ?_; rotate_left; (focus (intro w1 hSw; (try dsimp only at hSw); go_simp; (try with_reducible rfl))); (try simp only [Act.put, List.setIfInBounds_toArray, List.set_cons_zero, List.set_cons_succ, List.getElem_toArray, List.getElem_cons_zero, List.getElem_cons_succ])
      refine wpAnyH_take (i := 2) (v := ?_) (by simp only [List.getElem?_toArray, List.getElem?_cons_zero, List.getElem?_cons_succ]; rfl) (by kernel_rfl) (by kernel_rfl) (by kernel_rfl) (by intro _ _ _ h; exact h) (Or.inl ⟨by rfl, ?_⟩) (by assumption) ?_; rotate_left; (focus (intro w1 hSw; (try dsimp only at hSw); go_simp; (try with_reducible rfl))); (try simp only [Act.put, List.setIfInBounds_toArray, List.set_cons_zero, List.set_cons_succ, List.getElem_toArray, List.getElem_cons_zero, List.getElem_cons_succ])
      refine wpAnyH_take (i := 3) (v := ?_) (by simp only [List.getElem?_toArray, List.getElem?_cons_zero, List.getElem?_cons_succ]; rfl) (by kernel_rfl) (by kernel_rfl) (by kernel_rfl) (by intro _ _ _ h; exact h) (Or.inl ⟨by rfl, ?_⟩) (by assumption) ?_; rotate_left; (focus (intro w1 hSw; (try dsimp only at hSw); go_simp; (try with_reducible rfl))); (try simp only [Act.put, List.setIfInBounds_toArray, List.set_cons_zero, List.set_cons_succ, List.getElem_toArray, List.getElem_cons_zero, List.getElem_cons_succ])
      refine wpAnyH_take (i := 4) (v := ?_) (by simp only [List.getElem?_toArray, List.getElem?_cons_zero, List.getElem?_cons_succ]; rfl) (by kernel_rfl) (by kernel_rfl) (by kernel_rfl) (by intro _ _ _ h; exact h) (Or.inl ⟨by rfl, ?_⟩) (by assumption) ?_; rotate_left; (focus (intro w1 hSw; (try dsimp only at hSw); go_simp; (try with_reducible rfl))); (try simp only [Act.put, List.setIfInBounds_toArray, List.set_cons_zero, List.set_cons_succ, List.getElem_toArray, List.getElem_cons_zero, List.getElem_cons_succ])
      refine wpAnyH_take (i := 5) (v := ?_) (by simp only [List.getElem?_toArray, List.getElem?_cons_zero, List.getElem?_cons_succ]; rfl) (by kernel_rfl) (by kernel_rfl) (by kernel_rfl) (by intro _ _ _ h; exact h) (Or.inl ⟨by rfl, ?_⟩) (by assumption) ?_; rotate_left; (focus (intro w1 hSw; (try dsimp only at hSw); go_simp; (try with_reducible rfl))); (try simp only [Act.put, List.setIfInBounds_toArray, List.set_cons_zero, List.set_cons_succ, List.getElem_toArray, List.getElem_cons_zero, List.getElem_cons_succ])
      refine wpAnyH_ready (rs := [6]) (by kernel_rfl) (by simp) ?_; refine AllReadyH.cons (by simp only [List.getElem?_toArray, List.getElem?_cons_zero, List.getElem?_cons_succ]; rfl) (fun K hK => ?_) AllReadyH.nil
      rw [if_pos (by rfl)]; go_wp2_with fail
      refine (CT.out _ HBW.out).mono ?_
      rintro e w' ⟨⟨r, rfl, hr⟩, hw'⟩
      rw [hw']
      clear hw' w'
      obtain ⟨k, rfl, hk⟩ : ∃ k : Nat, r = k ∧ k < sys.length := by
        rcases hr with ⟨-, hno⟩ | ⟨k, h1, h2, -⟩
        · obtain ⟨x, hx, hxe⟩ := HIN.out
          rw [hno x hx] at hxe; cases hxe
        · exact ⟨k, h1, h2⟩
      have k1 : (0 : Int) ≤ (k : Int) := by omega
      have k2 : (k : Int) < (sys.length : Int) := by omega
      obtain ⟨x, hx⟩ : ∃ x, sys[k]? = some x := ⟨_, List.getElem?_eq_getElem hk⟩
      clear hr
      go_wp2_with fail
      refine hK.out _ _ ?_ (fun hHeld => ?_)
      focus exact hSS
      clear hK K
      (try simp only [Act.put, List.setIfInBounds_toArray, List.set_cons_zero, List.set_cons_succ, List.getElem_toArray, List.getElem_cons_zero, List.getElem_cons_succ])
      refine wpAnyH_take (i := 7) (v := ?_) (by simp only [List.getElem?_toArray, List.getElem?_cons_zero, List.getElem?_cons_succ]; rfl) (by kernel_rfl) (by kernel_rfl) (by kernel_rfl) (by intro _ _ _ h; exact h) (Or.inl ⟨by rfl, ?_⟩) (by assumption) ?_; rotate_left; (focus (intro w1 hSw; (try dsimp only at hSw); go_simp; (try with_reducible rfl))); (try simp only [Act.put, List.setIfInBounds_toArray, List.set_cons_zero, List.set_cons_succ, List.getElem_toArray, List.getElem_cons_zero, List.getElem_cons_succ])
      refine wpAnyH_take (i := 8) (v := ?_) (by simp only [List.getElem?_toArray, List.getElem?_cons_zero, List.getElem?_cons_succ]; rfl) (by kernel_rfl) (by kernel_rfl) (by kernel_rfl) (by intro _ _ _ h; exact h) (Or.inl ⟨by rfl, ?_⟩) (by assumption) ?_; rotate_left; (focus (intro w1 hSw; (obtain ⟨b9, off9, x9, hA9, -, hx9, g0, g1, g2⟩ := hSw.2.2.sy hk; injection hA9 with hA9; injection hA9 with u1 u2; subst u1 u2; rw [hx] at hx9; obtain rfl := Option.some.inj hx9); (try dsimp only at hSw); go_simp; (try with_reducible rfl))); (try simp only [Act.put, List.setIfInBounds_toArray, List.set_cons_zero, List.set_cons_succ, List.getElem_toArray, List.getElem_cons_zero, List.getElem_cons_succ])
      refine wpAnyH_ready (rs := [9]) (by kernel_rfl) (by simp) ?_; refine AllReadyH.cons (by simp only [List.getElem?_toArray, List.getElem?_cons_zero, List.getElem?_cons_succ]; rfl) (fun K hK => ?_) AllReadyH.nil
      rw [if_pos (by rfl)]
      refine wp_boxStore rfl HB2.out rfl rfl (by kernel_rfl) rfl (by kernel_rfl) ?_
      intro V B7 hoz hbz
      have hle : w.heap.size ≤ Y1.heap.size := by have := S1.out; omega
      have bV := hbz _ _ hle HBW.out
      refine hK.out _ _ ?_ (fun hHeld => ?_)
      focus exact ⟨(by have q := (HB4.out.oth hoz (by have := HNE.out; omega)).cell 2 (v := .slice sA sys.length sc) rfl; rw [HAE.out] at q; exact q), (HB6.out.oth hoz (by have := HNE.out; omega)).cell 2 rfl, HRD.out.keep bV⟩
      clear hK K
      (try simp only [Act.put, List.setIfInBounds_toArray, List.set_cons_zero, List.set_cons_succ, List.getElem_toArray, List.getElem_cons_zero, List.getElem_cons_succ])
      refine wpAnyH_take (i := 10) (v := ?_) (by simp only [List.getElem?_toArray, List.getElem?_cons_zero, List.getElem?_cons_succ]; rfl) (by kernel_rfl) (by kernel_rfl) (by kernel_rfl) (by intro _ _ _ h; exact h) (Or.inl ⟨by rfl, ?_⟩) (by assumption) ?_; rotate_left; (focus (intro w1 hSw; (try dsimp only at hSw); go_simp; (try with_reducible rfl))); (try simp only [Act.put, List.setIfInBounds_toArray, List.set_cons_zero, List.set_cons_succ, List.getElem_toArray, List.getElem_cons_zero, List.getElem_cons_succ])
      refine wpAnyH_done (by kernel_rfl) ?_ _
      clear hSS hHeld
      go_wp2_with fail
      refine bodyPost_ret (v := .tuple #[.agg #[.string x.name, .bool x.cld, .int .i64 x.most], .bool true]) (results_box_tmp Tryz.results19 _ (.bool true) rfl rfl B7 ⟨_, Tryz.underlying90, by kernel_rfl⟩) rfl ?_
      exact ⟨⟨x, true, rfl⟩, bV⟩
  · obtain ⟨W4, hW4⟩ : ∃ Y, W3.alloc (.cells #[.slice none 0 0, .slice none 0 0, .slice none 0 0] 28) = Y := ⟨_, rfl⟩
    have b4 : Below W3.heap.size W3 W4 := by rw [← hW4]; exact (Below.refl _ _).al _
    have B4 : Blk W4 W3.heap.size #[.slice none 0 0, .slice none 0 0, .slice none 0 0] 28 := by rw [← hW4]; exact Blk.new W3 _ _
    have bW4 := bW.st b4
    have hs3 := bW.size
    have hlt3 := B2.lt
    have B2 := B2.below b4 B2.lt
    clear b4 bW
    go_wp2_with (refine wpList_boxStore rfl (ty := 28) (x := .tmp 6) (y := .tmp 10) (cells := #[.slice none 0 0, .slice none 0 0, .slice none 0 0]) rfl B4 rfl rfl (by kernel_rfl) rfl (by kernel_rfl) ?_; intro w5 B5 hoz5 hbz5; have z0 := B5.cell 0 (v := .slice none 0 0) rfl; have z1 := B5.cell 1 (v := .slice none 0 0) rfl)
    have bW5 := hbz5 _ _ hs3 bW4
    have B2 := B2.oth hoz5 (by omega)
    refine (CZ.out _).mono ?_
    rintro e W6 ⟨⟨p, b, rfl, hm⟩, hbn⟩
    have hb0 : b = false := by
      cases b
      · rfl
      · exact absurd (hm rfl) (by simp)
    subst hb0
    have bW6 := bW5.st hbn
    have B2 := B2.below hbn B2.lt
    obtain ⟨pn, pk, ps⟩ := p
    simp only [PtV]
    obtain ⟨W7, hW7⟩ : ∃ Y, W6.alloc (.cells #[.string pn, .int .i64 pk, .string ps] 85) = Y := ⟨_, rfl⟩
    have b7 : Below W6.heap.size W6 W7 := by rw [← hW7]; exact (Below.refl _ _).al _
    have B2 := B2.below b7 B2.lt
    have bW7 := bW6.st b7
    clear hm hbn z0 z1 b7 bW4 bW5 bW6 CF CZ hW4 B5 hoz5 hbz5
    go_wp2_with (refine wpList_boxStore rfl (ty := 90) (x := .tmp 4) (y := .tmp 25) (cells := #[.string ⟨#[]⟩, .bool false, .int .i64 0]) rfl B2 rfl rfl (by kernel_rfl) rfl (by kernel_rfl) ?_; intro w7 B7 hoz hbz)
    refine bodyPost_ret (v := .tuple #[.agg #[.string ⟨#[]⟩, .bool false, .int .i64 0], .bool false]) (results_box_tmp Tryz.results19 _ (.bool false) rfl rfl B7 ⟨_, Tryz.underlying90, by kernel_rfl⟩) rfl ?_
    exact ⟨⟨⟨⟨#[]⟩, false, 0⟩, false, rfl⟩, hbz _ _ (by have := S1.out; omega) bW7⟩
end Go.Proofs.YtelchfijalkibaaGreatDoor
