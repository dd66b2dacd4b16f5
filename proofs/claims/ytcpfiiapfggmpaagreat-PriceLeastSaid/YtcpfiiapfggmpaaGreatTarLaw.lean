/- The law PriceBases, walked. -/
import Derived.Test.YtcpfiiapfggmpaaGreatTarTrip
import Derived.Test.YtcpfiiapfggmpaaGreatJTrpRRatio
import Derived.Test.YtcpfiiapfggmpaaGreatJNetRight
import Derived.Test.YtcpfiiapfggmpaaGreatJStabOwn
set_option linter.unusedSimpArgs false
set_option linter.unusedSimpArgs false
namespace Go.Proofs.YtcpfiiapfggmpaaGreat
open Go.RowKit Go.Lib

section
variable {P : Program} {ops : Array Oper} {rest : List Oper} {o : Oper} {a : Act} {w : World} {Q : Exit → Act → World → Prop}
/-- a struct loaded whole, behind a guard that holds -/
theorem wpList_boxLoadG (hw : Region.wanted o (yielded ops a.tmps) = true) {ty : TypeId} {x : Operand} (ho : o.op = .load ty x) {g : Nat} {cs : Array Value} {t : TypeId} (hb : Blk w g cs t)
    (hx : a.eval x = .pointer (some ⟨g, 0, none⟩)) (hs : isStr P ty cs.size) (h : wpList P ops Q rest (a.put o.dst (.agg cs)) w) : wpList P ops Q (o :: rest) a w := by
  obtain ⟨fs, hu, hi⟩ := hs
  rw [wpList, if_pos hw]
  exact Or.inl (wp_load_row ty x ho g hx t cs (0, 0) _ hb hu rfl hi h)
end

set_option maxRecDepth 100000 in
set_option maxHeartbeats 8000000 in
theorem journey_any {pA lA sA tA uA dA qA kA zA xA : Option Addr} (pc lc sc tc uc dc qc kc zc xc : Nat) (pe : Int) (o3 o4 o5 o6 o7 o14 o16 o17 o18 o19 o20 o21 o22 o23 o24 : Value) (xi xv xy : ByteArray) (cl : Int) {pts : List Pt} {lks : List Lk} {sys : List Sy} {ts : List Ta} {us ds qs : List Int} {dcs : List Dc} {zs : List Zn} {ss : List Stp} {w : World}
    (h : CfOk w pA lA sA tA uA dA qA kA zA pts lks sys ts us ds qs dcs zs sc) (hs : Rd encSp 3 w w.heap.size xA ss) :
    Calls Tryz.prog 9 #[.agg #[.slice pA pts.length pc, .slice lA lks.length lc, .slice sA sys.length sc, o3, o4, o5, o6, o7, .slice tA ts.length tc, .int .i64 pe, .slice uA us.length uc, .slice dA ds.length dc, .slice qA qs.length qc, .slice kA dcs.length kc, o14, .slice zA zs.length zc, o16, o17, o18, o19, o20, o21, o22, o23, o24], .agg #[.string xi, .string xv, .string xy, .int .i64 cl, .slice xA ss.length xc]] w fun e w' => YesB (TripOk xv cl ss ∧ ss.length ≤ 40) e ∧ Below w.heap.size w w' := by
  obtain ⟨Y1, hY1⟩ : ∃ Y, w.alloc (.cells #[.slice pA pts.length pc, .slice lA lks.length lc, .slice sA sys.length sc, o3, o4, o5, o6, o7, .slice tA ts.length tc, .int .i64 pe, .slice uA us.length uc, .slice dA ds.length dc, .slice qA qs.length qc, .slice kA dcs.length kc, o14, .slice zA zs.length zc, o16, o17, o18, o19, o20, o21, o22, o23, o24] 46) = Y := ⟨_, rfl⟩
  obtain ⟨Y2, hY2⟩ : ∃ Y, Y1.alloc (.cells #[.string xi, .string xv, .string xy, .int .i64 cl, .slice xA ss.length xc] 49) = Y := ⟨_, rfl⟩
  have bW : Below w.heap.size w Y2 := by rw [← hY2, ← hY1]; exact ((Below.refl _ w).al _).al _
  have BP : Blk Y2 w.heap.size #[.slice pA pts.length pc, .slice lA lks.length lc, .slice sA sys.length sc, o3, o4, o5, o6, o7, .slice tA ts.length tc, .int .i64 pe, .slice uA us.length uc, .slice dA ds.length dc, .slice qA qs.length qc, .slice kA dcs.length kc, o14, .slice zA zs.length zc, o16, o17, o18, o19, o20, o21, o22, o23, o24] 46 := by rw [← hY2, ← hY1]; exact (Blk.new w _ _).alloc _
  have BT : Blk Y2 Y1.heap.size #[.string xi, .string xv, .string xy, .int .i64 cl, .slice xA ss.length xc] 49 := by rw [← hY2]; exact Blk.new Y1 _ _
  have g0 := BP.cell 0 (v := .slice pA pts.length pc) rfl
  have g1 := BP.cell 1 (v := .slice lA lks.length lc) rfl
  have g2 := BP.cell 2 (v := .slice sA sys.length sc) rfl
  have t0 := BT.cell 0 (v := .string xi) rfl
  have t1 := BT.cell 1 (v := .string xv) rfl
  have t2 := BT.cell 2 (v := .string xy) rfl
  have t3 := BT.cell 3 (v := .int .i64 cl) rfl
  have t4 := BT.cell 4 (v := .slice xA ss.length xc) rfl
  have CT := Lib.hid (fun (q : ss.length ≤ 1000000) => tripchk_any pc lc sc xc xi xv xy cl (h.st bW).top h.sc (hs.st bW) q)
  clear h hs BP BT
  go_enter Tryz.func9, Tryz.ntmps9
  by_cases q : (ss.length : Int) ≤ 40
  · have HQ : Hid (ss.length ≤ 40) := Lib.hid (by omega)
    go_wp2_with fail
    refine (CT.out (by omega)).mono ?_
    rintro e W3 ⟨⟨n, rfl, hz⟩, hbn⟩
    have HZ := Lib.hid hz
    have bW := bW.st hbn
    clear hz
    go_wp2_with fail
    go_ret
    exact ⟨⟨_, rfl, fun h => ⟨HZ.out (by simpa using h), HQ.out⟩⟩, bW⟩
  · go_wp2_with fail
    go_ret
    exact ⟨⟨_, rfl, fun h => by simp at h⟩, bW⟩
theorem right_ta {w : World} {ts : List Ta} (h : RightT ts) (hk : ∀ x ∈ ts, TaOk w x) : (∀ y ∈ ts, TaOk w y ∧ TaSm y) ∧ ts.length ≤ 1000000 :=
  ⟨fun y hy => ⟨hk y hy, by have := h.2 y hy; unfold TaSm; omega⟩, by have := h.1; omega⟩

end Go.Proofs.YtcpfiiapfggmpaaGreat
