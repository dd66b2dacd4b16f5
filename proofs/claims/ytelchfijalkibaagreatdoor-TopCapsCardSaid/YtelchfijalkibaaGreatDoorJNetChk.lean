/- Joined texts: NetChk, Box. -/
import Derived.Test.YtelchfijalkibaaGreatDoorJNetEnc
import Derived.Test.YtelchfijalkibaaGreatDoorJFirst
import Derived.Laws.Tables
import Derived.Laws.Rows
import Derived.Laws.ResultCell
import Derived.Deep.RegionHeld3
import Derived.Shelf.SlicesQ.Load
/- The reference's check of a network, walked: it returns an int. -/
set_option linter.unusedSimpArgs false
namespace Go.Proofs.YtelchfijalkibaaGreatDoor
open Go.RowKit Go.Lib

set_option maxRecDepth 100000 in
set_option maxHeartbeats 16000000 in
theorem netchk_any {pA lA : Option Addr} (pc lc : Nat) {pts : List Pt} {lks : List Lk} {w : World} (hp : Rd encPt 3 w w.heap.size pA pts) (hk : Rd encLk 4 w w.heap.size lA lks) (hpl : pts.length ≤ 9223372036854775807) (hkl : lks.length ≤ 9223372036854775807) :
    Calls Tryz.prog 37 #[.agg #[.slice pA pts.length pc, .slice lA lks.length lc]] w fun e w' => IntR e ∧ Below w.heap.size w w' := by
  obtain ⟨Y, hY⟩ : ∃ Y, w.alloc (.cells #[.slice pA pts.length pc, .slice lA lks.length lc] 25) = Y := ⟨_, rfl⟩
  have bW : Below w.heap.size w Y := by rw [← hY]; exact (Below.refl _ w).al _
  have BP : Blk Y w.heap.size #[.slice pA pts.length pc, .slice lA lks.length lc] 25 := by rw [← hY]; exact Blk.new w _ _
  have HP := Lib.hid hp
  have HK := Lib.hid hk
  have HBP := Lib.hid BP
  have HBW := Lib.hid bW
  have CN := Lib.hid (fun (s : ByteArray) (X : World) => r1name_any s X)
  have CP := Lib.hid (fun (n : Int) (s : ByteArray) (X : World) (hX : Below w.heap.size w X) => place_any pc n s (HP.out.st hX) hpl)
  have z0 := BP.cell 0 (v := .slice pA pts.length pc) rfl
  have z1 := BP.cell 1 (v := .slice lA lks.length lc) rfl
  clear hp hk
  by_cases q1 : 64 < pts.length
  · have q2 : (64 : Int) < (pts.length : Int) := by omega
    go_enter Tryz.func37, Tryz.ntmps37
    go_wp2_with fail
    go_ret
    exact ⟨⟨_, rfl⟩, bW⟩
  · have q2 : ¬ (64 : Int) < (pts.length : Int) := by omega
    by_cases q3 : 128 < lks.length
    · have q4 : (128 : Int) < (lks.length : Int) := by omega
      go_enter Tryz.func37, Tryz.ntmps37
      go_wp2_with fail
      go_ret
      exact ⟨⟨_, rfl⟩, bW⟩
    · have q4 : ¬ (128 : Int) < (lks.length : Int) := by omega
      go_enter Tryz.func37, Tryz.ntmps37
      go_wp2_with fail
      clear hY BP bW z0 z1
      go_loopw [3] (fun i wr => ∃ k : Nat, k ≤ pts.length ∧ i = .int .i64 k ∧ Below Y.heap.size Y wr) (fun i _ => pts.length - (RowKit.intOf i).toNat)
      case atStart => exact ⟨0, Nat.zero_le _, rfl, Below.refl _ _⟩
      case round =>
        obtain ⟨k, hk, rfl, bY⟩ := hrel
        have k1 : (0 : Int) ≤ (k : Int) := by omega
        have BP := HBP.out.below bY HBP.out.lt
        have bW := HBW.out.st bY
        have z0 := BP.cell 0 (v := .slice pA pts.length pc) rfl
        have z1 := BP.cell 1 (v := .slice lA lks.length lc) rfl
        by_cases hi : k < pts.length
        · have k2 : (k : Int) < (pts.length : Int) := by omega
          obtain ⟨b, off, p, hA, hb, hx, d0, d1, d2⟩ := (HP.out.st bW).pt hi
          rw [hA] at z0
          have HI := Lib.hid hi
          obtain ⟨pn, pk, ps⟩ := p
          simp only at *
          obtain ⟨Y5, hY5⟩ : ∃ Y, wr.alloc (.cells #[.string pn, .int .i64 pk, .string ps] 85) = Y := ⟨_, rfl⟩
          have b5 : Below wr.heap.size wr Y5 := by rw [← hY5]; exact (Below.refl _ wr).al _
          have B5 : Blk Y5 wr.heap.size #[.string pn, .int .i64 pk, .string ps] 85 := by rw [← hY5]; exact Blk.new wr _ _
          have BP5 := BP.below b5 BP.lt
          have y0 := BP5.cell 0 (v := .slice pA pts.length pc) rfl
          rw [hA] at y0
          have p0 := B5.cell 0 (v := .string pn) rfl
          have p1 := B5.cell 1 (v := .int .i64 pk) rfl
          have p2 := B5.cell 2 (v := .string ps) rfl
          have bW5 := bW.st b5
          have bY5 := bY.st b5
          have CPx := Lib.hid (CP.out (k : Int) pn Y5 bW5)
          rw [hA] at CPx
          clear hx hi hb hA BP BP5 B5 b5 bY bW
          cases he : emp ps
          · obtain ⟨e1, e2, e3⟩ := toList_neE he
            clear he
            cases hn : nameB pn <;> cases hs : nameB ps
            all_goals
              have CN1 := Lib.hid (CN.out pn)
              have CN2 := Lib.hid (CN.out ps)
              rw [hn] at CN1
              rw [hs] at CN2
              clear hn hs
              go_wp2_with (first | (with_reducible refine (CN1.out _).mono ?_; rintro e w' ⟨rfl, rfl⟩) | (with_reducible refine (CN2.out _).mono ?_; rintro e w' ⟨rfl, rfl⟩) | (with_reducible refine CPx.out.mono ?_; rintro e w' ⟨⟨r, rfl, hr⟩, rfl⟩))
              all_goals
                first
                | (go_ret; exact ⟨⟨_, rfl⟩, bW5⟩)
                | (go_roundw; (case rel => exact ⟨k + 1, HI.out, by go_num, bY5⟩); (case measure => have := HI.out; simp [RowKit.intOf]; omega))
          · obtain ⟨e1, e2, e3⟩ := toList_eE he
            clear he
            cases hn : nameB pn
            all_goals
              have CN1 := Lib.hid (CN.out pn)
              rw [hn] at CN1
              clear hn
              go_wp2_with (first | (with_reducible refine (CN1.out _).mono ?_; rintro e w' ⟨rfl, rfl⟩) | (with_reducible refine CPx.out.mono ?_; rintro e w' ⟨⟨r, rfl, hr⟩, rfl⟩))
              all_goals
                first
                | (go_ret; exact ⟨⟨_, rfl⟩, bW5⟩)
                | (go_roundw; (case rel => exact ⟨k + 1, HI.out, by go_num, bY5⟩); (case measure => have := HI.out; simp [RowKit.intOf]; omega))
        · obtain rfl : k = pts.length := by omega
          have HBP := Lib.hid BP
          have HBW := Lib.hid bW
          go_wp2_with fail
          clear z0 z1 BP bW bY
          obtain ⟨W1, hW1⟩ : ∃ V, V = wr := ⟨_, rfl⟩
          subst hW1
          go_loopw [5] (fun i wr => ∃ k : Nat, k ≤ lks.length ∧ i = .int .i64 k ∧ Below W1.heap.size W1 wr) (fun i _ => lks.length - (RowKit.intOf i).toNat)
          case atStart => exact ⟨0, Nat.zero_le _, rfl, Below.refl _ _⟩
          case round =>
            obtain ⟨k, hk, rfl, bY⟩ := hrel
            have k1 : (0 : Int) ≤ (k : Int) := by omega
            have BP := HBP.out.below bY HBP.out.lt
            have bW := HBW.out.st bY
            have z0 := BP.cell 0 (v := .slice pA pts.length pc) rfl
            have z1 := BP.cell 1 (v := .slice lA lks.length lc) rfl
            by_cases hi : k < lks.length
            · have k2 : (k : Int) < (lks.length : Int) := by omega
              obtain ⟨b, off, p, hA, hb, hx, d0, d1, d2, d3⟩ := (HK.out.st bW).lk hi
              rw [hA] at z1
              have HI := Lib.hid hi
              obtain ⟨pf, pt, mn, mx⟩ := p
              simp only at *
              obtain ⟨Y5, hY5⟩ : ∃ Y, wr.alloc (.cells #[.string pf, .string pt, .int .i64 mn, .int .i64 mx] 149) = Y := ⟨_, rfl⟩
              have b5 : Below wr.heap.size wr Y5 := by rw [← hY5]; exact (Below.refl _ wr).al _
              have B5 : Blk Y5 wr.heap.size #[.string pf, .string pt, .int .i64 mn, .int .i64 mx] 149 := by rw [← hY5]; exact Blk.new wr _ _
              have BP5 := BP.below b5 BP.lt
              have y0 := BP5.cell 0 (v := .slice pA pts.length pc) rfl
              have p0 := B5.cell 0 (v := .string pf) rfl
              have p1 := B5.cell 1 (v := .string pt) rfl
              have p2 := B5.cell 2 (v := .int .i64 mn) rfl
              have p3 := B5.cell 3 (v := .int .i64 mx) rfl
              have bW5 := bW.st b5
              have bY5 := bY.st b5
              have HBP5 := Lib.hid BP5
              have HBL5 := Lib.hid B5
              have y1 := BP5.cell 1 (v := .slice lA lks.length lc) rfl
              rw [hA] at y1
              have HW5 := Lib.hid bW5
              have CP1 := Lib.hid (CP.out 64 pf Y5 bW5)
              have CP2 := Lib.hid (CP.out 64 pt Y5 bW5)
              have HKX := Lib.hid hA
              clear hx hi hb hA BP BP5 B5 b5 bY bW
              have he2 : (pf.toList == pt.toList) = eqS pf pt := rfl
              cases he : eqS pf pt
              case' true =>
                rw [he] at he2
                clear he
                go_wp2_with (first | (with_reducible refine CP1.out.mono ?_; rintro e w' ⟨⟨r, rfl, hr⟩, hw'⟩; rw [hw']; clear hw' w') | (with_reducible refine CP2.out.mono ?_; rintro e w' ⟨⟨r, rfl, hr⟩, hw'⟩; rw [hw']; clear hw' w'))
                all_goals (go_ret; exact ⟨⟨_, rfl⟩, bW5⟩)
              rw [he] at he2
              clear he
              go_wp2_with fail
              refine CP1.out.mono ?_
              rintro e w' ⟨⟨r, rfl, -⟩, hw'⟩
              rw [hw']
              clear hw' w'
              by_cases hr1 : r < 0
              · have hd1 : decide (r < 0) = true := decide_eq_true hr1
                go_wp2_with fail
                go_ret
                exact ⟨⟨_, rfl⟩, bW5⟩
              have hd1 : decide (r < 0) = false := decide_eq_false hr1
              go_wp2_with fail
              refine CP2.out.mono ?_
              rintro e w' ⟨⟨r', rfl, -⟩, hw'⟩
              rw [hw']
              clear hw' w'
              by_cases hr2 : r' < 0
              · have hd2 : decide (r' < 0) = true := decide_eq_true hr2
                go_wp2_with fail
                go_ret
                exact ⟨⟨_, rfl⟩, bW5⟩
              have hd2 : decide (r' < 0) = false := decide_eq_false hr2
              go_wp2_with fail
              go_loopw [7] (fun i wr => ∃ m : Nat, m ≤ k ∧ i = .int .i64 m ∧ ∃ n, wr = Y5.drewN n) (fun i _ => k - (RowKit.intOf i).toNat)
              case atStart => exact ⟨0, Nat.zero_le _, rfl, 0, rfl⟩
              case round =>
                obtain ⟨m, hm, rfl, n, rfl⟩ := hrel
                have m1 : (0 : Int) ≤ (m : Int) := by omega
                by_cases hmk : m < k
                · have m2 : (m : Int) < (k : Int) := by omega
                  have m3 : (m : Int) < (lks.length : Int) := by have := HI.out; omega
                  obtain ⟨b', off', p', hA', hb', hx', f0, f1, f2, f3⟩ := (HK.out.st HW5.out).lk (i := m) (by have := HI.out; omega)
                  have hAA := HKX.out.symm.trans hA'
                  injection hAA with hAA
                  injection hAA with q1 q2
                  subst q1 q2
                  have HM := Lib.hid hmk
                  clear hA' hb' hx' f2 f3 hmk
                  have g1 : (p'.fr.toList == pf.toList) = eqS p'.fr pf := rfl
                  have g2 : (p'.to.toList == pt.toList) = eqS p'.to pt := rfl
                  cases ga : eqS p'.fr pf <;> cases gb : eqS p'.to pt
                  all_goals
                    rw [ga] at g1
                    rw [gb] at g2
                    clear ga gb
                    go_wp2_with fail
                    go_quiet (fail)
                    go_wp2_with fail
                    first
                    | (go_ret; exact ⟨⟨_, rfl⟩, by first | exact below_drewN (below_drewN HW5.out _) _ | exact below_drewN HW5.out _⟩)
                    | (go_roundw; (case rel => exact ⟨m + 1, HM.out, by go_num, _, rfl⟩); (case measure => have := HM.out; simp [RowKit.intOf]; omega))
                · obtain rfl : m = k := by omega
                  have bWn := below_drewN HW5.out n
                  have bYn := below_drewN bY5 n
                  clear hmk
                  by_cases a1 : mn < 1
                  · go_wp2_with fail
                    go_ret
                    exact ⟨⟨_, rfl⟩, bWn⟩
                  · by_cases a2 : mx < mn
                    · go_wp2_with fail
                      go_ret
                      exact ⟨⟨_, rfl⟩, bWn⟩
                    · by_cases a3 : 2147483648 < mx
                      · go_wp2_with fail
                        go_ret
                        exact ⟨⟨_, rfl⟩, bWn⟩
                      · go_wp2_with fail
                        go_roundw
                        case rel => exact ⟨m + 1, HI.out, by go_num, bYn⟩
                        case measure => have := HI.out; simp [RowKit.intOf]; omega
            · obtain rfl : k = lks.length := by omega
              go_wp2_with fail
              go_ret
              exact ⟨⟨_, rfl⟩, bW⟩
end Go.Proofs.YtelchfijalkibaaGreatDoor
/- Boxes that hold a whole struct: built, loaded, stored, returned as one. -/
namespace Go.Proofs.YtelchfijalkibaaGreatDoor
open Go.RowKit Go.Lib

/-- what a struct's type asks of its block -/
def isStr (P : Program) (ty : TypeId) (n : Nat) : Prop := ∃ fs, P.underlying ty = some (.struct fs) ∧ (P.info? ty).map (·.size) = some n

theorem _root_.Go.RowKit.Below.setRow {B : Nat} {w w' : World} (h : Below B w w') {g : Nat} (hg : B ≤ g) (cs : Array Value) : Below B w (w'.setRow g cs) :=
  ⟨h.os, h.tape, h.output, by simpa using h.size, fun k hk => (setRow_other w' g k cs (by omega)).trans (h.block k hk)⟩
theorem Blk.setRow {W : World} {B : Nat} {old cs : Array Value} {t : TypeId} (h : Blk W B old t) : Blk (W.setRow B cs) B cs t := setRow_heap W B old cs t (0, 0) h
theorem Blk.oth {W W' : World} {B g : Nat} {cs : Array Value} {t : TypeId} (h : Blk W B cs t) (ho : ∀ k, k ≠ g → W'.heap[k]? = W.heap[k]?) (hne : B ≠ g) : Blk W' B cs t := (ho B hne).trans h
theorem Rd.setO {α : Type} {enc : α → List Value} {k : Nat} {w : World} {B : Nat} {A : Option Addr} {l : List α} (h : Rd enc k w B A l) {p : Addr} (hA : ∀ b off, A = some ⟨b, off, none⟩ → b ≠ p.block) (v : Value) : Rd enc k (w.setCell p v) B A l :=
  h.keepIf fun b off hb _ o => World.cell?_of_block (w := w) (Below.heap_setCell w p v b (hA b off hb))
theorem Rd.set1 {α : Type} {enc : α → List Value} {k : Nat} {w : World} {A : Option Addr} {l : List α} (h : Rd enc k w w.heap.size A l) {p : Addr} (hA : ∀ b off, A = some ⟨b, off, none⟩ → b ≠ p.block) (v : Value) : Rd enc k (w.setCell p v) (w.setCell p v).heap.size A l := by
  have := h.setO hA v
  simpa using this
theorem Rd.lit {α : Type} {enc : α → List Value} {k e : Nat} (w : World) {cs : Array Value} (l : List α) (hE : Enc enc k) (hcs : cs.toList = l.flatMap enc) (hl : l.length ≤ 1000) :
    Rd enc k (w.alloc (.cells cs e)) (w.alloc (.cells cs e)).heap.size (some ⟨w.heap.size, 0, none⟩) l :=
  (Own.lit (e := e) w 0 l hE hcs rfl (Nat.zero_le _) (by omega)).rd hE

section
variable {P : Program}
theorem results_box {fn : Func} {p : Tmp} {ty : TypeId} (h : fn.results = #[.cell p ty]) (tmps : Array Value) {w : World} {g : Nat} {t : TypeId} {cs : Array Value}
    (hp : tmps.getD p undef = .pointer (some ⟨g, 0, none⟩)) (hg : Blk w g cs t) (hs : isStr P ty cs.size) : (results fn tmps).run P w = .ok (.agg cs) w := by
  obtain ⟨fs, hu, hi⟩ := hs
  exact results_cell_row h tmps w g t cs (0, 0) _ hp hg hu rfl hi
theorem results_box_tmp {fn : Func} {p u : Tmp} {ty : TypeId} (h : fn.results = #[.cell p ty, .tmp u]) (tmps : Array Value) {w : World} {g : Nat} {t : TypeId} {cs : Array Value} (v : Value)
    (hp : tmps.getD p undef = .pointer (some ⟨g, 0, none⟩)) (hv : tmps.getD u undef = v) (hg : Blk w g cs t) (hs : isStr P ty cs.size) : (results fn tmps).run P w = .ok (.tuple #[.agg cs, v]) w := by
  obtain ⟨fs, hu, hi⟩ := hs
  have hp' : tmps[p]?.getD undef = .pointer (some ⟨g, 0, none⟩) := by simpa using hp
  have hv' : tmps[u]?.getD undef = v := by simpa using hv
  have hg' : w.heap[g]? = some (.cells cs t (0, 0)) := hg
  rw [results_cell_tmp h]
  simp [hp', hv', asAddr, Result.andThen, run_loadVar_row w g t ty cs (0, 0) _ hg' hu rfl hi]

variable {ops : Array Oper} {rest : List Oper} {o : Oper} {a : Act} {w : World} {Q : Exit → Act → World → Prop}
/-- a struct loaded whole -/
theorem wpList_boxLoad (hgd : o.guard = none) {ty : TypeId} {x : Operand} (ho : o.op = .load ty x) {g : Nat} {cs : Array Value} {t : TypeId} (hb : Blk w g cs t)
    (hx : a.eval x = .pointer (some ⟨g, 0, none⟩)) (hs : isStr P ty cs.size) (h : wpList P ops Q rest (a.put o.dst (.agg cs)) w) : wpList P ops Q (o :: rest) a w := by
  obtain ⟨fs, hu, hi⟩ := hs
  exact wpList_load_row hgd ty x ho g hx t cs (0, 0) _ hb hu rfl hi h
/-- in a region that draws: a struct loaded whole may be taken at once -/
theorem yieldsIf_boxLoad {S : World → Prop} {o : Oper} {a : Act} (hw : Region.wanted o (yielded ops a.tmps) = true) {ty : TypeId} {x : Operand} (ho : o.op = .load ty x) {g : Nat} {cs : Array Value} {t : TypeId}
    (hx : a.eval x = .pointer (some ⟨g, 0, none⟩)) (hS : ∀ w, S w → Blk w g cs t) (hs : isStr P ty cs.size) : YieldsIf P ops S o (.agg cs) a := by
  obtain ⟨fs, hu, hi⟩ := hs
  exact .inl ⟨hw, fun w hw' => by
    have hb : w.heap[g]? = some (.cells cs t (0, 0)) := hS w hw'
    unfold execOp
    simp only [ho, hx, Instr.loadAt, Instr.sureAddr, Sem.run_bind, Sem.run_pure, Result.andThen_ok, run_loadVar_row w g t ty cs (0, 0) _ hb hu rfl hi]⟩
/-- a struct stored whole -/
theorem wpList_boxStore (hgd : o.guard = none) {ty : TypeId} {x y : Operand} (ho : o.op = .store ty x y) {g : Nat} {old cells : Array Value} {t : TypeId} (hb : Blk w g old t)
    (hx : a.eval x = .pointer (some ⟨g, 0, none⟩)) (hy : a.eval y = .agg cells) (hi : (P.info? ty).map (·.size) = some cells.size) (hold : old.size = cells.size) (h1 : cells.all (·.oneCell') = true)
    (h : ∀ w', Blk w' g cells t → (∀ k, k ≠ g → w'.heap[k]? = w.heap[k]?) → (∀ B w0, B ≤ g → Below B w0 w → Below B w0 w') → wpList P ops Q rest (a.put o.dst undef) w') : wpList P ops Q (o :: rest) a w :=
  wpList_store_row hgd ty x y ho g cells hx hy t old hb hi hold h1 (h (w.setRow g cells) hb.setRow (fun k hk => setRow_other w g k cells hk) fun B w0 hB hw => hw.setRow hB cells)
theorem wp_boxStore {K : Act → World → Prop} {ty : TypeId} {x y : Operand} (ho : o.op = .store ty x y) {g : Nat} {old cells : Array Value} {t : TypeId} (hb : Blk w g old t)
    (hx : a.eval x = .pointer (some ⟨g, 0, none⟩)) (hy : a.eval y = .agg cells) (hi : (P.info? ty).map (·.size) = some cells.size) (hold : old.size = cells.size) (h1 : cells.all (·.oneCell') = true)
    (h : ∀ w', Blk w' g cells t → (∀ k, k ≠ g → w'.heap[k]? = w.heap[k]?) → (∀ B w0, B ≤ g → Below B w0 w → Below B w0 w') → K (a.put o.dst undef) w') : o.wp P a w K Q :=
  wp_store_row ty x y ho g cells hx hy t old hb hi hold h1 (h (w.setRow g cells) hb.setRow (fun k hk => setRow_other w g k cells hk) fun B w0 hB hw => hw.setRow hB cells)
/-- a struct built whole -/
theorem wpList_boxBuild (hgd : o.guard = none) {t : TypeId} {parts : Array (Nat × Operand)} (ho : o.op = .build t parts)
    {cells : Array Value} (hf : P.built t (parts.map fun (i, x) => (i, a.eval x)).toList = some cells) (h : wpList P ops Q rest (a.put o.dst (.agg cells)) w) : wpList P ops Q (o :: rest) a w :=
  wpList_plain hgd fun K hK => wp_build t parts ho (by rw [hf]; rfl) (by rw [hf]; exact hK _ _ h)
end
end Go.Proofs.YtelchfijalkibaaGreatDoor
