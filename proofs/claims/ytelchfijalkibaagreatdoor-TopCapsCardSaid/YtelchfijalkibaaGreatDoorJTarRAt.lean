/- Joined texts: TarRAt, TarRate. -/
import Derived.Test.YtelchfijalkibaaGreatDoorTarAt
import Derived.Test.YtelchfijalkibaaGreatDoorJTarBand
import Derived.Laws.StructEq
import Derived.Deep.RegionHeld3
/- The reference's tariff of a time, walked. -/
set_option linter.unusedSimpArgs false
namespace Go.Proofs.YtelchfijalkibaaGreatDoor
open Go.RowKit Go.Lib

/-- what the reference's At hands back -/
def AtV (o : Option Ta) : Value := match o with
  | none => .tuple #[.agg #[.int .i64 0, .int .i64 0, .slice none 0 0, .slice none 0 0], .int .i64 22]
  | some y => .tuple #[.agg #[.int .i64 y.f, .int .i64 y.t, .slice y.bA y.bs.length y.bc, .slice y.rA y.rs.length y.rc], .int .i64 0]
theorem findM_mem {x : Int} : ∀ {l : List Ta} {y : Ta}, findM x l = some y → y ∈ l
  | [], _, h => by cases h
  | z :: l, y, h => by
    unfold findM at h
    split at h
    · rw [← Option.some.inj h]; exact List.mem_cons_self ..
    · exact List.mem_cons_of_mem _ (findM_mem h)

end Go.Proofs.YtelchfijalkibaaGreatDoor
/- The price of a class: tariff.Rate and the reference's, walked. -/
set_option linter.unusedSimpArgs false
set_option linter.unusedSimpArgs false
namespace Go.Proofs.YtelchfijalkibaaGreatDoor
open Go.RowKit Go.Lib

def eqRt (x y : Rt) : Bool := eqS x.fr y.fr && (eqS x.to y.to && (x.cls == y.cls && (eqS x.bd y.bd && x.ct == y.ct)))
def rtB (fr to : ByteArray) (cls : Int) (bd : ByteArray) (r : Rt) : Bool := eqS r.fr fr && (eqS r.to to && (r.cls == cls && eqS r.bd bd))
theorem eqRt_rtB (fr to : ByteArray) (cls : Int) (bd : ByteArray) (r : Rt) : eqRt r ⟨fr, to, cls, bd, r.ct⟩ = rtB fr to cls bd r := by simp [eqRt, rtB]
set_option maxRecDepth 100000 in
theorem eqRt_run (x1 y1 x2 y2 x4 y4 : ByteArray) (x3 x5 y3 y5 : Int) (w : World) : (binOp .eql 80 (.agg #[.string x1, .string x2, .int .i64 x3, .string x4, .int .i64 x5]) (.agg #[.string y1, .string y2, .int .i64 y3, .string y4, .int .i64 y5])).run Tryz.prog w = .ok (.bool (eqRt ⟨x1, x2, x3, x4, x5⟩ ⟨y1, y2, y3, y4, y5⟩)) w := by
  unfold eqRt eqS
  go_simp
  repeat' split
  all_goals simp_all
def ofM (q : Rt → Bool) : List Rt → Option Int
  | [] => none
  | r :: l => if q r = true then some r.ct else ofM q l
theorem ofM_at {q : Rt → Bool} {l : List Rt} {k : Nat} {r : Rt} (h : l[k]? = some r) : ofM q (l.drop k) = if q r = true then some r.ct else ofM q (l.drop (k + 1)) := by rw [drop_at h]; rfl
def rateL (fr to : ByteArray) (cls : Int) (rs : List Rt) : List ByteArray → Int × Int
  | [] => (0, 22)
  | b :: L => match ofM (rtB fr to cls b) rs with
    | some n => (n, 0)
    | none => rateL fr to cls rs L
theorem rateL_some {fr to : ByteArray} {cls : Int} {rs : List Rt} {b : ByteArray} {L : List ByteArray} {n : Int} (h : ofM (rtB fr to cls b) rs = some n) : rateL fr to cls rs (b :: L) = (n, 0) := by unfold rateL; rw [h]
theorem rateL_none {fr to : ByteArray} {cls : Int} {rs : List Rt} {b : ByteArray} {L : List ByteArray} (h : ofM (rtB fr to cls b) rs = none) : rateL fr to cls rs (b :: L) = rateL fr to cls rs L := by rw [rateL, h]
/-- the price of a class at a time -/
def rateM (x : Int) (fr to : ByteArray) (cls : Int) (bs : List Bd) (rs : List Rt) : Int × Int := rateL fr to cls rs [bandM x bs, ⟨#[]⟩]

set_option maxRecDepth 100000 in
set_option maxHeartbeats 8000000 in
theorem trate_any {bA rA : Option Addr} (f t x cls : Int) (fr to : ByteArray) (bc rc : Nat) {bs : List Bd} {rs : List Rt} {w : World} (hb : Rd encBd 4 w w.heap.size bA bs) (hr : Rd encRt 5 w w.heap.size rA rs) (hbl : bs.length ≤ 1000000) (hrl : rs.length ≤ 1000000) :
    Calls Tryz.prog 48 #[.agg #[.int .i64 f, .int .i64 t, .slice bA bs.length bc, .slice rA rs.length rc], .string fr, .string to, .int .i64 cls, .int .i64 x] w fun e w' => e = .returned (.tuple #[.int .i64 (rateM x fr to cls bs rs).1, .int .i64 (rateM x fr to cls bs rs).2]) ∧ Below w.heap.size w w' := by
  obtain ⟨Y1, hY1⟩ : ∃ Y, w.alloc (.cells #[.int .i64 f, .int .i64 t, .slice bA bs.length bc, .slice rA rs.length rc] 77) = Y := ⟨_, rfl⟩
  have b1 : Below w.heap.size w Y1 := by rw [← hY1]; exact (Below.refl _ w).al _
  have B1 : Blk Y1 w.heap.size #[.int .i64 f, .int .i64 t, .slice bA bs.length bc, .slice rA rs.length rc] 77 := by rw [← hY1]; exact Blk.new w _ _
  have p0 := B1.cell 0 (v := .int .i64 f) rfl
  have p1 := B1.cell 1 (v := .int .i64 t) rfl
  have p2 := B1.cell 2 (v := .slice bA bs.length bc) rfl
  have p3 := B1.cell 3 (v := .slice rA rs.length rc) rfl
  have CB := Lib.hid (tband_any f t x bc rs.length rc (rA := rA) (hb.st b1) hbl)
  have HR := Lib.hid hr
  generalize hres : rateM x fr to cls bs rs = res
  have HS : Hid (rateL fr to cls rs [bandM x bs, ⟨#[]⟩] = res) := Lib.hid hres
  generalize bandM x bs = bj at *
  clear hr hb hres
  go_enter Tryz.func48, Tryz.ntmps48
  go_wp2_with fail
  refine CB.out.mono ?_
  rintro e W2 ⟨rfl, hbn⟩
  have b2 := b1.st hbn
  have B2 := B1.below hbn B1.lt
  have hg : w.heap.size ≤ W2.heap.size := b2.size
  go_wp2_with fail
  obtain ⟨W3, hW3⟩ : ∃ Y, W2.alloc (.cells #[.string fr, .string to, .int .i64 cls, .string bj, .int .i64 0] 80) = Y := ⟨_, rfl⟩
  rw [hW3]
  have b3 : Below w.heap.size w W3 := by rw [← hW3]; exact b2.al _
  have B3 : Blk W3 W2.heap.size #[.string fr, .string to, .int .i64 cls, .string bj, .int .i64 0] 80 := by rw [← hW3]; exact Blk.new W2 _ _
  have HBT : Hid (Blk W3 w.heap.size #[.int .i64 f, .int .i64 t, .slice bA bs.length bc, .slice rA rs.length rc] 77) := Lib.hid (by rw [← hW3]; exact B2.alloc _)
  have HB3 := Lib.hid B3
  have hlt3 : W2.heap.size < W3.heap.size := B3.lt
  have hltt : w.heap.size < W2.heap.size := B2.lt
  clear hbn B1 B2 B3 CB p0 p1 p2 p3 hY1 b1 hW3
  go_loopw [22] (fun i wr => ∃ (j : Nat) (bj : ByteArray) (ct : Int) (L : List ByteArray), i = .int .i64 j ∧ j + L.length = 2 ∧ Hid (∀ b' L', L = b' :: L' → b' = bj) ∧ Hid (∀ y ∈ L.tail, y = ⟨#[]⟩) ∧ Hid (rateL fr to cls rs L = res) ∧ Hid (Blk wr W2.heap.size #[.string fr, .string to, .int .i64 cls, .string bj, .int .i64 ct] 80) ∧ Hid (Blk wr w.heap.size #[.int .i64 f, .int .i64 t, .slice bA bs.length bc, .slice rA rs.length rc] 77) ∧ Below w.heap.size w wr) (fun i _ => 2 - (RowKit.intOf i).toNat)
  case atStart => exact ⟨0, bj, 0, [bj, ⟨#[]⟩], rfl, rfl, Lib.hid (fun b' L' h => by injection h with h1 h2; exact h1.symm), Lib.hid (by simp), HS, HB3, HBT, b3⟩
  case round =>
    clear HS HB3 HBT b3
    obtain ⟨j, bj, ct0, L, rfl, hjl, H1, H2, HS, HB, HBT, bR⟩ := hrel
    cases L with
    | nil =>
      have hj2 : ¬ (j : Int) < 2 := by have : j + 0 = 2 := hjl; omega
      have R := Lib.hid (show ((0 : Int), (22 : Int)) = res from HS.out)
      clear HS H1 H2
      go_wp2_with fail
      go_ret2
      rw [← R.out]
      exact ⟨rfl, bR⟩
    | cons bx L' =>
      have hj1 : j + (L'.length + 1) = 2 := hjl
      have hj2 : (j : Int) < 2 := by omega
      have hbb := (H1.out bx L' rfl).symm
      subst hbb
      have HL := Lib.hid hj1
      have t3 := HBT.out.cell 3 (v := .slice rA rs.length rc) rfl
      obtain ⟨wo, hwo⟩ : ∃ wo, wo = wr := ⟨_, rfl⟩
      rw [← hwo] at HB HBT bR t3 ⊢
      clear hwo wr hjl hj1 H1
      go_wp2_with fail
      go_loopw [27] (fun i wr => ∃ (k : Nat) (ct : Int), k ≤ rs.length ∧ i = .int .i64 k ∧ Hid (ofM (rtB fr to cls bj) (rs.drop k) = ofM (rtB fr to cls bj) rs) ∧ Hid (Blk wr W2.heap.size #[.string fr, .string to, .int .i64 cls, .string bj, .int .i64 ct] 80) ∧ Hid (Blk wr w.heap.size #[.int .i64 f, .int .i64 t, .slice bA bs.length bc, .slice rA rs.length rc] 77) ∧ Below w.heap.size w wr) (fun i _ => rs.length - (RowKit.intOf i).toNat)
      case atStart => exact ⟨0, ct0, Nat.zero_le _, rfl, rfl, HB, HBT, bR⟩
      case round =>
        clear HB HBT bR t3
        obtain ⟨k, ct, hk, rfl, HK, HB, HBT, bR⟩ := hrel
        have k1 : (0 : Int) ≤ (k : Int) := by omega
        by_cases hi : k < rs.length
        · have k2 : (k : Int) < (rs.length : Int) := by omega
          obtain ⟨b, off, r, hA, hbb, hx, d0, d1, d2, d3, d4⟩ := (HR.out.st bR).rt hi
          have HI := Lib.hid hi
          have HT := Lib.hid (ofM_at (q := rtB fr to cls bj) hx)
          have HAE := Lib.hid hA
          (obtain ⟨W4, hW4⟩ : ∃ Y, wr.alloc (.cells #[.string r.fr, .string r.to, .int .i64 r.cls, .string r.bd, .int .i64 r.ct] 80) = Y := ⟨_, rfl⟩); (have B4 : Blk W4 wr.heap.size #[.string r.fr, .string r.to, .int .i64 r.cls, .string r.bd, .int .i64 r.ct] 80 := by rw [← hW4]; exact Blk.new wr _ _); (have B34 : Blk W4 W2.heap.size #[.string fr, .string to, .int .i64 cls, .string bj, .int .i64 ct] 80 := by rw [← hW4]; exact HB.out.alloc _); (have b4 : Below w.heap.size w W4 := by rw [← hW4]; exact bR.al _); (have g4 := B4.cell 4 (v := .int .i64 r.ct) rfl); (have z4 := B34.cell 4 (v := .int .i64 ct) rfl); (have f4 := B34.frozen 4); (have B5 : Blk (W4.setCell ⟨W2.heap.size, 4, none⟩ (.int .i64 r.ct)) W2.heap.size #[.string fr, .string to, .int .i64 cls, .string bj, .int .i64 r.ct] 80 := B34.set 4 (.int .i64 r.ct)); (have hne : wr.heap.size ≠ W2.heap.size := by have := HB.out.lt; omega); (have B6 := B4.other (p := ⟨W2.heap.size, 4, none⟩) hne (.int .i64 r.ct)); (have b5 := b4.setCell (p := ⟨W2.heap.size, 4, none⟩) hg (.int .i64 r.ct)); (obtain ⟨W5, hW5⟩ : ∃ Y, W4.setCell ⟨W2.heap.size, 4, none⟩ (.int .i64 r.ct) = Y := ⟨_, rfl⟩); rw [hW5] at B5 B6 b5; (have a0 := B5.cell 0 (v := .string fr) rfl); (have a1 := B5.cell 1 (v := .string to) rfl); (have a2 := B5.cell 2 (v := .int .i64 cls) rfl); (have a3 := B5.cell 3 (v := .string bj) rfl); (have a4 := B5.cell 4 (v := .int .i64 r.ct) rfl); (have c0 := B6.cell 0 (v := .string r.fr) rfl); (have c1 := B6.cell 1 (v := .string r.to) rfl); (have c2 := B6.cell 2 (v := .int .i64 r.cls) rfl); (have c3 := B6.cell 3 (v := .string r.bd) rfl); (have c4 := B6.cell 4 (v := .int .i64 r.ct) rfl); (have HB := Lib.hid B5); (have qe := fun (X : World) => eqRt_run r.fr fr r.to to r.bd bj r.cls r.ct cls r.ct X); (have eb := eqRt_rtB fr to cls bj r); (clear B4 B34 B5 B6 b4 hne)
          have HBT2 : Hid (Blk W5 w.heap.size #[.int .i64 f, .int .i64 t, .slice bA bs.length bc, .slice rA rs.length rc] 77) := Lib.hid (by rw [← hW5, ← hW4]; exact (HBT.out.alloc _).other (by show w.heap.size ≠ W2.heap.size; omega) _)
          subst hA
          clear hx hi hbb HBT bR HAE
          cases hq : rtB fr to cls bj r
          · have R : Hid (ofM (rtB fr to cls bj) (rs.drop (k + 1)) = ofM (rtB fr to cls bj) rs) := Lib.hid (by rw [← HK.out, HT.out, if_neg (by rw [hq]; simp)])
            rw [hq] at eb
            clear HT HK hq
            go_wp2_with fail
            go_roundw
            case rel => exact ⟨k + 1, r.ct, HI.out, by go_num, R, HB, HBT2, b5⟩
            case measure => have := HI.out; simp [RowKit.intOf]; omega
          · have R : Hid ((r.ct, (0 : Int)) = res) := Lib.hid (by rw [← HS.out]; exact (rateL_some (by rw [← HK.out, HT.out, if_pos hq])).symm)
            rw [hq] at eb
            clear HT HK HS hq
            go_wp2_with fail
            go_ret2
            rw [← R.out]
            exact ⟨rfl, b5⟩
        · obtain rfl : k = rs.length := by omega
          have R : Hid (rateL fr to cls rs L' = res) := Lib.hid (by rw [← HS.out]; exact (rateL_none (by rw [← HK.out, List.drop_length]; rfl)).symm)
          have z3 := HB.out.cell 3 (v := .string bj) rfl
          have f3 := HB.out.frozen 3
          have HB2 : Hid (Blk (wr.setCell ⟨W2.heap.size, 3, none⟩ (.string ⟨#[]⟩)) W2.heap.size #[.string fr, .string to, .int .i64 cls, .string ⟨#[]⟩, .int .i64 ct] 80) := Lib.hid (HB.out.set 3 (.string ⟨#[]⟩))
          have HBT2 : Hid (Blk (wr.setCell ⟨W2.heap.size, 3, none⟩ (.string ⟨#[]⟩)) w.heap.size #[.int .i64 f, .int .i64 t, .slice bA bs.length bc, .slice rA rs.length rc] 77) := Lib.hid (HBT.out.other (by show w.heap.size ≠ W2.heap.size; omega) _)
          have b6 := bR.setCell (p := ⟨W2.heap.size, 3, none⟩) hg (.string ⟨#[]⟩)
          have H3 : Hid (∀ b' L'', L' = b' :: L'' → b' = ⟨#[]⟩) := Lib.hid (fun b' L'' h => H2.out b' (by rw [h]; simp))
          have H4 : Hid (∀ y ∈ L'.tail, y = ⟨#[]⟩) := Lib.hid (fun y hy => H2.out y (List.mem_of_mem_tail hy))
          have hjl : Hid (j + 1 + L'.length = 2) := Lib.hid (by have := HL.out; omega)
          clear HS HK HB HBT bR H2 HL
          go_wp2_with fail
          go_roundw
          case rel => exact ⟨j + 1, ⟨#[]⟩, ct, L', by go_num, hjl.out, H3, H4, R, HB2, HBT2, b6⟩
          case measure => simp [RowKit.intOf]; omega
end Go.Proofs.YtelchfijalkibaaGreatDoor
