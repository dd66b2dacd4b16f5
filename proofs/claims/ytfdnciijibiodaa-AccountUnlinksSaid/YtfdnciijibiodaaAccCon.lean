/- account.conflicts, walked. -/
import Derived.Test.YtfdnciijibiodaaAccEnc
import Derived.Test.YtfdnciijibiodaaMeet
namespace Go.Proofs.Ytfdnciijibiodaa
open Go.RowKit Go.Lib

theorem nf_pos {n : List Iv} (h : NF n) : (0 < n.length) ↔ ∃ t, Mem n t := by
  cases n with
  | nil => simp [Mem.nil]
  | cons y n => simp; exact ⟨y.1, Mem.head ((NF.cons_iff y n).1 h).1⟩
theorem mem_one (x : Iv) (t : Int) : Mem [x] t ↔ vld x ∧ x.1 ≤ t ∧ t < x.2 := by
  rw [Mem.cons]
  exact ⟨fun h => h.elim id fun h => absurd h (Mem.nil t), Or.inl⟩
theorem meet_len {n : List Iv} {x o : Ow} (h : NF n) (hm : ∀ t, Mem n t ↔ Mem [(x.f, x.t)] t ∧ Mem [(o.f, o.t)] t) : decide (0 < (n.length : Int)) = overl x o := by
  rw [Bool.eq_iff_iff, decide_eq_true_eq]
  have : (0 < (n.length : Int)) ↔ 0 < n.length := by omega
  rw [this, nf_pos h]
  unfold overl
  simp only [Bool.and_eq_true, decide_eq_true_eq, validB_iff]
  constructor
  · rintro ⟨t, ht⟩
    rw [hm, mem_one, mem_one] at ht
    simp only at ht
    exact ⟨⟨⟨ht.1.1, ht.2.1⟩, by omega⟩, by omega⟩
  · rintro ⟨⟨⟨h1, h2⟩, h3⟩, h4⟩
    refine ⟨max x.f o.f, ?_⟩
    rw [hm, mem_one, mem_one]
    unfold vld at *
    simp only at *
    exact ⟨⟨h1, by omega, by omega⟩, h2, by omega, by omega⟩
/-- span.Meet at two intervals, each in a box of its own -/
theorem meet2_any (x o : Ow) {ga gb : Nat} {W : World} (ha : Blk W ga #[.int .i64 x.f, .int .i64 x.t] 41) (hb : Blk W gb #[.int .i64 o.f, .int .i64 o.t] 41) :
    Calls Try.prog 34 #[.slice (some ⟨ga, 0, none⟩) 1 1, .slice (some ⟨gb, 0, none⟩) 1 1] W fun e w' => ∃ A c n, e = .returned (.slice A n c) ∧ decide (0 < (n : Int)) = overl x o ∧ Below W.heap.size W w' := by
  have key : ∀ {g : Nat} {f t : Int}, Blk W g #[.int .i64 f, .int .i64 t] 41 → Rd encIv 2 W W.heap.size (some ⟨g, 0, none⟩) [((f, t) : Iv)] := by
    intro g f t hg _
    refine ⟨g, 0, rfl, hg.lt, fun i y hi j u hu => ?_⟩
    match i, j with
    | 0, 0 => simp at hi; subst hi; simp [encIv] at hu; subst hu; exact hg.cell 0 rfl
    | 0, 1 => simp at hi; subst hi; simp [encIv] at hu; subst hu; exact hg.cell 1 rfl
    | 0, j + 2 => simp [encIv] at hu
    | i + 1, _ => simp at hi
  refine (meet_any 1 1 (key ha) (key hb) (by simp) (by simp)).mono ?_
  rintro e w' ⟨A, c, n, rfl, h1, h2, h3, h4⟩
  exact ⟨A, c, n.length, rfl, meet_len h1 h2, h4⟩
theorem conL_at {l : List Ow} {k : Nat} {x o : Ow} (hx : l[k]? = some x) (h : conB x o = true) : conL l o = true := List.any_eq_true.2 ⟨x, List.mem_of_getElem? hx, h⟩
theorem conL_none {l : List Ow} {o : Ow} (h : ∀ y ∈ l.take l.length, conB y o = false) : conL l o = false := by
  rw [List.take_length] at h
  unfold conL
  rw [List.any_eq_false]
  intro y hy
  simp [h y hy]

set_option maxRecDepth 100000 in
set_option maxHeartbeats 8000000 in
theorem conflicts_any {A : Option Addr} (c : Nat) {l : List Ow} (o : Ow) {w : World} (h : Rd encOw 4 w w.heap.size A l) (hl : l.length ≤ 100000000000) :
    Calls Try.prog 28 #[.slice A l.length c, OwV o] w fun e w' => e = .returned (.bool (conL l o)) ∧ Below w.heap.size w w' := by
  have H := Lib.hid h
  have HAT := Lib.hid (fun (k : Nat) (x : Ow) (hx : l[k]? = some x) (q : conB x o = true) => conL_at hx q)
  have HNO := Lib.hid (conL_none (l := l) (o := o))
  have HCB := Lib.hid (fun (x : Ow) => show conB x o = (eqS x.tag o.tag && eqS x.pl o.pl && overl x o) from rfl)
  have CM := Lib.hid (fun (x : Ow) {ga gb : Nat} {W : World} ha hb => meet2_any x o (ga := ga) (gb := gb) (W := W) ha hb)
  generalize conL l o = r at *
  clear h
  obtain ⟨Y1, hY1⟩ : ∃ Y, w.alloc (.cells #[.string o.tag, .string o.pl, .int .i64 o.f, .int .i64 o.t] 43) = Y := ⟨_, rfl⟩
  have bW : Below w.heap.size w Y1 := by rw [← hY1]; exact (Below.refl _ w).al _
  have BA : Blk Y1 w.heap.size #[.string o.tag, .string o.pl, .int .i64 o.f, .int .i64 o.t] 43 := by rw [← hY1]; exact Blk.new w _ _
  simp only [OwV]
  go_enter Try.func28, Try.ntmps28
  go_wp2
  go_loopw [9] (fun i wr => ∃ k : Nat, k ≤ l.length ∧ i = .int .i64 k ∧ Hid (∀ y ∈ l.take k, conB y o = false) ∧ Blk wr w.heap.size #[.string o.tag, .string o.pl, .int .i64 o.f, .int .i64 o.t] 43 ∧ Below w.heap.size w wr) (fun i _ => l.length - (intOf i).toNat)
  case atStart => exact ⟨0, Nat.zero_le _, rfl, (by unfold Hid; simp), BA, bW⟩
  case round =>
    clear BA bW hY1 Y1
    obtain ⟨k, hk, rfl, HN, BA, bW⟩ := hrel
    by_cases hi : k < l.length
    · obtain ⟨b, off, x, rfl, hb, hx, d0, d1, d2, d3⟩ := (H.out.st bW).ow hi
      have HK := Lib.hid hi
      have i1 : (0 : Int) ≤ (k : Int) := by omega
      have i2 : (k : Int) < (l.length : Int) := by omega
      obtain ⟨Y2, hY2⟩ : ∃ Y, wr.alloc (.cells #[.string x.tag, .string x.pl, .int .i64 x.f, .int .i64 x.t] 43) = Y := ⟨_, rfl⟩
      have sY2 : Y2.heap.size = wr.heap.size + 1 := by rw [← hY2]; simp
      have BX : Blk Y2 wr.heap.size #[.string x.tag, .string x.pl, .int .i64 x.f, .int .i64 x.t] 43 := by rw [← hY2]; exact Blk.new wr _ _
      have BA2 : Blk Y2 w.heap.size #[.string o.tag, .string o.pl, .int .i64 o.f, .int .i64 o.t] 43 := by rw [← hY2]; exact BA.alloc _
      have bW2 : Below w.heap.size w Y2 := by rw [← hY2]; exact bW.al _
      have x0 : World.cell? Y2 ⟨wr.heap.size, 0, none⟩ = some (.string x.tag) := BX.cell 0 rfl
      have x1 : World.cell? Y2 ⟨wr.heap.size, 1, none⟩ = some (.string x.pl) := BX.cell 1 rfl
      have x2 : World.cell? Y2 ⟨wr.heap.size, 2, none⟩ = some (.int .i64 x.f) := BX.cell 2 rfl
      have x3 : World.cell? Y2 ⟨wr.heap.size, 3, none⟩ = some (.int .i64 x.t) := BX.cell 3 rfl
      have o0 : World.cell? Y2 ⟨w.heap.size, 0, none⟩ = some (.string o.tag) := BA2.cell 0 rfl
      have o1 : World.cell? Y2 ⟨w.heap.size, 1, none⟩ = some (.string o.pl) := BA2.cell 1 rfl
      have o2 : World.cell? Y2 ⟨w.heap.size, 2, none⟩ = some (.int .i64 o.f) := BA2.cell 2 rfl
      have o3 : World.cell? Y2 ⟨w.heap.size, 3, none⟩ = some (.int .i64 o.t) := BA2.cell 3 rfl
      have HX := Lib.hid hx
      have HCx := HCB.out x
      cases e1 : eqS x.tag o.tag
      · have hc : conB x o = false := by rw [HCx, e1]; rfl
        have R := Lib.hid (all_succ' (p := fun y => conB y o) hx HN.out hc)
        have e1b : (x.tag.toList == o.tag.toList) = false := e1
        clear hx hc HCx e1 BA bW hi
        go_wp2_with fail
        go_roundw
        case rel => exact ⟨k + 1, HK.out, by go_num, R, BA2, bW2⟩
        case measure => have := HK.out; simp [intOf]; omega
      · cases e2 : eqS x.pl o.pl
        · have hc : conB x o = false := by rw [HCx, e1, e2]; rfl
          have R := Lib.hid (all_succ' (p := fun y => conB y o) hx HN.out hc)
          have e1b : (x.tag.toList == o.tag.toList) = true := e1
          have e2b : (x.pl.toList == o.pl.toList) = false := e2
          clear hx hc HCx e1 e2 BA bW hi
          go_wp2_with fail
          go_roundw
          case rel => exact ⟨k + 1, HK.out, by go_num, R, BA2, bW2⟩
          case measure => have := HK.out; simp [intOf]; omega
        · have hc : conB x o = overl x o := by rw [HCx, e1, e2]; rfl
          obtain ⟨Y3, hY3⟩ : ∃ Y, Y2.alloc (.cells #[.int .i64 x.f, .int .i64 x.t] 41) = Y := ⟨_, rfl⟩
          obtain ⟨Y4, hY4⟩ : ∃ Y, Y3.alloc (.cells #[.int .i64 o.f, .int .i64 o.t] 41) = Y := ⟨_, rfl⟩
          have sY3 : Y3.heap.size = wr.heap.size + 1 + 1 := by rw [← hY3, ← sY2]; simp
          have z2 : World.cell? Y3 ⟨w.heap.size, 2, none⟩ = some (.int .i64 o.f) := by rw [← hY3]; exact (BA2.alloc _).cell 2 rfl
          have z3 : World.cell? Y3 ⟨w.heap.size, 3, none⟩ = some (.int .i64 o.t) := by rw [← hY3]; exact (BA2.alloc _).cell 3 rfl
          have BA4 : Blk Y4 w.heap.size #[.string o.tag, .string o.pl, .int .i64 o.f, .int .i64 o.t] 43 := by rw [← hY4, ← hY3]; exact (BA2.alloc _).alloc _
          have bW4 : Below w.heap.size w Y4 := by rw [← hY4, ← hY3]; exact (bW2.al _).al _
          have CMx := Lib.hid (CM.out x (ga := wr.heap.size + 1) (gb := wr.heap.size + 1 + 1) (W := Y4) (by rw [← hY4, ← hY3, ← sY2]; exact (Blk.new Y2 _ _).alloc _) (by rw [← hY4, ← sY3]; exact Blk.new Y3 _ _))
          have e1b : (x.tag.toList == o.tag.toList) = true := e1
          have e2b : (x.pl.toList == o.pl.toList) = true := e2
          have HC := Lib.hid hc
          clear hx hc HCx e1 e2 BA bW hi BA2 bW2
          go_wp2_with fail
          refine CMx.out.mono ?_
          rintro e w5 ⟨Am, cm, n, rfl, hn, hbn⟩
          have bW5 := bW4.st hbn
          have BA5 := BA4.below hbn BA4.lt
          cases ho : overl x o
          · rw [ho] at hn
            have R := Lib.hid (all_succ' (p := fun y => conB y o) HX.out HN.out (HC.out.trans ho))
            have hn2 := of_decide_eq_false hn
            obtain rfl : n = 0 := by omega
            clear ho hn hn2
            go_wp2_with fail
            go_roundw
            case rel => exact ⟨k + 1, HK.out, by go_num, R, BA5, bW5⟩
            case measure => have := HK.out; simp [intOf]; omega
          · rw [ho] at hn
            have R := Lib.hid (HAT.out k x HX.out (HC.out.trans ho))
            have hn2 : 0 < (n : Int) := of_decide_eq_true hn
            clear ho hn
            go_wp2_with fail
            go_ret
            obtain rfl := R.out; exact ⟨rfl, bW5⟩
    · obtain rfl : k = l.length := by omega
      have R := Lib.hid (HNO.out HN.out)
      go_wp2
      go_ret
      obtain rfl := R.out; exact ⟨rfl, bW⟩
end Go.Proofs.Ytfdnciijibiodaa
