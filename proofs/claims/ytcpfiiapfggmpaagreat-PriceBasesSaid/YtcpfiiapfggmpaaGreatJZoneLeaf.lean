/- Joined texts: ZoneLeaf, ZoneOn, ZoneRefName, ZoneEnc, ZoneWords. -/
import Derived.Test.YtcpfiiapfggmpaaGreatZoneMath
import Derived.Test.YtcpfiiapfggmpaaGreatJFirst
import Derived.IntWalk
import Derived.Test.YtcpfiiapfggmpaaGreatJStrEq
/- The small functions of chapter 26, walked: within, valid, isTime, on, Minute. -/
namespace Go.Proofs.YtcpfiiapfggmpaaGreat
open Go.RowKit Go.Lib

theorem zwithin_any (n a b : Int) (w : World) :
    Calls Tryz.prog 153 #[.int .i64 n, .int .i64 a, .int .i64 b] w fun e w' => e = .returned (.bool (decide (a ≤ n ∧ n ≤ b))) ∧ w' = w := by
  go_enter Tryz.func153, Tryz.ntmps153
  go_wp2
  all_goals (go_ret; exact ⟨ret_bool (by rw [Bool.eq_iff_iff]; simp; omega), rfl⟩)
theorem rIsSpan_any (f t : Int) (w : World) :
    Calls Tryz.prog 159 #[.agg #[.int .i64 f, .int .i64 t]] w fun e w' => e = .returned (.bool (validB f t)) ∧ w.alloc (.cells #[.int .i64 f, .int .i64 t] 59) = w' := by
  unfold validB
  go_enter Tryz.func159, Tryz.ntmps159
  go_wp2
  all_goals (go_ret; exact ⟨ret_bool (by rw [Bool.eq_iff_iff]; simp; omega), rfl⟩)
theorem rIsWindow_any (x : Wn) (w : World) :
    Calls Tryz.prog 105 #[.agg #[.int .i64 x.1, .int .i64 x.2.1, .int .i64 x.2.2]] w fun e w' => e = .returned (.bool (vw x)) ∧ w.alloc (.cells #[.int .i64 x.1, .int .i64 x.2.1, .int .i64 x.2.2] 91) = w' := by
  unfold vw
  go_enter Tryz.func105, Tryz.ntmps105
  go_wp2
  all_goals (go_ret; exact ⟨ret_bool (by rw [Bool.eq_iff_iff]; simp; omega), rfl⟩)
theorem cvalid_any (x : Wn) (w : World) :
    Calls Tryz.prog 129 #[.agg #[.int .i64 x.1, .int .i64 x.2.1, .int .i64 x.2.2]] w fun e w' => e = .returned (.bool (vw x)) ∧ w.alloc (.cells #[.int .i64 x.1, .int .i64 x.2.1, .int .i64 x.2.2] 91) = w' := by
  unfold vw
  go_enter Tryz.func129, Tryz.ntmps129
  go_wp2
  all_goals (go_ret; exact ⟨ret_bool (by rw [Bool.eq_iff_iff]; simp; omega), rfl⟩)
theorem zvalid_any (x : Wn) (w : World) :
    Calls Tryz.prog 151 #[.agg #[.int .i64 x.1, .int .i64 x.2.1, .int .i64 x.2.2]] w fun e w' => e = .returned (.bool (vw x)) ∧ w.alloc (.cells #[.int .i64 x.1, .int .i64 x.2.1, .int .i64 x.2.2] 91) = w' := by
  unfold vw
  go_enter Tryz.func151, Tryz.ntmps151
  go_wp2_with (go_at_call 153; refine (zwithin_any _ _ _ _).mono ?_; rintro e w' ⟨rfl, rfl⟩)
  all_goals (go_ret; exact ⟨ret_bool (by rw [Bool.eq_iff_iff]; simp; omega), rfl⟩)
end Go.Proofs.YtcpfiiapfggmpaaGreat
/- Days of windows: clock.on, the reference's On; clock.In. -/
namespace Go.Proofs.YtcpfiiapfggmpaaGreat
open Go.RowKit Go.Lib

theorem bit_and {y : Int} (h0 : 0 ≤ y) (h1 : y ≤ 127) : bits BinOp.and IntKind.i64 y 1 = y % 2 := by
  have key : ∀ n : Fin 128, bits BinOp.and IntKind.i64 (n.1 : Int) 1 = (n.1 : Int) % 2 := by decide +kernel
  have := key ⟨y.toNat, by omega⟩
  simp only at this
  rwa [show ((y.toNat : Nat) : Int) = y by omega] at this
theorem div_pow {y : Int} (h0 : 0 ≤ y) (k : Nat) : 0 ≤ y / 2 ^ k ∧ y / 2 ^ k ≤ y := by
  have hp : (0 : Int) < 2 ^ k := Int.pow_pos (by omega)
  exact ⟨Int.ediv_nonneg h0 (Int.le_of_lt hp), Int.ediv_le_self _ h0⟩
theorem div_pow_succ (y : Int) (k : Nat) : y / 2 ^ (k + 1) = y / 2 ^ k / 2 := by
  rw [Int.pow_succ, Int.ediv_ediv_of_nonneg (Int.le_of_lt (Int.pow_pos (by omega)))]
theorem on_any (x : Wn) (d : Int) (w : World) (hv : vw x = true) (hd : 0 ≤ d) :
    Calls Tryz.prog 130 #[.agg #[.int .i64 x.1, .int .i64 x.2.1, .int .i64 x.2.2], .int .i64 d] w fun e w' => e = .returned (.bool (onD x.1 d)) ∧ w.alloc (.cells #[.int .i64 x.1, .int .i64 x.2.1, .int .i64 x.2.2] 91) = w' := by
  have hw := (vw_iff x).1 hv
  have h1 := div_pow (y := x.1) (by omega) (d % 7).toNat
  go_enter Tryz.func130, Tryz.ntmps130
  go_wp2
  all_goals (go_ret; exact ⟨ret_bool (by rw [Bool.eq_iff_iff]; simp; rw [bit_and h1.1 (by omega)]; simp [onD]), rfl⟩)

theorem rOn_any (x : Wn) (d : Int) (w : World) (hv : vw x = true) (hd : 0 ≤ d) :
    Calls Tryz.prog 170 #[.agg #[.int .i64 x.1, .int .i64 x.2.1, .int .i64 x.2.2], .int .i64 d] w fun e w' => e = .returned (.bool (onD x.1 d)) ∧ Below w.heap.size w w' := by
  have hw := (vw_iff x).1 hv
  have hb : Below w.heap.size w (w.alloc (.cells #[.int .i64 x.1, .int .i64 x.2.1, .int .i64 x.2.2] 91)) := (Below.refl _ w).al _
  go_enter Tryz.func170, Tryz.ntmps170
  go_wp2
  go_loopw [5, 6] (fun v i wr => ∃ k : Nat, (k : Int) ≤ d % 7 ∧ i = .int .i64 k ∧ v = .int .i64 (x.1 / 2 ^ k) ∧ Below w.heap.size w wr) (fun _ i _ => 7 - (RowKit.intOf i).toNat)
  case atStart => exact ⟨0, by omega, rfl, by simp, hb⟩
  case round =>
    obtain ⟨k, hk, rfl, rfl, hbr⟩ := hrel
    have h1 := div_pow (y := x.1) (by omega) k
    have h2 := div_pow_succ x.1 k
    by_cases hlt : (k : Int) < d % 7
    · have e : (x.1 / 2 ^ k).tdiv 2 = x.1 / 2 ^ (k + 1) := by rw [h2, Int.tdiv_eq_ediv_of_nonneg h1.1]
      go_wp2
      go_roundw
      case rel => exact ⟨k + 1, by omega, by go_num, by simp [h2], hbr⟩
      case measure => simp [RowKit.intOf]; omega
    · have hk7 : k = (d % 7).toNat := by omega
      have e : (x.1 / 2 ^ k) % 2 = (x.1 / 2 ^ k).tmod 2 := by rw [Int.tmod_eq_emod_of_nonneg h1.1]
      have R := Lib.hid (show onD x.1 d = decide (x.1 / 2 ^ k % 2 = 1) by rw [hk7]; rfl)
      clear h2 hk7
      go_wp2
      go_ret
      rw [R.out]
      exact ⟨ret_bool (by rw [← e, Bool.eq_iff_iff]; simp), hbr⟩
end Go.Proofs.YtcpfiiapfggmpaaGreat
/- The reference's IsName. -/
namespace Go.Proofs.YtcpfiiapfggmpaaGreat
open Go.RowKit Go.Lib

set_option maxHeartbeats 1000000 in
theorem rIsName_any (s : ByteArray) (w : World) :
    Calls Tryz.prog 104 #[.string s] w fun e w' => e = .returned (.bool (nameB s)) ∧ w' = w := by
  generalize hr : nameB s = r
  by_cases h0 : s.size < 1
  · have R := Lib.hid (show r = false by rw [← hr, nameB, show decide (1 ≤ s.size) = false from decide_eq_false (by omega)]; rfl)
    clear hr
    go_enter Tryz.func104, Tryz.ntmps104
    go_wp2
    all_goals (go_ret; rw [R.out]; exact ⟨rfl, rfl⟩)
  · by_cases h12 : 12 < s.size
    · have R := Lib.hid (show r = false by rw [← hr, nameB, show decide (s.size ≤ 12) = false from decide_eq_false (by omega)]; simp)
      clear hr
      go_enter Tryz.func104, Tryz.ntmps104
      go_wp2
      all_goals (go_ret; rw [R.out]; exact ⟨rfl, rfl⟩)
    · have hp0 : 0 < s.size := by omega
      obtain ⟨c0, hc0⟩ : ∃ c0 : Nat, (s[0]'hp0).toNat = c0 := ⟨_, rfl⟩
      cases ho0 : okByte 0 c0
      · have R := Lib.hid (show r = false by rw [← hr]; exact nameB_no hp0 (by rw [hc0]; exact ho0))
        have hz : (c0 : Int) < 97 ∨ (97 ≤ (c0 : Int) ∧ 122 < (c0 : Int)) := by
          unfold okByte at ho0
          simp at ho0
          omega
        clear hr ho0
        go_enter Tryz.func104, Tryz.ntmps104
        rcases hz with h1 | ⟨h1, h2⟩
        all_goals (go_wp2; all_goals (go_ret; rw [R.out]; exact ⟨rfl, rfl⟩))
      · have hz : 97 ≤ (c0 : Int) ∧ (c0 : Int) ≤ 122 := by
          unfold okByte at ho0
          simp at ho0
          omega
        obtain ⟨h1, h2⟩ := hz
        have HO := Lib.hid (show okByte 0 (s[0]'hp0).toNat = true by rw [hc0]; exact ho0)
        have HR := Lib.hid hr
        clear hr
        go_enter Tryz.func104, Tryz.ntmps104
        go_wp2
        go_loopw [3] (fun i wr => ∃ k : Nat, k ≤ s.size ∧ i = .int .i64 k ∧ wr = w ∧ Hid (nameTo s k)) (fun i _ => s.size - (RowKit.intOf i).toNat)
        case atStart => exact ⟨0, Nat.zero_le _, rfl, rfl, fun i _ h => absurd h (Nat.not_lt_zero _)⟩
        case round =>
          obtain ⟨k, hkl, rfl, rfl, HN⟩ := hrel
          clear h1 h2 hc0
          by_cases hk : k < s.size
          · obtain ⟨c, hc⟩ : ∃ c : Nat, (s[k]'hk).toNat = c := ⟨_, rfl⟩
            cases ho : okByte k c
            · have hk0 : k ≠ 0 := by
                rintro rfl
                rw [← hc, HO.out] at ho
                cases ho
              have R := Lib.hid (show r = false by rw [← HR.out, nameB_no hk (by rw [hc]; exact ho)])
              have hno := okByte_no' ho hk0
              clear ho
              rcases hno with ⟨h1, h2⟩ | ⟨h1, h2⟩ | h1
              all_goals (go_wp2; all_goals first | (go_ret; rw [R.out]; exact ⟨rfl, rfl⟩) | (exfalso; rename_i hx; simp at hx; omega) | skip)
            · have R := Lib.hid (nameTo_succ HN.out hk (by rw [hc]; exact ho))
              have hyes := okByte_yes' ho
              clear ho
              rcases hyes with ⟨h1, h2⟩ | ⟨h1, h2, h3⟩ | ⟨h1, h2⟩
              all_goals
                go_wp2
                go_roundw
                case rel => exact ⟨k + 1, by omega, by go_num, by first | rfl | trivial, R⟩
                case measure => simp [RowKit.intOf]; omega
          · obtain rfl : k = s.size := by omega
            have R := Lib.hid (show r = true by rw [← HR.out]; exact (nameB_iff s).2 ⟨by omega, by omega, HN.out⟩)
            go_wp2
            go_ret
            rw [R.out]
            exact ⟨rfl, rfl⟩
end Go.Proofs.YtcpfiiapfggmpaaGreat
/- How windows, steps and zones lie; the error of steps and of a zone, in plain words. -/
namespace Go.Proofs.YtcpfiiapfggmpaaGreat
open Go.RowKit Go.Lib

def encW (x : Wn) : List Value := [.int .i64 x.1, .int .i64 x.2.1, .int .i64 x.2.2]
theorem encW_ok : Enc encW 3 := ⟨fun _ => rfl, fun x u hu => by simp [encW] at hu; rcases hu with rfl | rfl | rfl <;> rfl⟩
theorem tyW : TyS Tryz.prog 73 91 3 24 := TyS.mk' (z := .agg #[.int .i64 0, .int .i64 0, .int .i64 0]) Tryz.underlying73 (by kernel_rfl) rfl (by omega)
theorem tyP : TyS Tryz.prog 74 228 3 24 := TyS.mk' (z := .agg #[.int .i64 0, .int .i64 0, .int .i64 0]) Tryz.underlying74 (by kernel_rfl) rfl (by omega)
/-- three integers in a row -/
theorem Rd.w3 {w : World} {B : Nat} {A : Option Addr} {l : List Wn} (h : Rd encW 3 w B A l) {i : Nat} (hi : i < l.length) :
    ∃ b off x y z, A = some ⟨b, off, none⟩ ∧ b < B ∧ l[i]? = some (x, y, z) ∧ w.cell? ⟨b, off + i * 3, none⟩ = some (.int .i64 x) ∧ w.cell? ⟨b, off + i * 3 + 1, none⟩ = some (.int .i64 y) ∧ w.cell? ⟨b, off + i * 3 + 2, none⟩ = some (.int .i64 z) := by
  obtain ⟨b, off, ⟨x, y, z⟩, hA, hb, hx, hc⟩ := h.at_ hi
  exact ⟨b, off, x, y, z, hA, hb, hx, hc 0 _ rfl, hc 1 _ rfl, hc 2 _ rfl⟩

structure Zn where
  name : ByteArray
  hA : Option Addr
  hc : Nat
  hs : List Wn
  sA : Option Addr
  sc : Nat
  ss : List Wn
  grace : Int
  free : Int
  dayMax : Int
  maxStay : Int
def encZ (z : Zn) : List Value := [.string z.name, .slice z.hA z.hs.length z.hc, .slice z.sA z.ss.length z.sc, .int .i64 z.grace, .int .i64 z.free, .int .i64 z.dayMax, .int .i64 z.maxStay]
theorem encZ_ok : Enc encZ 7 := ⟨fun _ => rfl, fun x u hu => by simp [encZ] at hu; rcases hu with rfl | rfl | rfl | rfl | rfl | rfl | rfl <;> rfl⟩
/-- what a zone's slices read as -/
def ZOk (w : World) (z : Zn) : Prop := Rd encW 3 w w.heap.size z.hA z.hs ∧ Rd encW 3 w w.heap.size z.sA z.ss
theorem ZOk.st {w w' : World} {z : Zn} (h : ZOk w z) (hb : Below w.heap.size w w') : ZOk w' z := ⟨h.1.st hb, h.2.st hb⟩

/-! ### the errors -/
def prevU (ss : List Wn) (i : Nat) : Int := ((ss[i - 1]?).map fun x => x.1).getD 0
def stepX (n i : Nat) (pu : Int) (x : Wn) : Int :=
  if x.2.1 < 1 ∨ 68719476736 < x.2.1 ∨ x.2.2 < 0 ∨ 2147483648 < x.2.2 then 1
  else if i + 1 = n then (if x.1 = 0 then 0 else 12)
  else if x.1 < 1 ∨ 68719476736 < x.1 then 12
  else if 0 < i ∧ x.1 ≤ pu then 15 else 0
def stepE (ss : List Wn) (i : Nat) : Int := ((ss[i]?).map fun x => stepX ss.length i (prevU ss i) x).getD 0
def stepsE (ss : List Wn) : Int := if 16 < ss.length then 3 else if ss.length = 0 then 1 else firstE (stepE ss) ss.length
def rangeZ (n m : Int) : Prop := 0 ≤ n ∧ n ≤ m
instance (n m : Int) : Decidable (rangeZ n m) := by unfold rangeZ; infer_instance
def tailE (z : Zn) : Int :=
  if ¬ rangeZ z.grace 68719476736 ∨ ¬ rangeZ z.free 68719476736 ∨ ¬ rangeZ z.maxStay 68719476736 then 12
  else if ¬ rangeZ z.dayMax 1125899906842624 then 13 else 0
def checkE (z : Zn) : Int :=
  if nameB z.name = false then 6 else if 32 < z.hs.length then 3 else if z.hs.all vw = false then 12
  else if stepsE z.ss ≠ 0 then stepsE z.ss else tailE z
end Go.Proofs.YtcpfiiapfggmpaaGreat
/- Words for zones: the value, the box, the errors case by case. -/
namespace Go.Proofs.YtcpfiiapfggmpaaGreat
open Go.RowKit Go.Lib

/-- the value that a zone is handed over as -/
abbrev ZV (z : Zn) : Value := .agg #[.string z.name, .slice z.hA z.hs.length z.hc, .slice z.sA z.ss.length z.sc, .int .i64 z.grace, .int .i64 z.free, .int .i64 z.dayMax, .int .i64 z.maxStay]
/-- what a zone says, wherever its slices lie -/
def zc (z : Zn) : ByteArray × List Wn × List Wn × Int × Int × Int × Int := (z.name, z.hs, z.ss, z.grace, z.free, z.dayMax, z.maxStay)
def small (z : Zn) : Prop := z.hs.length ≤ 60 ∧ z.ss.length ≤ 40

theorem checkE_name {z : Zn} (h : nameB z.name = false) : checkE z = 6 := by unfold checkE; rw [if_pos h]
theorem checkE_hours {z : Zn} (h : nameB z.name = true) (h2 : 32 < z.hs.length) : checkE z = 3 := by
  unfold checkE; rw [if_neg (by rw [h]; simp), if_pos h2]
theorem checkE_win {z : Zn} (h : nameB z.name = true) (h2 : ¬ 32 < z.hs.length) (h3 : z.hs.all vw = false) : checkE z = 12 := by
  unfold checkE; rw [if_neg (by rw [h]; simp), if_neg h2, if_pos h3]
theorem checkE_step {z : Zn} (h : nameB z.name = true) (h2 : ¬ 32 < z.hs.length) (h3 : z.hs.all vw = true) (h4 : stepsE z.ss ≠ 0) : checkE z = stepsE z.ss := by
  unfold checkE; rw [if_neg (by rw [h]; simp), if_neg h2, if_neg (by rw [h3]; simp), if_pos h4]
theorem checkE_tail {z : Zn} (h : nameB z.name = true) (h2 : ¬ 32 < z.hs.length) (h3 : z.hs.all vw = true) (h4 : stepsE z.ss = 0) : checkE z = tailE z := by
  unfold checkE; rw [if_neg (by rw [h]; simp), if_neg h2, if_neg (by rw [h3]; simp), if_neg (by rw [h4]; simp)]
def okT (gr fr ms : Int) : Prop := (0 ≤ gr ∧ gr ≤ 68719476736) ∧ (0 ≤ fr ∧ fr ≤ 68719476736) ∧ (0 ≤ ms ∧ ms ≤ 68719476736)
theorem tailE_12 {z : Zn} (h : ¬ ((0 ≤ z.grace ∧ z.grace ≤ 68719476736) ∧ (0 ≤ z.free ∧ z.free ≤ 68719476736) ∧ (0 ≤ z.maxStay ∧ z.maxStay ≤ 68719476736))) : tailE z = 12 := by
  unfold tailE rangeZ; rw [if_pos (by omega)]
theorem tailE_13 {z : Zn} (h : (0 ≤ z.grace ∧ z.grace ≤ 68719476736) ∧ (0 ≤ z.free ∧ z.free ≤ 68719476736) ∧ (0 ≤ z.maxStay ∧ z.maxStay ≤ 68719476736)) (h2 : ¬ (0 ≤ z.dayMax ∧ z.dayMax ≤ 1125899906842624)) : tailE z = 13 := by
  unfold tailE rangeZ; rw [if_neg (by omega), if_pos (by omega)]
theorem tailE_0 {z : Zn} (h : (0 ≤ z.grace ∧ z.grace ≤ 68719476736) ∧ (0 ≤ z.free ∧ z.free ≤ 68719476736) ∧ (0 ≤ z.maxStay ∧ z.maxStay ≤ 68719476736)) (h2 : 0 ≤ z.dayMax ∧ z.dayMax ≤ 1125899906842624) : tailE z = 0 := by
  unfold tailE rangeZ; rw [if_neg (by omega), if_neg (by omega)]
/-- the cells of a box, in a later world -/
theorem box_cell {w w' : World} {cs : Array Value} {t : Nat} {B : Nat} (h : Below B (w.alloc (.cells cs t)) w') (hB : w.heap.size < B) (j : Nat) (v : Value) (hv : cs[j]? = some v) : w'.cell? ⟨w.heap.size, j, none⟩ = some v := by
  refine (h.cell (p := ⟨w.heap.size, j, none⟩) hB).trans ?_
  rw [cell_of_row _ _ _ cs t (0, 0) (heap_alloc_new w _)]
  exact hv
end Go.Proofs.YtcpfiiapfggmpaaGreat
