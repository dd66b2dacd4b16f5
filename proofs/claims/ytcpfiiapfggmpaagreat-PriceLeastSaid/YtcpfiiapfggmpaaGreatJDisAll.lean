/- Joined texts: DisAll, ZoneRefName, ZoneEnc, ZoneWords. -/
import Derived.Test.YtcpfiiapfggmpaaGreatJZoneLeaf
import Derived.Test.YtcpfiiapfggmpaaGreatJName
import Derived.Test.YtcpfiiapfggmpaaGreatJSpanMath
/- Lists of discounts that are valid: the reference's CheckAll tells it; walked. -/
set_option linter.unusedSimpArgs false
namespace Go.Proofs.YtcpfiiapfggmpaaGreat
open Go.RowKit Go.Lib

structure LOkTo (l : List Dc) (k : Nat) : Prop where
  ok : ∀ (i : Nat) (x : Dc), i < k → l[i]? = some x → DcOk x
  nd : ∀ (i j : Nat) (x y : Dc), j < i → i < k → l[i]? = some x → l[j]? = some y → eqS y.nm x.nm = false
structure LOk (l : List Dc) : Prop where
  few : l.length ≤ 12
  all : LOkTo l l.length
theorem LOkTo.zero (l : List Dc) : LOkTo l 0 := ⟨fun _ _ h => absurd h (Nat.not_lt_zero _), fun _ _ _ _ _ h => absurd h (Nat.not_lt_zero _)⟩
theorem LOkTo.next {l : List Dc} {k : Nat} {x : Dc} (h : LOkTo l k) (hx : l[k]? = some x) (h1 : DcOk x) (h2 : ∀ (j : Nat) (y : Dc), j < k → l[j]? = some y → eqS y.nm x.nm = false) : LOkTo l (k + 1) := by
  constructor
  · intro i y hi hy
    by_cases e : i = k
    · subst e; rw [hx] at hy; cases hy; exact h1
    · exact h.ok i y (by omega) hy
  · intro i j y z hj hi hy hz
    by_cases e : i = k
    · subst e; rw [hx] at hy; cases hy; exact h2 j z hj hz
    · exact h.nd i j y z hj (by omega) hy hz
theorem LOk.mem {l : List Dc} (h : LOk l) {x : Dc} (hx : x ∈ l) : DcOk x := by
  obtain ⟨i, hi, rfl⟩ := List.mem_iff_getElem.1 hx
  exact h.all.ok i _ hi (List.getElem?_eq_getElem hi)
def ndR (a b : Dc) : Prop := eqS a.nm b.nm = false
theorem LOk.pw {l : List Dc} (h : LOk l) : l.Pairwise ndR := by
  rw [List.pairwise_iff_getElem]
  intro i j hi hj hij
  exact h.all.nd j i _ _ hij hj (List.getElem?_eq_getElem hj) (List.getElem?_eq_getElem hi)
theorem lok_of {l : List Dc} (h0 : l.length ≤ 12) (h1 : ∀ x ∈ l, DcOk x) (h2 : l.Pairwise ndR) : LOk l := by
  refine ⟨h0, ⟨fun i _ _ hx => h1 _ (List.mem_of_getElem? hx), fun i j x y hj hi hx hy => ?_⟩⟩
  obtain ⟨hi1, rfl⟩ := List.getElem?_eq_some_iff.1 hx
  obtain ⟨hj1, rfl⟩ := List.getElem?_eq_some_iff.1 hy
  exact List.pairwise_iff_getElem.1 h2 j i hj1 hi1 hj
/-- a part of a valid list is valid -/
theorem LOk.sub {l s : List Dc} (h : LOk l) (hs : List.Sublist s l) : LOk s :=
  lok_of (Nat.le_trans hs.length_le h.few) (fun x hx => h.mem (hs.subset hx)) (h.pw.sublist hs)

set_option maxRecDepth 100000 in
set_option maxHeartbeats 16000000 in
theorem dall2_any {A : Option Addr} (c : Nat) {l : List Dc} {w : World} (hr : Rd encDc 10 w w.heap.size A l) :
    Calls Tryz.prog 29 #[.slice A l.length c] w fun e w' => ZR (LOk l) e ∧ Below w.heap.size w w' := by
  have HR := Lib.hid hr
  clear hr
  by_cases q1 : 12 < l.length
  · have q2 : (12 : Int) < (l.length : Int) := by omega
    have HQ := Lib.hid q1
    clear q1
    go_enter Tryz.func29, Tryz.ntmps29
    go_wp2_with fail
    go_ret
    exact ⟨ZR.no (by simp) (fun h => by have := h.few; have := HQ.out; omega), Below.refl _ _⟩
  have q2 : ¬ (12 : Int) < (l.length : Int) := by omega
  go_enter Tryz.func29, Tryz.ntmps29
  go_wp2_with fail
  go_loopw [3] (fun j wr => ∃ k : Nat, k ≤ l.length ∧ j = .int .i64 k ∧ Below w.heap.size w wr ∧ LOkTo l k) (fun j _ => l.length - (RowKit.intOf j).toNat)
  case atStart => exact ⟨0, Nat.zero_le _, rfl, Below.refl _ _, LOkTo.zero l⟩
  case round =>
    obtain ⟨k, hk, rfl, bW, hL⟩ := hrel
    have HL := Lib.hid hL
    clear hL
    have k1 : (0 : Int) ≤ (k : Int) := by omega
    by_cases hi : k < l.length
    · have k2 : (k : Int) < (l.length : Int) := by omega
      obtain ⟨b, off, x, rfl, hb, hx, hc⟩ := (HR.out.st bW).at_ hi
      have HX := Lib.hid hx
      have d0 := hc 0 _ rfl
      have d1 := hc 1 _ rfl
      have d2 := hc 2 _ rfl
      have d3 := hc 3 _ rfl
      have d4 := hc 4 _ rfl
      have d5 := hc 5 _ rfl
      have d6 := hc 6 _ rfl
      have d7 := hc 7 _ rfl
      have d8 := hc 8 _ rfl
      have d9 := hc 9 _ rfl
      simp only [Nat.add_zero] at d0
      have CX := Lib.hid (fun (X : World) => dcheck2_any x X)
      have HI := Lib.hid hi
      have HB := Lib.hid hb
      have HD0 := Lib.hid d0
      clear hx hi hc hb
      go_wp2_with fail
      refine (CX.out _).mono ?_
      rintro e W3 ⟨⟨n, rfl, hn⟩, hbn⟩
      have HZ := Lib.hid hn
      clear hn
      have bW3 := bW.st hbn
      have e0 : W3.cell? ⟨b, off + k * 10, none⟩ = some (.string x.nm) := (World.cell?_of_block (hbn.block b HB.out)).trans HD0.out
      clear hbn d0 d1 d2 d3 d4 d5 d6 d7 d8 d9
      by_cases hn : n = 0
      case' neg =>
        have hn2 : (n != 0) = true := by simp [hn]
        have HN := Lib.hid hn
        clear hn
        go_wp2_with fail
        go_ret
        exact ⟨ZR.no HN.out (fun h => HN.out (HZ.out.2 (h.all.ok k x HI.out HX.out))), bW3⟩
      subst hn
      have HK := Lib.hid (HZ.out.1 rfl)
      clear HZ
      go_wp2_with fail
      go_loopw [5] (fun j wr => ∃ m : Nat, m ≤ k ∧ j = .int .i64 m ∧ (∃ n, wr = W3.drewN n) ∧ ∀ (j : Nat) (y : Dc), j < m → l[j]? = some y → eqS y.nm x.nm = false) (fun j _ => k - (RowKit.intOf j).toNat)
      case atStart => exact ⟨0, Nat.zero_le _, rfl, ⟨0, rfl⟩, fun _ _ h => absurd h (Nat.not_lt_zero _)⟩
      case round =>
        obtain ⟨m, hm, rfl, ⟨n, rfl⟩, hD⟩ := hrel
        have HD := Lib.hid hD
        clear hD
        have m1 : (0 : Int) ≤ (m : Int) := by omega
        by_cases hmk : m < k
        · have m2 : (m : Int) < (k : Int) := by omega
          have m3 : (m : Int) < (l.length : Int) := by have := HI.out; omega
          obtain ⟨b', off', y, hA, hb', hy, hc'⟩ := (HR.out.st bW3).at_ (i := m) (by have := HI.out; omega)
          have HY := Lib.hid hy
          have f0 := hc' 0 _ rfl
          simp only [Nat.add_zero] at f0
          injection hA with hA
          injection hA with u1 u2
          subst u1 u2
          have HM := Lib.hid hmk
          clear hb' hy hmk hc'
          have t0 : (y.nm.toList == x.nm.toList) = eqS y.nm x.nm := rfl
          cases u0 : eqS y.nm x.nm
          · have HU := Lib.hid u0
            rw [u0] at t0
            clear u0
            go_wp2_with fail
            go_quiet (fail)
            go_wp2_with fail
            go_roundw
            case rel => exact ⟨m + 1, HM.out, by go_num, ⟨_, rfl⟩, fun j z hj hz => by by_cases e : j = m; (subst e; have h := HY.out; rw [hz] at h; cases h; exact HU.out); (exact HD.out j z (by omega) hz)⟩
            case measure => have := HM.out; simp [RowKit.intOf]; omega
          · have HU := Lib.hid u0
            rw [u0] at t0
            clear u0
            go_wp2_with fail
            go_quiet (fail)
            go_wp2_with fail
            go_ret
            exact ⟨ZR.no (by simp) (fun h => by have h1 := h.all.nd k m x y HM.out HI.out HX.out HY.out; rw [HU.out] at h1; cases h1), below_drewN (below_drewN bW3 _) _⟩
        · obtain rfl : m = k := by omega
          have bYn := below_drewN bW3 n
          go_wp2_with fail
          go_roundw
          case rel => exact ⟨m + 1, HI.out, by go_num, bYn, HL.out.next HX.out HK.out HD.out⟩
          case measure => have := HI.out; simp [RowKit.intOf]; omega
    · obtain rfl : k = l.length := by omega
      have HQ : Hid (¬ 12 < l.length) := Lib.hid q1
      clear q1
      go_wp2_with fail
      go_ret
      exact ⟨ZR.yes ⟨by have := HQ.out; omega, HL.out⟩, bW⟩
end Go.Proofs.YtcpfiiapfggmpaaGreat
/- The reference's IsName. -/
namespace Go.Proofs.YtcpfiiapfggmpaaGreat
open Go.RowKit Go.Lib

set_option maxHeartbeats 1000000 in
theorem rIsName_any (s : ByteArray) (w : World) :
    Calls Tryz.prog 104 #[.string s] w fun e w' => e = .returned (.bool (nameB s)) ∧ w' = w := by
  generalize hr : nameB s = r
  by_cases h0 : s.size < 1
  · have R := Lib.hid (show r = false by rw [← hr, nameB, show decide (1 ≤ s.size) = false from decide_eq_false (by omega)]; rfl)
    clear hr
    go_enter Tryz.func104, Tryz.ntmps104
    go_wp2
    all_goals (go_ret; rw [R.out]; exact ⟨rfl, rfl⟩)
  · by_cases h12 : 12 < s.size
    · have R := Lib.hid (show r = false by rw [← hr, nameB, show decide (s.size ≤ 12) = false from decide_eq_false (by omega)]; simp)
      clear hr
      go_enter Tryz.func104, Tryz.ntmps104
      go_wp2
      all_goals (go_ret; rw [R.out]; exact ⟨rfl, rfl⟩)
    · have hp0 : 0 < s.size := by omega
      obtain ⟨c0, hc0⟩ : ∃ c0 : Nat, (s[0]'hp0).toNat = c0 := ⟨_, rfl⟩
      cases ho0 : okByte 0 c0
      · have R := Lib.hid (show r = false by rw [← hr]; exact nameB_no hp0 (by rw [hc0]; exact ho0))
        have hz : (c0 : Int) < 97 ∨ (97 ≤ (c0 : Int) ∧ 122 < (c0 : Int)) := by
          unfold okByte at ho0
          simp at ho0
          omega
        clear hr ho0
        go_enter Tryz.func104, Tryz.ntmps104
        rcases hz with h1 | ⟨h1, h2⟩
        all_goals (go_wp2; all_goals (go_ret; rw [R.out]; exact ⟨rfl, rfl⟩))
      · have hz : 97 ≤ (c0 : Int) ∧ (c0 : Int) ≤ 122 := by
          unfold okByte at ho0
          simp at ho0
          omega
        obtain ⟨h1, h2⟩ := hz
        have HO := Lib.hid (show okByte 0 (s[0]'hp0).toNat = true by rw [hc0]; exact ho0)
        have HR := Lib.hid hr
        clear hr
        go_enter Tryz.func104, Tryz.ntmps104
        go_wp2
        go_loopw [3] (fun i wr => ∃ k : Nat, k ≤ s.size ∧ i = .int .i64 k ∧ wr = w ∧ Hid (nameTo s k)) (fun i _ => s.size - (RowKit.intOf i).toNat)
        case atStart => exact ⟨0, Nat.zero_le _, rfl, rfl, fun i _ h => absurd h (Nat.not_lt_zero _)⟩
        case round =>
          obtain ⟨k, hkl, rfl, rfl, HN⟩ := hrel
          clear h1 h2 hc0
          by_cases hk : k < s.size
          · obtain ⟨c, hc⟩ : ∃ c : Nat, (s[k]'hk).toNat = c := ⟨_, rfl⟩
            cases ho : okByte k c
            · have hk0 : k ≠ 0 := by
                rintro rfl
                rw [← hc, HO.out] at ho
                cases ho
              have R := Lib.hid (show r = false by rw [← HR.out, nameB_no hk (by rw [hc]; exact ho)])
              have hno := okByte_no' ho hk0
              clear ho
              rcases hno with ⟨h1, h2⟩ | ⟨h1, h2⟩ | h1
              all_goals (go_wp2; all_goals first | (go_ret; rw [R.out]; exact ⟨rfl, rfl⟩) | (exfalso; rename_i hx; simp at hx; omega) | skip)
            · have R := Lib.hid (nameTo_succ HN.out hk (by rw [hc]; exact ho))
              have hyes := okByte_yes' ho
              clear ho
              rcases hyes with ⟨h1, h2⟩ | ⟨h1, h2, h3⟩ | ⟨h1, h2⟩
              all_goals
                go_wp2
                go_roundw
                case rel => exact ⟨k + 1, by omega, by go_num, by first | rfl | trivial, R⟩
                case measure => simp [RowKit.intOf]; omega
          · obtain rfl : k = s.size := by omega
            have R := Lib.hid (show r = true by rw [← HR.out]; exact (nameB_iff s).2 ⟨by omega, by omega, HN.out⟩)
            go_wp2
            go_ret
            rw [R.out]
            exact ⟨rfl, rfl⟩
end Go.Proofs.YtcpfiiapfggmpaaGreat
/- How windows, steps and zones lie; the error of steps and of a zone, in plain words. -/
namespace Go.Proofs.YtcpfiiapfggmpaaGreat
open Go.RowKit Go.Lib

def encW (x : Wn) : List Value := [.int .i64 x.1, .int .i64 x.2.1, .int .i64 x.2.2]
theorem encW_ok : Enc encW 3 := ⟨fun _ => rfl, fun x u hu => by simp [encW] at hu; rcases hu with rfl | rfl | rfl <;> rfl⟩
theorem tyW : TyS Tryz.prog 73 91 3 24 := TyS.mk' (z := .agg #[.int .i64 0, .int .i64 0, .int .i64 0]) Tryz.underlying73 (by kernel_rfl) rfl (by omega)
theorem tyP : TyS Tryz.prog 74 228 3 24 := TyS.mk' (z := .agg #[.int .i64 0, .int .i64 0, .int .i64 0]) Tryz.underlying74 (by kernel_rfl) rfl (by omega)
/-- three integers in a row -/
theorem Rd.w3 {w : World} {B : Nat} {A : Option Addr} {l : List Wn} (h : Rd encW 3 w B A l) {i : Nat} (hi : i < l.length) :
    ∃ b off x y z, A = some ⟨b, off, none⟩ ∧ b < B ∧ l[i]? = some (x, y, z) ∧ w.cell? ⟨b, off + i * 3, none⟩ = some (.int .i64 x) ∧ w.cell? ⟨b, off + i * 3 + 1, none⟩ = some (.int .i64 y) ∧ w.cell? ⟨b, off + i * 3 + 2, none⟩ = some (.int .i64 z) := by
  obtain ⟨b, off, ⟨x, y, z⟩, hA, hb, hx, hc⟩ := h.at_ hi
  exact ⟨b, off, x, y, z, hA, hb, hx, hc 0 _ rfl, hc 1 _ rfl, hc 2 _ rfl⟩

structure Zn where
  name : ByteArray
  hA : Option Addr
  hc : Nat
  hs : List Wn
  sA : Option Addr
  sc : Nat
  ss : List Wn
  grace : Int
  free : Int
  dayMax : Int
  maxStay : Int
def encZ (z : Zn) : List Value := [.string z.name, .slice z.hA z.hs.length z.hc, .slice z.sA z.ss.length z.sc, .int .i64 z.grace, .int .i64 z.free, .int .i64 z.dayMax, .int .i64 z.maxStay]
theorem encZ_ok : Enc encZ 7 := ⟨fun _ => rfl, fun x u hu => by simp [encZ] at hu; rcases hu with rfl | rfl | rfl | rfl | rfl | rfl | rfl <;> rfl⟩
/-- what a zone's slices read as -/
def ZOk (w : World) (z : Zn) : Prop := Rd encW 3 w w.heap.size z.hA z.hs ∧ Rd encW 3 w w.heap.size z.sA z.ss
theorem ZOk.st {w w' : World} {z : Zn} (h : ZOk w z) (hb : Below w.heap.size w w') : ZOk w' z := ⟨h.1.st hb, h.2.st hb⟩

/-! ### the errors -/
def prevU (ss : List Wn) (i : Nat) : Int := ((ss[i - 1]?).map fun x => x.1).getD 0
def stepX (n i : Nat) (pu : Int) (x : Wn) : Int :=
  if x.2.1 < 1 ∨ 68719476736 < x.2.1 ∨ x.2.2 < 0 ∨ 2147483648 < x.2.2 then 1
  else if i + 1 = n then (if x.1 = 0 then 0 else 12)
  else if x.1 < 1 ∨ 68719476736 < x.1 then 12
  else if 0 < i ∧ x.1 ≤ pu then 15 else 0
def stepE (ss : List Wn) (i : Nat) : Int := ((ss[i]?).map fun x => stepX ss.length i (prevU ss i) x).getD 0
def stepsE (ss : List Wn) : Int := if 16 < ss.length then 3 else if ss.length = 0 then 1 else firstE (stepE ss) ss.length
def rangeZ (n m : Int) : Prop := 0 ≤ n ∧ n ≤ m
instance (n m : Int) : Decidable (rangeZ n m) := by unfold rangeZ; infer_instance
def tailE (z : Zn) : Int :=
  if ¬ rangeZ z.grace 68719476736 ∨ ¬ rangeZ z.free 68719476736 ∨ ¬ rangeZ z.maxStay 68719476736 then 12
  else if ¬ rangeZ z.dayMax 1125899906842624 then 13 else 0
def checkE (z : Zn) : Int :=
  if nameB z.name = false then 6 else if 32 < z.hs.length then 3 else if z.hs.all vw = false then 12
  else if stepsE z.ss ≠ 0 then stepsE z.ss else tailE z
end Go.Proofs.YtcpfiiapfggmpaaGreat
/- Words for zones: the value, the box, the errors case by case. -/
namespace Go.Proofs.YtcpfiiapfggmpaaGreat
open Go.RowKit Go.Lib

/-- the value that a zone is handed over as -/
abbrev ZV (z : Zn) : Value := .agg #[.string z.name, .slice z.hA z.hs.length z.hc, .slice z.sA z.ss.length z.sc, .int .i64 z.grace, .int .i64 z.free, .int .i64 z.dayMax, .int .i64 z.maxStay]
/-- what a zone says, wherever its slices lie -/
def zc (z : Zn) : ByteArray × List Wn × List Wn × Int × Int × Int × Int := (z.name, z.hs, z.ss, z.grace, z.free, z.dayMax, z.maxStay)
def small (z : Zn) : Prop := z.hs.length ≤ 60 ∧ z.ss.length ≤ 40

theorem checkE_name {z : Zn} (h : nameB z.name = false) : checkE z = 6 := by unfold checkE; rw [if_pos h]
theorem checkE_hours {z : Zn} (h : nameB z.name = true) (h2 : 32 < z.hs.length) : checkE z = 3 := by
  unfold checkE; rw [if_neg (by rw [h]; simp), if_pos h2]
theorem checkE_win {z : Zn} (h : nameB z.name = true) (h2 : ¬ 32 < z.hs.length) (h3 : z.hs.all vw = false) : checkE z = 12 := by
  unfold checkE; rw [if_neg (by rw [h]; simp), if_neg h2, if_pos h3]
theorem checkE_step {z : Zn} (h : nameB z.name = true) (h2 : ¬ 32 < z.hs.length) (h3 : z.hs.all vw = true) (h4 : stepsE z.ss ≠ 0) : checkE z = stepsE z.ss := by
  unfold checkE; rw [if_neg (by rw [h]; simp), if_neg h2, if_neg (by rw [h3]; simp), if_pos h4]
theorem checkE_tail {z : Zn} (h : nameB z.name = true) (h2 : ¬ 32 < z.hs.length) (h3 : z.hs.all vw = true) (h4 : stepsE z.ss = 0) : checkE z = tailE z := by
  unfold checkE; rw [if_neg (by rw [h]; simp), if_neg h2, if_neg (by rw [h3]; simp), if_neg (by rw [h4]; simp)]
def okT (gr fr ms : Int) : Prop := (0 ≤ gr ∧ gr ≤ 68719476736) ∧ (0 ≤ fr ∧ fr ≤ 68719476736) ∧ (0 ≤ ms ∧ ms ≤ 68719476736)
theorem tailE_12 {z : Zn} (h : ¬ ((0 ≤ z.grace ∧ z.grace ≤ 68719476736) ∧ (0 ≤ z.free ∧ z.free ≤ 68719476736) ∧ (0 ≤ z.maxStay ∧ z.maxStay ≤ 68719476736))) : tailE z = 12 := by
  unfold tailE rangeZ; rw [if_pos (by omega)]
theorem tailE_13 {z : Zn} (h : (0 ≤ z.grace ∧ z.grace ≤ 68719476736) ∧ (0 ≤ z.free ∧ z.free ≤ 68719476736) ∧ (0 ≤ z.maxStay ∧ z.maxStay ≤ 68719476736)) (h2 : ¬ (0 ≤ z.dayMax ∧ z.dayMax ≤ 1125899906842624)) : tailE z = 13 := by
  unfold tailE rangeZ; rw [if_neg (by omega), if_pos (by omega)]
theorem tailE_0 {z : Zn} (h : (0 ≤ z.grace ∧ z.grace ≤ 68719476736) ∧ (0 ≤ z.free ∧ z.free ≤ 68719476736) ∧ (0 ≤ z.maxStay ∧ z.maxStay ≤ 68719476736)) (h2 : 0 ≤ z.dayMax ∧ z.dayMax ≤ 1125899906842624) : tailE z = 0 := by
  unfold tailE rangeZ; rw [if_neg (by omega), if_neg (by omega)]
/-- the cells of a box, in a later world -/
theorem box_cell {w w' : World} {cs : Array Value} {t : Nat} {B : Nat} (h : Below B (w.alloc (.cells cs t)) w') (hB : w.heap.size < B) (j : Nat) (v : Value) (hv : cs[j]? = some v) : w'.cell? ⟨w.heap.size, j, none⟩ = some v := by
  refine (h.cell (p := ⟨w.heap.size, j, none⟩) hB).trans ?_
  rw [cell_of_row _ _ _ cs t (0, 0) (heap_alloc_new w _)]
  exact hv
end Go.Proofs.YtcpfiiapfggmpaaGreat
