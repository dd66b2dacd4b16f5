/- Joined texts: DevClock, DetCorE. -/
import Derived.Test.YtgkppjkmakomnaaJDevEnc
import Derived.Test.YtgkppjkmakomnaaJValid
import Derived.Deep.RegionHeld3
import Derived.Test.YtgkppjkmakomnaaDetFits
import Derived.Test.YtgkppjkmakomnaaDevRFind
/- Clock and Works, the program's and the reference's, walked. -/
namespace Go.Proofs.Ytgkppjkmakomnaa
open Go.RowKit Go.Lib

set_option maxHeartbeats 4000000 in
theorem dclock_any (d : Dv) (raw : Int) {w : World} (h : DOk w d) (hl : d.os.length ≤ 100000000000) :
    Calls Try.prog 32 #[DV d, .int .i64 raw] w fun e w' => e = .returned (.tuple #[.int .i64 (clockN d raw), .bool (clockB d raw)]) ∧ Below w.heap.size w w' := by
  have h1 := Lib.hid h.1
  have F1 := Lib.hid (@clock_1 d raw)
  have F2 := Lib.hid (@clock_2 d raw)
  have F3 := Lib.hid (@clock_3 d raw)
  have F0 := Lib.hid (@clock_no d raw)
  have HD : Hid (∀ os, d.os = os → delta d.os raw = delta os raw) := fun os e => by rw [e]
  have CT := Lib.hid (fun w => time_any raw w)
  clear h
  generalize clockN d raw = cn at *
  generalize clockB d raw = cb at *
  obtain ⟨nm, pt, kd, ln, oA, oc, os, dA, dc, ds⟩ := d
  simp only [DV] at *
  clear HD
  cases ht : tB raw
  · have R1 := F1.out ht
    subst R1
    have R0 := F0.out rfl
    subst R0
    rw [ht] at CT
    clear F1 F2 F3 F0 ht
    obtain ⟨Y1, hY1⟩ : ∃ Y, w.alloc (.cells #[.string nm, .string pt, .int .i64 kd, .int .i64 ln, .slice oA os.length oc, .slice dA ds.length dc] 59) = Y := ⟨_, rfl⟩; have bW : Below w.heap.size w Y1 := (by rw [← hY1]; exact (Below.refl _ w).al _); have bZ : Blk Y1 w.heap.size #[.string nm, .string pt, .int .i64 kd, .int .i64 ln, .slice oA os.length oc, .slice dA ds.length dc] 59 := (by rw [← hY1]; exact Blk.new w _ _); have q0 : World.cell? Y1 ⟨w.heap.size, 0, none⟩ = some (.string nm) := bZ.cell 0 rfl; have q1 : World.cell? Y1 ⟨w.heap.size, 1, none⟩ = some (.string pt) := bZ.cell 1 rfl; have q2 : World.cell? Y1 ⟨w.heap.size, 2, none⟩ = some (.int .i64 kd) := bZ.cell 2 rfl; have q3 : World.cell? Y1 ⟨w.heap.size, 3, none⟩ = some (.int .i64 ln) := bZ.cell 3 rfl; have q4 : World.cell? Y1 ⟨w.heap.size, 4, none⟩ = some (.slice oA os.length oc) := bZ.cell 4 rfl; have q5 : World.cell? Y1 ⟨w.heap.size, 5, none⟩ = some (.slice dA ds.length dc) := bZ.cell 5 rfl
    go_enter Try.func32, Try.ntmps32
    go_wp2_with fail
    refine (CT.out _).mono ?_
    rintro e w' ⟨rfl, rfl⟩
    go_wp2
    all_goals (go_ret2; exact ⟨rfl, bW⟩)
  · rw [ht] at CT
    have F2 := Lib.hid (F2.out ht)
    have F3 := Lib.hid (F3.out ht)
    obtain ⟨ht1, ht2⟩ := tB_yes ht
    clear F1 ht
    obtain ⟨Y1, hY1⟩ : ∃ Y, w.alloc (.cells #[.string nm, .string pt, .int .i64 kd, .int .i64 ln, .slice oA os.length oc, .slice dA ds.length dc] 59) = Y := ⟨_, rfl⟩; have bW : Below w.heap.size w Y1 := (by rw [← hY1]; exact (Below.refl _ w).al _); have bZ : Blk Y1 w.heap.size #[.string nm, .string pt, .int .i64 kd, .int .i64 ln, .slice oA os.length oc, .slice dA ds.length dc] 59 := (by rw [← hY1]; exact Blk.new w _ _); have q0 : World.cell? Y1 ⟨w.heap.size, 0, none⟩ = some (.string nm) := bZ.cell 0 rfl; have q1 : World.cell? Y1 ⟨w.heap.size, 1, none⟩ = some (.string pt) := bZ.cell 1 rfl; have q2 : World.cell? Y1 ⟨w.heap.size, 2, none⟩ = some (.int .i64 kd) := bZ.cell 2 rfl; have q3 : World.cell? Y1 ⟨w.heap.size, 3, none⟩ = some (.int .i64 ln) := bZ.cell 3 rfl; have q4 : World.cell? Y1 ⟨w.heap.size, 4, none⟩ = some (.slice oA os.length oc) := bZ.cell 4 rfl; have q5 : World.cell? Y1 ⟨w.heap.size, 5, none⟩ = some (.slice dA ds.length dc) := bZ.cell 5 rfl
    go_enter Try.func32, Try.ntmps32
    go_wp2_with fail
    refine (CT.out _).mono ?_
    rintro e w' ⟨rfl, rfl⟩
    go_wp2_with fail
    obtain ⟨Y, hY⟩ : ∃ Y, Y = w' := ⟨_, rfl⟩
    have bW0 := bW
    rw [← hY] at bW bZ bW0 ⊢
    go_loopw [6, 15] (fun v i wr => ∃ (k : Nat) (q : Int), k ≤ os.length ∧ i = .int .i64 k ∧ v = .int .i64 q ∧ Hid (delta (os.take k) raw = q) ∧ Below w.heap.size w wr) (fun _ i _ => os.length - (intOf i).toNat)
    case atStart => exact ⟨0, 0, Nat.zero_le _, rfl, rfl, rfl, bW⟩
    case round =>
      obtain ⟨k, q, hk, rfl, rfl, HQ, hbr⟩ := hrel
      by_cases hlt : k < os.length
      · obtain ⟨b, off, f, u, rfl, hg, hx, hc0, hc1⟩ := (h1.out.st hbr).iv hlt
        have HS := Lib.hid (show delta (os.take (k + 1)) raw = if f ≤ raw then u else q by rw [take_snoc hx, delta_snoc, HQ.out])
        clear hx HQ
        by_cases hf : f ≤ raw
        · have HS2 := HS.out
          rw [if_pos hf] at HS2
          have HS3 := Lib.hid HS2
          clear HS2 HS
          go_wp2
          go_roundw
          case rel => exact ⟨k + 1, _, by omega, by go_num, rfl, HS3, hbr.al _⟩
          case measure => simp [intOf]; omega
        · have HS2 := HS.out
          rw [if_neg hf] at HS2
          have HS3 := Lib.hid HS2
          clear HS2 HS
          go_wp2
          go_roundw
          case rel => exact ⟨k + 1, _, by omega, by go_num, rfl, HS3, hbr.al _⟩
          case measure => simp [intOf]; omega
      · obtain rfl : k = os.length := by omega
        have HE := Lib.hid (show delta os raw = q by have := HQ.out; rwa [List.take_length] at this)
        clear HQ
        have G2 : Hid (q < -raw ∨ 68719476736 - raw ≤ q → cb = false) := fun z => F2.out (by have e := HE.out; omega)
        have G3 : Hid (¬ q < -raw → ¬ 68719476736 - raw ≤ q → cb = true ∧ cn = raw + q) := fun z1 z2 => by
          have := F3.out (by have e := HE.out; omega) (by have e := HE.out; omega)
          refine ⟨this.1, this.2.trans ?_⟩
          show raw + delta os raw = _
          rw [HE.out]
        clear F2 F3 HE
        by_cases z1 : q < -raw
        · have R1 := G2.out (.inl z1)
          subst R1
          have R0 := F0.out rfl
          subst R0
          clear G2 G3 F0
          go_wp2
          all_goals (go_ret2; exact ⟨rfl, hbr⟩)
        · by_cases z2 : 68719476736 - raw ≤ q
          · have R1 := G2.out (.inr z2)
            subst R1
            have R0 := F0.out rfl
            subst R0
            clear G2 G3 F0
            go_wp2
            all_goals (go_ret2; exact ⟨rfl, hbr⟩)
          · obtain ⟨rfl, rfl⟩ := G3.out z1 z2
            clear G2 G3 F0
            go_wp2
            all_goals (go_ret2; exact ⟨rfl, hbr⟩)

end Go.Proofs.Ytgkppjkmakomnaa
/- What Correct returns, in plain words. -/
namespace Go.Proofs.Ytgkppjkmakomnaa
open Go.RowKit Go.Lib

def zeroDt : Dt := ⟨⟨#[]⟩, 0, 0, ⟨#[]⟩, ⟨#[]⟩, 0, 0⟩
def zeroSn : Sn := ⟨zeroDt, 0, ⟨#[]⟩, 0, 0⟩
/-- the reason of a detection of a known device -/
def corOf (fnd : Bool) (x : Dv) (d : Dt) : Int :=
  if fnd = false then 1
  else if d.seq < 0 ∨ 2147483648 < d.seq ∨ d.sc < 0 ∨ 1000 < d.sc ∨ fitsB x.kind d = false then 3
  else if clockB x d.time = false then 2
  else if worksB x (clockN x d.time) = false then 5
  else 0
def corSn (x : Dv) (d : Dt) : Sn := ⟨d, clockN x d.time, x.pt, x.lane, x.kind⟩
def corX (l : List Dv) (d : Dt) : Dv := (findD l d.dev).getD zeroD
def corW (l : List Dv) (d : Dt) : Int := corOf (findD l d.dev).isSome (corX l d) d
def corS (l : List Dv) (d : Dt) : Sn := if corW l d = 0 then corSn (corX l d) d else zeroSn
theorem vD_parts {x y : Dv} (h : vD x = vD y) : x.name = y.name ∧ x.pt = y.pt ∧ x.kind = y.kind ∧ x.lane = y.lane ∧ x.os = y.os ∧ x.ds = y.ds := by
  simp only [vD, Prod.mk.injEq] at h; exact h
theorem corOf_vD {x y : Dv} (h : vD x = vD y) (f : Bool) (d : Dt) : corOf f x d = corOf f y d := by
  obtain ⟨_, _, h3, _, h5, h6⟩ := vD_parts h
  unfold corOf clockN clockB worksB
  rw [h3, h5, h6]
theorem corSn_vD {x y : Dv} (h : vD x = vD y) (d : Dt) : corSn x d = corSn y d := by
  obtain ⟨_, h2, h3, h4, h5, _⟩ := vD_parts h
  unfold corSn clockN clockB
  rw [h2, h3, h4, h5]
/-- the post of both Corrects -/
def CorR (l : List Dv) (d : Dt) (w : World) (e : Ending) (w' : World) : Prop := e = .returned (.tuple #[SnV (corS l d), .int .i64 (corW l d)]) ∧ Below w.heap.size w w'
section
variable {x : Dv} {d : Dt}
theorem cor1 (f : Bool) (h : f = false) : corOf f x d = 1 := by unfold corOf; rw [if_pos h]
theorem cor3 (h : d.seq < 0 ∨ 2147483648 < d.seq ∨ d.sc < 0 ∨ 1000 < d.sc ∨ fitsB x.kind d = false) : corOf true x d = 3 := by unfold corOf; rw [if_neg (by simp), if_pos h]
theorem cor2 (h : ¬ (d.seq < 0 ∨ 2147483648 < d.seq ∨ d.sc < 0 ∨ 1000 < d.sc ∨ fitsB x.kind d = false)) (h2 : clockB x d.time = false) : corOf true x d = 2 := by unfold corOf; rw [if_neg (by simp), if_neg h, if_pos h2]
theorem cor5 (h : ¬ (d.seq < 0 ∨ 2147483648 < d.seq ∨ d.sc < 0 ∨ 1000 < d.sc ∨ fitsB x.kind d = false)) (h2 : clockB x d.time = true) (h3 : worksB x (clockN x d.time) = false) : corOf true x d = 5 := by unfold corOf; rw [if_neg (by simp), if_neg h, if_neg (by rw [h2]; simp), if_pos h3]
theorem cor0 (h : ¬ (d.seq < 0 ∨ 2147483648 < d.seq ∨ d.sc < 0 ∨ 1000 < d.sc ∨ fitsB x.kind d = false)) (h2 : clockB x d.time = true) (h3 : worksB x (clockN x d.time) = true) : corOf true x d = 0 := by unfold corOf; rw [if_neg (by simp), if_neg h, if_neg (by rw [h2]; simp), if_neg (by rw [h3]; simp)]
end
/-- what the end of a way shows -/
theorem cor_end {l : List Dv} {d : Dt} {y : Dv} {k : Int} (hv : vD y = vD (corX l d)) {f : Bool} (hf : (findD l d.dev).isSome = f) (hk : corOf f y d = k) : corW l d = k ∧ (k ≠ 0 → corS l d = zeroSn) ∧ (k = 0 → corS l d = corSn y d) := by
  have e : corW l d = k := by unfold corW; rw [hf, ← corOf_vD hv]; exact hk
  refine ⟨e, fun h => ?_, fun h => ?_⟩
  · unfold corS; rw [if_neg (by rw [e]; exact h)]
  · unfold corS; rw [if_pos (by rw [e]; exact h), ← corSn_vD hv]
end Go.Proofs.Ytgkppjkmakomnaa
