/- The reference's cut, walked. -/
import Derived.Test.YtfilfdkbchkpmaaParkMath
import Derived.Test.YtfilfdkbchkpmaaIv
import Derived.Test.YtfilfdkbchkpmaaMore
import Derived.Deep.RegionHeld3
namespace Go.Proofs.Ytfilfdkbchkpmaa
open Go.RowKit Go.Lib

def cutX (t : Int) (x : Iv) : Iv := (x.1, min x.2 t)

set_option maxHeartbeats 4000000 in
theorem cut_any {A : Option Addr} (c : Nat) {l : List Iv} (t : Int) {w : World} (h : Rd encIv 2 w w.heap.size A l) (hn : NF l) :
    Calls Try.prog 40 #[.slice A l.length c, .int .i64 t] w fun e w' => ∃ A' c', e = .returned (.slice A' (cutL l t).length c') ∧ Own 35 encIv 2 w' w.heap.size A' c' (cutL l t) ∧ Below w.heap.size w w' := by
  have H := Lib.hid h
  have hll := hn.length_max
  have CT := Lib.hid (fun k h1 h2 => cut_take (l := l) hn (t := t) k h1 h2)
  clear h hn
  go_enter Try.func40, Try.ntmps40
  go_wp2_with fail
  go_loopw [5, 6] (fun v i wr => ∃ (k : Nat) (A' : Option Addr) (c' : Nat) (o : List Iv), k ≤ l.length ∧ i = .int .i64 k ∧ Hid ((l.take k).map (cutX t) = o) ∧ Hid (o.length = k) ∧ Hid (∀ j x, j < k → l[j]? = some x → x.1 < t) ∧ v = .slice A' o.length c' ∧ Own 35 encIv 2 wr w.heap.size A' c' o ∧ Below w.heap.size w wr) (fun _ i _ => l.length - (intOf i).toNat)
  case atStart => exact ⟨0, none, 0, [], Nat.zero_le _, rfl, rfl, rfl, (fun j x hj _ => by omega), rfl, Own.nil _ _, Below.refl _ _⟩
  case round =>
    obtain ⟨k, A', c', o, hk, rfl, HO, HOL, HA, rfl, hown, hbr⟩ := hrel
    have hol : o.length ≤ 68719476736 := by have := HOL.out; omega
    by_cases hlt : k < l.length
    · obtain ⟨b, off, f, u, rfl, hg, hx, hc0, hc1⟩ := (H.out.keep hbr).iv hlt
      have hk0 : (0 : Int) ≤ (k : Int) := by omega
      have hlt' : (k : Int) < (l.length : Int) := by omega
      by_cases hft : f < t
      · have R := Lib.hid (show (l.take (k + 1)).map (cutX t) = o ++ [(f, if t < u then t else u)] by rw [take_snoc hx, List.map_append, HO.out]; unfold cutX; simp only [List.map_cons, List.map_nil]; rw [show min u t = if t < u then t else u by split <;> omega])
        have RA : Hid (∀ j x, j < k + 1 → l[j]? = some x → x.1 < t) := by
          intro j x hj hjx
          rcases (by omega : j < k ∨ j = k) with e | rfl
          · exact HA.out j x e hjx
          · rw [hx] at hjx
            obtain rfl := Option.some.inj hjx
            exact hft
        have HLT := Lib.hid hlt
        clear hx HO HA CT H
        have hb16 : (o.length + 1) * 16 ≤ 140737488355328 := by omega
        have hb8 : o.length ≤ 8000000000000000000 := by omega
        have hbs : w.heap.size ≤ wr.heap.size := hbr.size
        have hgw : b < wr.heap.size := Nat.lt_of_lt_of_le hg hbr.size
        go_wp2_with fail
        go_region_held3 (fun w' => w'.cell? ⟨b, off + k * 2, none⟩ = some (.int .i64 f) ∧ w'.cell? ⟨b, off + k * 2 + 1, none⟩ = some (.int .i64 u)) (go_keep) ((refine step_app1 (l := o) rfl (.tmp 22) (.tmp 36) tyIv encIv_ok (by rfl) ((f, if t < u then t else u) : Iv) (by rfl) w.heap.size (by rfl) (by first | rfl | simp) (by exact (hown.alloc _)) (by rfl) (by first | exact heap_alloc_new _ _ | exact heap_alloc_new' _ _ _ (by simp)) (by first | omega | (simp; done) | (simp; omega)) (by first | omega | (simp; done) | (simp; omega)) (by have := hbr.size; simp; omega) ?_; intro A9 c9 w9 hown9 hb9 hs9 hf9; have hbel9 := (hbr.alloc hbr.size _).drew.trans hb9; have q0 := (hb9.cell (p := ⟨b, off + k * 2, none⟩) hg).trans ((World.cell?_alloc_lt wr.drew _ ⟨b, off + k * 2, none⟩ hgw).trans hc0); have q1 := (hb9.cell (p := ⟨b, off + k * 2 + 1, none⟩) hg).trans ((World.cell?_alloc_lt wr.drew _ ⟨b, off + k * 2 + 1, none⟩ hgw).trans hc1)))
        all_goals
          go_wp2
          go_roundw
          case rel => exact ⟨k + 1, A9, c9, _, HLT.out, by go_num, R, (by have := HOL.out; unfold Hid; simp; omega), RA, by simp, hown9, hbel9⟩
          case measure => have := HLT.out; simp [intOf]; omega
      · have RT : Hid (o = cutL l t) := by
          have := CT.out k HA.out (fun x hx' => by rw [hx] at hx'; obtain rfl := Option.some.inj hx'; show t ≤ f; omega)
          rw [← HO.out, ← this]
          rfl
        clear hx HO HA CT
        go_wp2
        all_goals (go_ret; rw [← RT.out]; exact ⟨A', c', rfl, hown, hbr⟩)
    · obtain rfl : k = l.length := by omega
      have RT : Hid (o = cutL l t) := by
        have := CT.out l.length HA.out (fun x hx' => by rw [List.getElem?_eq_none (Nat.le_refl _)] at hx'; cases hx')
        rw [← HO.out, ← this]
        rfl
      clear HO HA CT
      go_wp2
      all_goals (go_ret; rw [← RT.out]; exact ⟨A', c', rfl, hown, hbr⟩)
end Go.Proofs.Ytfilfdkbchkpmaa
