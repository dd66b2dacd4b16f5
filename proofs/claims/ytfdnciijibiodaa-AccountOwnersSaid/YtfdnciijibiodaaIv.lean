/- Intervals as elements of slices. -/
import Derived.Test.YtfdnciijibiodaaProg
import Derived.Test.YtfdnciijibiodaaBase
import Derived.Test.YtfdnciijibiodaaSpanMath
import Derived.Test.YtfdnciijibiodaaFirst
import Derived.Outline
namespace Go.Proofs.Ytfdnciijibiodaa
open Go.RowKit Go.Lib

def encIv (x : Iv) : List Value := [.int .i64 x.1, .int .i64 x.2]
theorem encIv_ok : Enc encIv 2 := ⟨fun _ => rfl, fun x u hu => by simp [encIv] at hu; rcases hu with rfl | rfl <;> rfl⟩
theorem tyIv : TyS Try.prog 63 41 2 16 := TyS.mk' (z := .agg #[.int .i64 0, .int .i64 0]) Try.underlying63 (by kernel_rfl) rfl (by omega)
theorem Rd.iv {w : World} {B : Nat} {A : Option Addr} {l : List Iv} (h : Rd encIv 2 w B A l) {i : Nat} (hi : i < l.length) :
    ∃ b off f t, A = some ⟨b, off, none⟩ ∧ b < B ∧ l[i]? = some (f, t) ∧ w.cell? ⟨b, off + i * 2, none⟩ = some (.int .i64 f) ∧ w.cell? ⟨b, off + i * 2 + 1, none⟩ = some (.int .i64 t) := by
  obtain ⟨b, off, ⟨f, t⟩, hA, hb, hx, hc⟩ := h.at_ hi
  exact ⟨b, off, f, t, hA, hb, hx, hc 0 _ rfl, hc 1 _ rfl⟩
end Go.Proofs.Ytfdnciijibiodaa
