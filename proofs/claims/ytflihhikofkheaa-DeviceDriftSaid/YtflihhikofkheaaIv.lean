/- Intervals as elements of slices. -/
import Derived.Test.YtflihhikofkheaaProg
import Derived.Test.YtflihhikofkheaaBase
import Derived.Test.YtflihhikofkheaaSpanMath
import Derived.Test.YtflihhikofkheaaFirst
import Derived.Outline
namespace Go.Proofs.Ytflihhikofkheaa
open Go.RowKit Go.Lib

def encIv (x : Iv) : List Value := [.int .i64 x.1, .int .i64 x.2]
theorem encIv_ok : Enc encIv 2 := ⟨fun _ => rfl, fun x u hu => by simp [encIv] at hu; rcases hu with rfl | rfl <;> rfl⟩
theorem tyIv : TyS Try.prog 34 48 2 16 := TyS.mk' (z := .agg #[.int .i64 0, .int .i64 0]) Try.underlying34 (by kernel_rfl) rfl (by omega)
theorem Rd.iv {w : World} {B : Nat} {A : Option Addr} {l : List Iv} (h : Rd encIv 2 w B A l) {i : Nat} (hi : i < l.length) :
    ∃ b off f t, A = some ⟨b, off, none⟩ ∧ b < B ∧ l[i]? = some (f, t) ∧ w.cell? ⟨b, off + i * 2, none⟩ = some (.int .i64 f) ∧ w.cell? ⟨b, off + i * 2 + 1, none⟩ = some (.int .i64 t) := by
  obtain ⟨b, off, ⟨f, t⟩, hA, hb, hx, hc⟩ := h.at_ hi
  exact ⟨b, off, f, t, hA, hb, hx, hc 0 _ rfl, hc 1 _ rfl⟩
end Go.Proofs.Ytflihhikofkheaa
