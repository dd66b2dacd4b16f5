/- The reference's down, joined. -/
import Derived.Test.YtekdppnlgkfcdaaJRelHas
import Derived.Test.YtekdppnlgkfcdaaRelDownT
namespace Go.Proofs.Ytekdppnlgkfcdaa
open Go.RowKit Go.Lib

theorem rdown_any {A : Option Addr} (c : Nat) {l : List Dv} (pt pg : ByteArray) (kd t : Int) {w : World} (h : Rd encD 6 w w.heap.size A l) (hz : DsOk w l) (hl : l.length ≤ 60) (hd : ∀ d ∈ l, d.ds.length ≤ 40) :
    Calls Try.prog 30 #[.slice A l.length c, .agg #[.string pt, .int .i64 t, .string pg], .int .i64 kd] w fun e w' => e = .returned (.bool (downB l pt kd t)) ∧ Below w.heap.size w w' := by
  cases he : (l.filter (selB pt kd)).isEmpty
  · exact rdown_f c pt pg kd t h hz hl hd he
  · exact rdown_t c pt pg kd t h hz hl hd he
end Go.Proofs.Ytekdppnlgkfcdaa
