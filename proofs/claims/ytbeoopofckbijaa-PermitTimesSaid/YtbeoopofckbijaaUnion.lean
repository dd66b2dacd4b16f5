/- span.Union, walked. -/
import Derived.Test.YtbeoopofckbijaaJoins
namespace Go.Proofs.Ytbeoopofckbijaa
open Go.RowKit Go.Lib

theorem union_any {A B : Option Addr} (c d : Nat) {a b : List Iv} {w : World} (ha : Rd encIv 2 w w.heap.size A a) (hb : Rd encIv 2 w w.heap.size B b) (hla : a.length ≤ 100000000000) (hlb : b.length ≤ 100000000000) :
    Calls Try.prog 18 #[.slice A a.length c, .slice B b.length d] w fun e w' => NFr (fun t => Mem a t ∨ Mem b t) w w' e := by
  have C := Lib.hid (join2 c d ha hb hla hlb)
  clear ha hb
  go_enter Try.func18, Try.ntmps18
  go_wp2_with fail
  refine C.out.mono ?_
  rintro e w' ⟨A', c', n, rfl, h1, h2, h3, h4⟩
  have H2 := Lib.hid h2
  clear h2
  go_wp2_with fail
  go_ret
  exact ⟨A', c', n, rfl, h1, H2.out, h3, h4⟩

end Go.Proofs.Ytbeoopofckbijaa
