/- The law BillDays, walked. -/
import Derived.Test.YtlnnbkpcnhlfcaaDoorBillAwake
import Derived.Test.YtlnnbkpcnhlfcaaDoorJSliceOp
import Derived.Test.YtlnnbkpcnhlfcaaDoorBillSumsM
set_option linter.unusedSimpArgs false
namespace Go.Proofs.YtlnnbkpcnhlfcaaDoor
open Go.RowKit Go.Lib

set_option maxRecDepth 100000 in
set_option maxHeartbeats 4000000 in
theorem billDays_walk {A : Option Addr} (c : Nat) {l : List Cg} {w : World} (hr : Rd encCg 7 w w.heap.size A l) (hll : l.length ≤ 9223372036854775807) (hm : Mon w) :
    Calls Tryd.prog 7 #[.slice A l.length c] w fun e w' => e = .returned (.bool true) ∧ Below w.heap.size w w' := by
  have HR := Lib.hid hr
  have HM := Lib.hid hm
  have bW := Below.refl w.heap.size w
  clear hr hm
  go_enter Tryd.func7, Tryd.ntmps7
  by_cases q1 : 30 < (l.length : Int)
  · go_wp2_with fail; refine (awake_any (HM.out.st bW HM.out.1)).mono ?_; rintro e wl ⟨rfl, hbl⟩; have bL := bW.st hbl; go_wp2_with fail; go_ret; exact ⟨rfl, bL⟩
  have hl30 : l.length ≤ 30 := by omega
  go_wp2_with fail
  refine (days_any c HR.out hl30).mono ?_
  rintro e W1 ⟨A1, c1, A2, c2, ds, ss, rfl, hD, o1, o2, b1⟩
  have HD := Lib.hid hD
  clear hD
  go_wp2_with fail
  refine (rdays_any c (HR.out.st b1) (by omega)).mono ?_
  rintro e W2 ⟨A3, c3, A4, c4, ds2, ss2, rfl, hD2, o3, o4, b2⟩
  obtain ⟨rfl, rfl⟩ := HD.out.unique hD2
  clear hD2
  have hz1 := b1.size
  have R1 := Lib.hid ((o1.mono (Nat.le_refl _)).rd encI_ok)
  have R2 := Lib.hid (o2.rd encI_ok)
  have R3 := Lib.hid (o3.rd encI_ok)
  have R4 := Lib.hid (o4.rd encI_ok)
  have bW := b1.st b2
  have hdl : Hid (ds.length ≤ 9223372036854775807 ∧ ss.length ≤ 9223372036854775807) := Lib.hid (by
    have k1 := HD.out.few
    have k2 := itemL_len (cvs l)
    have k3 := cvs_len l
    have k4 := HD.out.len
    omega)
  clear o1 o2 o3 o4
  have C1 := Lib.hid (sameN_true c1 c3 (R1.out.st b2) R3.out hdl.out.1)
  have C2 := Lib.hid (fun (X : World) (hX : Below W2.heap.size W2 X) => sameN_true c2 c4 ((R2.out.st b2).st hX) (R4.out.st hX) hdl.out.2)
  clear R1 R2 R3 R4 hdl b1 b2
  go_wp2_with fail
  refine C1.out.mono ?_
  rintro e W3 ⟨rfl, b3⟩
  have bW := bW.st b3
  go_wp2_with fail
  refine (C2.out _ b3).mono ?_
  rintro e W4 ⟨rfl, b4⟩
  have bW := bW.st b4
  go_wp2_with fail
  refine (awake_any (HM.out.st bW HM.out.1)).mono ?_
  rintro e W5 ⟨rfl, b5⟩
  have bW := bW.st b5
  go_wp2_with fail
  go_ret
  exact ⟨rfl, bW⟩
end Go.Proofs.YtlnnbkpcnhlfcaaDoor
